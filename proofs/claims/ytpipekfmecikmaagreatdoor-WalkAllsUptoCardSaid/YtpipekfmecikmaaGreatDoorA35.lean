/- Parts of the proof. -/
import Derived.Test.YtpipekfmecikmaaGreatDoorA33
import Derived.Test.YtpipekfmecikmaaGreatDoorA34
import Derived.Laws.OwnMore
set_option maxHeartbeats 0
set_option linter.all false
namespace Go.Proofs.YtpipekfmecikmaaGreatDoor
open Go Go.RowKit Go.Wk Tryz
attribute [local irreducible] W RL Does Zaq Zai retQ Calls Pu Stp RD Qy Ay Zaj
def ZBa:Prop:=∀ (Ar Az Al As:Option Addr) (cr cz cl cs:Nat) (a:DSource) (z:DZone) (Ae:Option Addr) (ce:Nat) (w:World),Zam w Ar Az Al As cr cz cl cs a->RdSl w Ae ce DEra.enc 13 z.eras->ZcH a->Zg4 a->z.eras.length<=1000000->(∀ e∈z.eras,Zjm e)->(∀ e∈z.eras,∀ x∈ZaB a.rules e,Za1 e.off x.1=true) ->
  Does prog 197 [srcV Ar Az Al As cr cz cl cs a,.agg #[.string z.name,.slice Ae z.eras.length ce]] w (fun v O=>v = .bool (ZeU a.rules z)/\O=[])
theorem ZrT {rs:List DRule}{l:List DEra}{j:Nat}(h:Zc9 rs l j=0)(d:j+1<l.length):(Zao (l.getD j dE0).til (Zae (ZaA rs (l.getD j dE0)))).2=0:=by
 unfold Zc9 at h
 dsimp only at h
 by_cases a:(l.getD j dE0).til.is≠decide (j+1<l.length)
 ·rw[if_pos a]at h;cases h
 rw[if_neg a]at h
 have c:(l.getD j dE0).til.is=true:=by rw[Decidable.not_not.1 a,dT_ d]
 rw[if_neg (by rw[c];decide)]at h
 by_cases b:ZaF (l.getD j dE0).til (Zae (ZaA rs (l.getD j dE0)))=0
 ·exact ZxR b
 ·rw[if_pos b]at h;exact absurd h b
theorem Zzu {G:Prop}(h:G:=by(first|exact PuI|(apply Zap;rfl;rfl;exact hb))):G:=h
theorem Zvr {G:Prop}(h:G:=by(first|exact PuI|(apply Zal;rfl;rfl;exact hb2))):G:=h
theorem Zym {G:Prop}(h:G:=by first|(apply Qy_y;rfl;exact Zvr)|exact QyA):G:=h
theorem ZqC {G:Prop}(h:G:=by repeat (exact QF.nil)):G:=h
set_option maxHeartbeats 0 in
theorem Zoa (Ar Az Al As:Option Addr)(D E y cs:Nat)(a:DSource)(w:World)(hF:FarS)(hW:ZBa)(Z:Zam w Ar Az Al As D E y cs a)(M:ZcH a)(hV:Zg4 a)(hZ:∀ z∈a.zones,∀ e∈z.eras,Zjm e) :
  Does prog 129 [srcV Ar Az Al As D E y cs a] w (fun v O=>v=ptV (Zbe a.rules a.zones 0)/\O=[]):=by
 have ak:=M.nz
 obtain⟨J,r⟩:∃ J,Zbe a.rules a.zones 0=J:=⟨_,rfl⟩
 rw[r]
 refine Zaa func129 rfl rfl rfl rfl ?_
 repeat (first|refine walk ?_|(refine jn ?_;(try intro F);((refine bx ?_;intro g));refine fin ?_))
 rename_i S
 obtain⟨K,hb2⟩:∃ K,g=K:=⟨_,rfl⟩
 rw[hb2]
 clear hb2 g
 refine Zah [(1,.pointer (some ⟨S,0,none⟩)),(2,.pointer (some ⟨K,0,none⟩))] [.blk K [.int .i64 0,.int .i64 0,.int .i64 0] 138,.blk S [.slice Ar a.rules.length D,.slice Az a.zones.length E,.slice Al a.links.length y,.slice As a.shifts.length cs] 27]
  (fun k:Nat=>[(4,.int .i64 k)]) (fun _=>[]) (fun k=>k<=a.zones.length/\Zbe a.rules (a.zones.drop k) k=J) (fun k=>a.zones.length - k) 0 SFA SOA ⟨Nat.zero_le _,r⟩ ?_
 clear r
 rintro i ⟨ai,d⟩
 repeat (first|refine walk ?_|(refine jn ?_;(try intro F);((refine bx ?_;intro g));refine fin ?_))
 refine Zaf rfl (fun L=>?_) (fun L=>?_)
 ·simp only[decide_eq_true_eq,Int.ofNat_lt]at L
  obtain⟨hna,ah,⟨Ae,U,H,rfl⟩,hca⟩:=Z.z i _ (List.getElem?_eq_getElem L)
  have q:=List.getElem_mem L
  rw[Zag L,Zbe]at d
  generalize a.zones[i]=z at *
  have Q:=(M.zs z q).2.1
  by_cases x:z.eras=[]
  ·rw[if_pos x]at d
   subst d
   have hb:decide ((z.eras.length:Int)=0)=true:=by rw[x];rfl
   simp only[ptV,plV,Zar.enc]
   repeat (first|(apply RL_pu;rfl;exact Zzu)|refine walk1 ?_|(refine jn ?_;(try intro F);(first|(refine bx ?_;intro g)|(refine stA ?_));first|refine⟨_,EndsA,QFRfZ0,?_⟩|refine fin ?_))
   exact rtC
  have hb:decide ((z.eras.length:Int)=0)=false:=dF_ (fun h=>x (List.eq_nil_of_length_eq_zero (by omega)))
  rw[if_neg x]at d
  obtain⟨r2,u⟩:∃ r2,Zcd a.rules z.eras i z.eras.length 0=r2:=⟨_,rfl⟩
  rw[u]at d
  have t:r2=none->∀ w',Bel w.heap.size w w'->Does prog 197 [srcV Ar Az Al As D E y cs a,.agg #[.string z.name,.slice Ae z.eras.length U]] w' (fun v O=>v = .bool (ZeU a.rules z)/\O=[]):=fun hn w' I =>
   hW Ar Az Al As D E y cs a z Ae U w' (Z.up I) (H.up I) M hV Q (fun e he=>hZ z q e he) (Zkb (u.trans hn))
  generalize ZeU a.rules z=fw at *
  repeat (first|(apply RL_pu;rfl;exact Zzu)|refine walk1 ?_|(refine jn ?_;(try intro F);(first|(refine bx ?_;intro g)|(refine stA ?_));first|refine⟨_,EndsA,QFRfZ0,?_⟩|refine fin ?_))
  obtain⟨T,N⟩:∃ T,g=T:=⟨_,rfl⟩
  rw[N]
  clear N g
  refine Zah [(1,.pointer (some ⟨S,0,none⟩)),(2,.pointer (some ⟨K,0,none⟩)),(4,.int .i64 i),(5,.pointer (some ⟨T,0,none⟩))] [.blk T [.string z.name,.slice Ae z.eras.length U] 71,.blk K [.int .i64 0,.int .i64 0,.int .i64 0] 138,.blk S [.slice Ar a.rules.length D,.slice Az a.zones.length E,.slice Al a.links.length y,.slice As a.shifts.length cs] 27]
   (fun k:Nat=>[(6,.int .i64 k)]) (fun _=>[]) (fun k=>k<=z.eras.length/\Zcd a.rules z.eras i (z.eras.length - k) k=r2/\∀ j,k=j+1->Zc9 a.rules z.eras j=0) (fun k=>z.eras.length - k) 0 SFA SOA ⟨Nat.zero_le _,u,fun j h=>by omega⟩ ?_
  clear u
  rintro k ⟨aj,c,ac⟩
  repeat (first|refine walk ?_|(refine jn ?_;(try intro F);((refine bx ?_;intro g));refine fin ?_))
  refine Zaf rfl (fun m=>?_) (fun m=>?_)
  ·simp only[decide_eq_true_eq,Int.ofNat_lt]at m
   clear hna hca
   obtain⟨hna,hca⟩:=H.rd k _ (List.getElem?_eq_getElem m)
   have aa:=List.getElem_mem m
   have ab:z.eras.getD k dE0=z.eras[k]:=by rw[List.getD_eq_getElem?_getD,List.getElem?_eq_getElem m];rfl
   obtain⟨f,hf⟩:∃ f,z.eras.length - k=f+1:=⟨z.eras.length - k - 1,by omega⟩
   rw[hf,Zcd,ab]at c
   generalize z.eras[k]=e at *
   have s:=fun w' (I:Bel w.heap.size w w')=>Zmh Ar Az Al As D E y cs a e k w' (Z.up I) M hV (hZ z q e aa)
   have R:=fun w' (I:Bel w.heap.size w w')=>Zok Ar Az Al As D E y cs a Ae U z.eras k w' hF (Z.up I) M (H.up I) Q m (fun j hj=>ZrT (ac j hj) (by omega))
   generalize Zdq a.rules e (decide (k=0))=ec at *
   generalize hNC:Zc9 a.rules z.eras k=nc at *
   obtain⟨al,ae,af,set,W,⟨is,ag,ad,⟨dk,dw,dd⟩,⟨us,ub⟩⟩⟩:=e
   simp only[DEra.enc]at s hca
   by_cases X:ec=0
   ·rw[if_neg (fun h=>h X)]at c
    subst X
    by_cases Y:nc=0
    ·rw[if_neg (fun h=>h Y)]at c
     subst Y
     repeat (first|(apply RD_Q;rfl;rfl;decide +kernel;rfl;rfl;exact QyI)|refine walk1 ?_|(refine jg ?_;(try intro F);(first|(refine Zab s ?_)|(refine Zab R ?_)|(refine bx ?_;intro g));first|refine⟨_,EndsA,QFI,?_⟩|refine fin ?_)|(refine jn ?_;(try intro F);(first|(refine bx ?_;intro g)|(apply Zan;exact PuA));refine⟨_,EndsA,QFI,?_⟩))
     exact⟨k+1,OA,⟨OA,by rw[show z.eras.length - (k+1)=f by omega];exact c,fun j hj=>by rw[show j=k by omega];exact hNC⟩,SFA,SOA⟩
    ·rw[if_pos Y]at c
     subst c
     dsimp only at d
     subst d
     have hb2:(!decide (nc=0))=true:=by rw[dF_ Y];rfl
     simp only[ptV,plV,Zar.enc]
     repeat (first|(apply RL_pu;rfl;exact Zvr)|(apply RD_Q;rfl;rfl;decide +kernel;rfl;rfl;exact Zym)|refine walk1 ?_|(refine jg ?_;(try intro F);(first|(refine Zab s ?_)|(refine Zab R ?_)|(refine bx ?_;intro g));first|refine⟨_,EndsA,ZqC,?_⟩|refine fin ?_)|(refine jn ?_;(try intro F);(first|(refine bx ?_;intro g)|(apply Zan;exact PuA));refine⟨_,EndsA,ZqC,?_⟩))
     exact rtC
   ·rw[if_pos X]at c
    subst c
    dsimp only at d
    subst d
    have hb2:(!decide (ec=0))=true:=by rw[dF_ X];rfl
    simp only[ptV,plV,Zar.enc]
    repeat (first|(apply RL_pu;rfl;exact Zvr)|(apply RD_Q;rfl;rfl;decide +kernel;rfl;rfl;exact Zym)|refine walk1 ?_|(refine jg ?_;(try intro F);(first|(refine Zab s ?_)|(refine bx ?_;intro g));first|refine⟨_,EndsA,ZqC,?_⟩|refine fin ?_)|(refine jn ?_;(try intro F);(first|(refine bx ?_;intro g)|(apply Zan;exact PuA));refine⟨_,EndsA,ZqC,?_⟩))
    exact rtC
  ·simp only[decide_eq_false_iff_not,Int.ofNat_lt]at m
   rw[show z.eras.length - k=0 by omega,Zcd]at c
   subst c
   replace t:=t rfl
   dsimp only at d
   cases fw with
   | false =>
    rw[if_pos rfl]at d
    subst d
    simp only[ptV,plV,Zar.enc]
    repeat (first|refine walk ?_|(refine jg ?_;(try intro F);((refine Zab t ?_));refine fin ?_))
    exact rtC
   | true =>
    rw[if_neg (by decide)]at d
    repeat (first|refine walk ?_|(refine jg ?_;(try intro F);((refine Zab t ?_));refine fin ?_))
    exact⟨i+1,OA,⟨OA,d⟩,SFA,SOA⟩
 ·simp only[decide_eq_false_iff_not,Int.ofNat_lt]at L
  rw[List.drop_eq_nil_of_le (by omega),Zbe]at d
  subst d
  simp only[ptV,plV,Zar.enc]
  repeat (first|refine walk ?_|(refine jn ?_;(try intro F);((refine bx ?_;intro g));refine fin ?_))
  exact rtC
def ptPz:Option (Zar × Int)->Zar × Int
 | none=>(⟨0,0,0⟩,0)
 | some x=>x
theorem ZAm (o:Option (Zar × Int)):ptV o = .tuple #[plV (ptPz o).1,.int .i64 (ptPz o).2]:=by cases o <;> rfl
theorem ZqO {G:Prop}(h:G:=by(apply Zal;rfl;rfl;exact hb)):G:=h
set_option maxHeartbeats 0 in
theorem Zol (Ar Az Al As:Option Addr)(d f c cs:Nat)(a:DSource)(w:World)(D:RapS)(C:FarS)(F:ZBa)(q:Zam w Ar Az Al As d f c cs a)(r:ZcH a)(E:SavI a)(H:∀ z∈a.zones,∀ e∈z.eras,Zjm e) :
  Does prog 85 [srcV Ar Az Al As d f c cs a] w (fun v O=>v=ptV (accD a)/\O=[]):=by
 have g:=fun w' (b:Bel w.heap.size w w')=>Zoc Ar Az Al As d f c cs a w' (q.up b) r
 have i:=fun w' (b:Bel w.heap.size w w')=>Zrj Ar Az Al As d f c cs a w' D (q.up b) r E
 have j:=fun w' (b:Bel w.heap.size w w')=>Zma Ar Az Al As d f c cs a w' (q.up b) r
 have t:=fun w' (b:Bel w.heap.size w w')=>Zoq Ar Az Al As d f c cs a w' (q.up b) r
 have m:Zfm a=none->∀ w',Bel w.heap.size w w'->Does prog 129 [srcV Ar Az Al As d f c cs a] w' (fun v O=>v=ptV (Zbe a.rules a.zones 0)/\O=[]):=fun I w' b=>Zoa Ar Az Al As d f c cs a w' C F (q.up b) r (Zl7 I) H
 have J:=fun{p e} => @ZhY a p e
 have K:∀ {p e},Zfm a=some (p,e)->e≠0:=fun h=>ZfW a.rules _ h
 have L:∀ {p e},Za0 a a.shifts [] 0=some (p,e)->e≠0:=fun h=>ZdZ a _ _ _ h
 have M:=fun{p e} => @Zip a p e
 unfold accD
 generalize Zdi a=o1 at *
 generalize Zfm a=o2 at *
 generalize Za0 a a.shifts [] 0=o3 at *
 generalize Zdm a=o4 at *
 generalize Zbe a.rules a.zones 0=o5 at *
 refine Zaa func85 rfl rfl rfl rfl ?_
 cases o1 with
 | some x =>
  obtain⟨⟨u,A,B⟩,e⟩:=x
  have hb:(!decide (e=0))=true:=by rw[dF_ (J rfl)];rfl
  simp only[Option.some_or,ptV,plV,Zar.enc]at g ⊢
  repeat (first|(apply RL_pu;rfl;exact ZqO)|(refine js ?_;(first|(refine Zab g ?_)|(refine bx ?_;intro s)))|refine walk1 ?_)
  exact rtC
 | none =>
 simp only[ptV,plV,Zar.enc]at g
 rw[Option.none_or]
 cases o2 with
 | some x =>
  obtain⟨⟨u,A,B⟩,e⟩:=x
  have hb:(!decide (e=0))=true:=by rw[dF_ (K rfl)];rfl
  simp only[Option.some_or,ptV,plV,Zar.enc]at i ⊢
  repeat (first|(apply RL_pu;rfl;exact ZqO)|(refine js ?_;(first|(refine Zab g ?_)|(refine Zab i ?_)|(refine bx ?_;intro s)))|refine walk1 ?_)
  exact rtC
 | none =>
 replace m:=m rfl
 simp only[ptV,plV,Zar.enc]at i
 rw[Option.none_or]
 cases o3 with
 | some x =>
  obtain⟨⟨u,A,B⟩,e⟩:=x
  have hb:(!decide (e=0))=true:=by rw[dF_ (L rfl)];rfl
  simp only[Option.some_or,ptV,plV,Zar.enc]at j ⊢
  repeat (first|(apply RL_pu;rfl;exact ZqO)|(refine js ?_;(first|(refine Zab g ?_)|(refine Zab i ?_)|(refine Zab j ?_)|(refine bx ?_;intro s)))|refine walk1 ?_)
  exact rtC
 | none =>
 simp only[ptV,plV,Zar.enc]at j
 rw[Option.none_or]
 cases o4 with
 | some x =>
  obtain⟨⟨u,A,B⟩,e⟩:=x
  have hb:(!decide (e=0))=true:=by rw[dF_ (M rfl)];rfl
  simp only[Option.some_or,ptV,plV,Zar.enc]at t ⊢
  repeat (first|(apply RL_pu;rfl;exact ZqO)|(refine js ?_;(first|(refine Zab g ?_)|(refine Zab i ?_)|(refine Zab j ?_)|(refine Zab t ?_)|(refine bx ?_;intro s)))|refine walk1 ?_)
  exact rtC
 | none =>
 simp only[ptV,plV,Zar.enc]at t
 rw[Option.none_or]
 rw[ZAm]at m ⊢
 generalize ptPz o5=y at *
 obtain⟨⟨u,A,B⟩,e⟩:=y
 simp only[plV,Zar.enc]at m ⊢
 repeat (first|(refine js ?_;(first|(refine Zab g ?_)|(refine Zab i ?_)|(refine Zab j ?_)|(refine Zab t ?_)|(refine Zab m ?_)|(refine bx ?_;intro s)))|refine walk ?_)
 exact rtC
end Go.Proofs.YtpipekfmecikmaaGreatDoor
namespace Go.Wk
open Go Go.RowKit
theorem Zxt {P:Program}{n:Nat}{wr:World}{fr:Fr}{O:List It}{ty t t':TypeId}{α:Type}[DecidableEq α]{enc:α->List Value}{x y:Operand}{i j:α}{b:Bool}[hE:EqE P t α enc](a:ev fr x=some (.agg (enc i).toArray))(c:ev fr y=some (.agg (enc j).toArray))(h:decide (i=j)=b) :
  Pu P n wr fr O (.binOp .eql t x y t') ty (.bool b):=h▸Pu_eqlE a c
end Go.Wk
namespace Go.Proofs.YtpipekfmecikmaaGreatDoor
open Go Go.RowKit Go.Wk Tryz
attribute [local irreducible] W RL Does Zaq Zai retQ Calls Pu Stp RD Qy Ay Zaj
def prE (x:Int × List UInt8):List Value:=[.int .i64 x.1,.string (bz x.2)]
theorem prE.len (x:Int × List UInt8):(prE x).length=2:=rfl
def abX (x:List UInt8):List Value:=[.string (bz x)]
theorem abX.len (x:List UInt8):(abX x).length=1:=rfl
instance:EqE prog 276 (Int × ByteArray) pEnc where
 h r s w:=by
  unfold pEnc
  simp[go_sem,Ze5]
  rcases r with⟨_,_⟩
  rcases s with⟨_,_⟩
  simp only[Zmx,Result.ok.injEq,and_true]
  rw[Bool.eq_iff_iff]
  simp
 g:=by kernel_rfl
structure FwK where
 i:Nat
 kn:Bool
structure FwR where
 k:Nat
 A1:Option Addr
 c1:Nat
 A2:Option Addr
 c2:Nat
 sz:Int
 acc:List (Int × List UInt8) × List (List UInt8)
 t:Nat
theorem Zxk (x:Int × List UInt8)(l:List (Int × List UInt8)):(addP x l).length<=l.length+1:=by unfold addP;split <;> simp
theorem Zxl (x:List UInt8)(l:List (List UInt8)):(addA x l).length<=l.length+1:=by unfold addA;split <;> simp
theorem ZgF (x:List UInt8):∀ l:List (List UInt8),Zdd (l++[x])=Zdd l+(x.length+1)
 | []=>by simp[Zdd]
 | y::l=>by rw[List.cons_append,Zdd,Zdd,ZgF x l];omega
structure FwI (acc:List (Int × List UInt8) × List (List UInt8))(sz:Int)(t:Nat):Prop where
 p:acc.1.length<=t
 a:acc.2.length<=t
 s:sz=Zdd acc.2
 b:Zdd acc.2<=10*t
theorem FwI.step {c:List (Int × List UInt8) × List (List UInt8)}{sz:Int}{t:Nat}(h:FwI c sz t)(o:Int)(x:List UInt8)(d:x.length<=7):FwI (addP (o,x) c.1,addA x c.2) (Zdd (addA x c.2)) (t+1) :=
 ⟨by have:=Zxk (o,x) c.1;have:=h.p;dsimp only;omega,by have:=Zxl x c.2;have:=h.a;dsimp only;omega,rfl,by
  have:=h.b
  dsimp only
  unfold addA
  split
  ·omega
  ·rw[ZgF];omega⟩
theorem Zo8 {α:Type}[DecidableEq α](x:α):∀ l:List α,(l.any fun y=>decide (y=x))=decide (x∈l)
 | []=>by simp
 | y::l=>by
  rw[List.any_cons,Zo8 x l,Bool.eq_iff_iff]
  simp only[Bool.or_eq_true,decide_eq_true_eq,List.mem_cons]
  exact⟨fun h=>h.elim (fun h => .inl h.symm) .inr,fun h=>h.elim (fun h => .inl h.symm) .inr⟩
theorem Zfp {G G':Prop}(k:G')(h:Hold G'->G:=by intro k9;(refine walk ?_);exact k9.out):G:=h ⟨k⟩
theorem ZDl {G:Prop}(h:G:=by(first|(apply ZaG;rfl;rfl;omega;omega;(intro w' _ hO;exact(Zbc (hO.of (A := .row (.slice A5 S.length c5) 155 2 S.length (S.flatMap Za6)) cS_) hg1).1))|(apply Zch;rfl;(focus repeat' constructor);exact hgn;rfl)|(apply Ze3;rfl;(focus repeat' constructor);exact hgx))):G:=h
theorem Zyo {G:Prop}(h:G:=by first|(apply Qy_y;rfl;exact ZDl)|exact QyA):G:=h
theorem ZyQ {G:Prop}(h:G:=by repeat (first|exact QF.nil|(apply QF.mk;rfl;rfl;decide +kernel;exact Zyo))):G:=h
theorem Zzw {G:Prop}(h:G:=by(first|(apply ZaG;rfl;rfl;omega;omega;(intro w' _ hO;exact(Zbc (hO.of (A := .row (.slice A1 P.length c1) 276 2 P.length (P.flatMap prE)) cS_) hp1).1))|(apply Zch;rfl;(focus repeat' constructor);exact hpn;rfl)|(apply Zxt (i:=((y1,bz y2):Int × ByteArray)) (j:=(e.off+x.1,bz ab)) (enc:=pEnc);rfl;rfl;exact hq))):G:=h
theorem Zyn {G:Prop}(h:G:=by first|(apply Qy_y;rfl;exact Zzw)|exact QyA):G:=h
theorem ZCG {G:Prop}(h:G:=by repeat (first|exact QF.nil|(apply QF.mk;rfl;rfl;decide +kernel;exact Zyn))):G:=h
theorem ZDk {G:Prop}(h:G:=by(first|(apply ZaG;rfl;rfl;omega;omega;(intro w' _ hO;exact(Zbc (hO.of (A := .row (.slice A2 L.length c2) 9 1 L.length (L.flatMap abX)) cS_) ha1).1))|(apply ZcU;rfl;(focus repeat' constructor);exact ha1)|(apply Zci;rfl;rfl;exact hq))):G:=h
theorem ZDj {G:Prop}(h:G:=by(apply Zbl;rfl;rfl;first|exact b1|exact b2)):G:=h
theorem ZDi {G:Prop}(h:G:=by(apply Zbl;rfl;rfl;exact b1)):G:=h
set_option maxHeartbeats 0 in
theorem Zoi (Ar Az Al As:Option Addr)(E H D cs:Nat)(a:DSource)(z:DZone)(Ae:Option Addr)(J:Nat)(w:World)(hA:Zam w Ar Az Al As E H D cs a)(hE:RdSl w Ae J DEra.enc 13 z.eras)(hS:ZcH a)(hV:Zg4 a)(aq:z.eras.length<=1000000)
  (hZ:∀ e∈z.eras,Zjm e) (hH:∀ e∈z.eras,∀ x∈ZaB a.rules e,Za1 e.off x.1=true) :
  Does prog 197 [srcV Ar Az Al As E H D cs a,.agg #[.string z.name,.slice Ae z.eras.length J]] w (fun v O=>v = .bool (ZeU a.rules z)/\O=[]):=by
 have hn:=hS.nr
 unfold ZeU
 obtain⟨R,hR⟩:∃ R,erGo a.rules z.eras ([],[])=R:=⟨_,rfl⟩
 rw[hR]
 refine Zaa func197 rfl rfl rfl rfl ?_
 repeat (first|refine Zfp ?_|(refine jn ?_;(try intro F);(refine bx ?_;intro d);refine fin ?_))
 rename_i b2
 obtain⟨q,ag⟩:∃ q,d=q:=⟨_,rfl⟩
 rw[ag]
 clear ag d
 refine Zdy 276 2 ?_
 refine Zdy 9 1 ?_
 refine Zah [(2,.pointer (some ⟨b2,0,none⟩)),(3,.pointer (some ⟨q,0,none⟩))] [.blk q [.string z.name,.slice Ae z.eras.length J] 71,.blk b2 [.slice Ar a.rules.length E,.slice Az a.zones.length H,.slice Al a.links.length D,.slice As a.shifts.length cs] 27]
  (fun g:FwR=>[(5,.slice g.A1 g.acc.1.length g.c1),(6,.slice g.A2 g.acc.2.length g.c2),(7,.int .i64 g.sz),(8,.int .i64 g.k)]) (fun g=>[.row (.slice g.A1 g.acc.1.length g.c1) 276 2 g.acc.1.length (g.acc.1.flatMap prE),.row (.slice g.A2 g.acc.2.length g.c2) 9 1 g.acc.2.length (g.acc.2.flatMap abX)])
  (fun g=>g.k<=z.eras.length/\FwI g.acc g.sz g.t/\g.t<=g.k*2000000/\erGo a.rules (z.eras.drop g.k) g.acc=R) (fun g=>z.eras.length - g.k) ⟨0,none,0,none,0,0,([],[]),0⟩ SFA SOA ⟨Nat.zero_le _,⟨Nat.le_refl _,Nat.le_refl _,rfl,Nat.le_refl _⟩,Nat.le_refl _,hR⟩ ?_
 clear hR
 rintro⟨k,A1,c1,A2,c2,sz,acc,t⟩ ⟨hk,hI,ht,hi⟩
 dsimp only at hk hI ht hi ⊢
 repeat (first|refine Zfp ?_|(refine jn ?_;(try intro F);(refine bx ?_;intro d);refine fin ?_))
 refine Zaf rfl (fun hc=>?_) (fun hc=>?_)
 ·simp only[decide_eq_true_eq,Int.ofNat_lt]at hc
  obtain⟨hna,hca⟩:=hE.rd k _ (List.getElem?_eq_getElem hc)
  have Y:=List.getElem_mem hc
  rw[Zag hc,erGo]at hi
  generalize z.eras[k]=e at *
  have ap:=Zex a.rules e
  have ah:=Zhf (e:=e) fun r hr=>(hS.rs r hr).2
  have aj:=ZfC (e:=e) (fun r h=>hV.i64 r h) (hZ e Y).save
  have ai:=fun w' (hw:Bel w.heap.size w w')=>Zhi Ar Az Al As E H D cs a e w' (hA.up hw) hn
  have ae:=hZ e Y
  have ak:=hH e Y
  generalize ZaB a.rules e=S at *
  obtain⟨R2,X⟩:∃ R2,stGo e S acc=R2:=⟨_,rfl⟩
  rw[X]at hi
  simp only[DEra.enc]at ai hca
  repeat (first|(apply RL_pu;rfl;exact PuI)|refine walk1 ?_|(refine jg ?_;(try intro F);(first|(apply Zad (h:=fun w' hw _=>ai w' hw);rfl;rintro v O' ⟨A5,c5,rfl,rfl⟩)|(refine bx ?_;intro d));first|refine⟨_,EndsA,QFI,?_⟩|refine fin ?_))
  generalize d=b9
  refine Zah [(2,.pointer (some ⟨b2,0,none⟩)),(3,.pointer (some ⟨q,0,none⟩)),(8,.int .i64 k),(9,.pointer (some ⟨b9,0,none⟩)),(10,.slice A5 S.length c5)]
   [.blk b9 [.int .i64 e.off,.int .i64 e.kind,.int .i64 e.save,.string e.set,.string e.format,.bool e.til.is,.int .i64 e.til.year,.int .i64 e.til.month,.int .i64 e.til.day.kind,.int .i64 e.til.day.week,.int .i64 e.til.day.day,.int .i64 e.til.at_.sec,.int .i64 e.til.at_.base] 75,.row (.slice A5 S.length c5) 155 2 S.length (S.flatMap Za6),.blk q [.string z.name,.slice Ae z.eras.length J] 71,.blk b2 [.slice Ar a.rules.length E,.slice Az a.zones.length H,.slice Al a.links.length D,.slice As a.shifts.length cs] 27]
   (fun g:FwR=>[(5,.slice g.A1 g.acc.1.length g.c1),(6,.slice g.A2 g.acc.2.length g.c2),(7,.int .i64 g.sz),(11,.int .i64 g.k)]) (fun g=>[.row (.slice g.A1 g.acc.1.length g.c1) 276 2 g.acc.1.length (g.acc.1.flatMap prE),.row (.slice g.A2 g.acc.2.length g.c2) 9 1 g.acc.2.length (g.acc.2.flatMap abX)])
   (fun g=>g.k<=S.length/\FwI g.acc g.sz g.t/\g.t<=k*2000000+g.k/\stGo e (S.drop g.k) g.acc=R2) (fun g=>S.length - g.k) ⟨0,A1,c1,A2,c2,sz,acc,t⟩ SFA SOA ⟨Nat.zero_le _,hI,Nat.le_trans ht (Nat.le_add_right _ _),X⟩ ?_
  clear X hI ht A1 c1 A2 c2 sz acc t
  rintro⟨j,A1,c1,A2,c2,sz,acc,t⟩ ⟨hj,hI,ht,hi2⟩
  dsimp only at hj hI ht hi2 ⊢
  repeat (first|refine Zfp ?_|(refine jn ?_;(try intro F);(refine bx ?_;intro d);refine fin ?_))
  refine Zaf rfl (fun f=>?_) (fun f=>?_)
  ·simp only[decide_eq_true_eq,Int.ofNat_lt]at f
   have hg1:=ZaD Za6.len S j _ 0 _ (List.getElem?_eq_getElem f) rfl
   have hgn:∀ i v,(Za6 S[j])[i]?=some v->(S.flatMap Za6)[j*2+i]?=some v:=fun i v hv=>ZaD Za6.len S j _ i v (List.getElem?_eq_getElem f) hv
   have hgx:=hgn 0 _ rfl
   have ac:=List.getElem_mem f
   rw[Zag f,stGo]at hi2
   generalize S[j]=x at *
   have Z:=fun w'=>Ze8 e.format x.2 e.off x.1 w' ae.fmt (ah x ac) ae.off (aj x ac)
   have hal:=ZnA e.format.data.toList e.off x.1 x.2.data.toList
   have aa:=ak x ac
   unfold Za1 at aa
   simp only[Bool.and_eq_true,decide_eq_true_eq]at aa
   obtain⟨ar,aZ⟩:=aa
   generalize Zdx e.format.data.toList e.off x.1 x.2.data.toList=abr at *
   obtain⟨ab,er⟩:=abr
   dsimp only at hi2 hal
   replace Z:∀ w',Does prog 91 [.string e.format,.int .i64 e.off,.agg #[.int .i64 x.1,.string x.2]] w' (fun v O=>v = .tuple #[.string (bz ab),.int .i64 er]/\O=[]):=Z
   simp only[Za6]at hgn hg1
   have m:=hI.step (e.off+x.1) ab hal
   have hp:=hI.p
   have ha:=hI.a
   have am:=hI.b
   have u:=hI.s
   obtain⟨P,L⟩:=acc
   dsimp only at hp ha am u m hi2 ⊢
   have af:=Zul ab
   repeat (refine ZlY ?_)
   apply W_block
   repeat (first|(apply RD_Q;rfl;rfl;decide +kernel;rfl;rfl;exact Zyo)|refine walkB1 ?_|(refine jg ?_;(try intro F);(first|(refine Zab (fun w' _=>Z w') ?_)|(refine stA ?_));refine⟨_,EndsA,ZyQ,?_⟩)|(refine jn ?_;(try intro F);(first|(refine bx ?_;intro d)|(apply Zan;exact PuA));refine⟨_,EndsA,ZyQ,?_⟩)|(apply RD_W;rfl;intro d))
   generalize d=b14
   obtain⟨K1,M⟩:∃ K,(P.any fun y=>decide (y=(e.off+x.1,ab)))=K:=⟨_,rfl⟩
   have W:addP (e.off+x.1,ab) P=if K1 then P else P++[(e.off+x.1,ab)]:=by
    unfold addP
    rw[<- M,Zo8]
    simp only[decide_eq_true_eq]
   refine Zb4 (fun fr' O'=>Sub ((15,.bool K1)::[(2,.pointer (some ⟨b2,0,none⟩)),(3,.pointer (some ⟨q,0,none⟩)),(8,.int .i64 k),(9,.pointer (some ⟨b9,0,none⟩)),(10,.slice A5 S.length c5),(11,.int .i64 j),(12,.string (bz ab)),(7,.int .i64 sz),(5,.slice A1 P.length c1),(6,.slice A2 L.length c2),(14,.pointer (some ⟨b14,0,none⟩))]) fr'/\SubO [.row (.slice A1 P.length c1) 276 2 P.length (P.flatMap prE),.blk b14 [.int .i64 (e.off+x.1),.string (bz ab)] 276,.blk b9 [.int .i64 e.off,.int .i64 e.kind,.int .i64 e.save,.string e.set,.string e.format,.bool e.til.is,.int .i64 e.til.year,.int .i64 e.til.month,.int .i64 e.til.day.kind,.int .i64 e.til.day.week,.int .i64 e.til.day.day,.int .i64 e.til.at_.sec,.int .i64 e.til.at_.base] 75,.row (.slice A5 S.length c5) 155 2 S.length (S.flatMap Za6),.blk q [.string z.name,.slice Ae z.eras.length J] 71,.blk b2 [.slice Ar a.rules.length E,.slice Az a.zones.length H,.slice Al a.links.length D,.slice As a.shifts.length cs] 27,.row (.slice A2 L.length c2) 9 1 L.length (L.flatMap abX)] O') ?_ ?_
   ·apply W_block
    clear hi2 hi hI m W
    refine Zah [(2,.pointer (some ⟨b2,0,none⟩)),(3,.pointer (some ⟨q,0,none⟩)),(8,.int .i64 k),(9,.pointer (some ⟨b9,0,none⟩)),(10,.slice A5 S.length c5),(11,.int .i64 j),(12,.string (bz ab)),(7,.int .i64 sz),(5,.slice A1 P.length c1),(6,.slice A2 L.length c2),(14,.pointer (some ⟨b14,0,none⟩))] [.row (.slice A1 P.length c1) 276 2 P.length (P.flatMap prE),.blk b14 [.int .i64 (e.off+x.1),.string (bz ab)] 276,.blk b9 [.int .i64 e.off,.int .i64 e.kind,.int .i64 e.save,.string e.set,.string e.format,.bool e.til.is,.int .i64 e.til.year,.int .i64 e.til.month,.int .i64 e.til.day.kind,.int .i64 e.til.day.week,.int .i64 e.til.day.day,.int .i64 e.til.at_.sec,.int .i64 e.til.at_.base] 75,.row (.slice A5 S.length c5) 155 2 S.length (S.flatMap Za6),.blk q [.string z.name,.slice Ae z.eras.length J] 71,.blk b2 [.slice Ar a.rules.length E,.slice Az a.zones.length H,.slice Al a.links.length D,.slice As a.shifts.length cs] 27,.row (.slice A2 L.length c2) 9 1 L.length (L.flatMap abX)] (fun g:FwK=>[(15,.bool g.kn),(16,.int .i64 g.i)]) (fun _=>[]) (fun g=>g.i<=P.length/\(g.kn||(P.drop g.i).any fun y=>decide (y=(e.off+x.1,ab)))=K1) (fun g=>P.length - g.i) ⟨0,false⟩ SFA SOA ⟨Nat.zero_le _,M⟩ ?_
    clear M
    rintro⟨i,kn⟩ ⟨hi1,hi3⟩
    dsimp only at hi1 hi3 ⊢
    repeat (first|refine Zfp ?_|(refine jn ?_;(try intro F);(refine bx ?_;intro d);refine fin ?_))
    refine Zaf rfl (fun c=>?_) (fun c=>?_)
    ·simp only[decide_eq_true_eq,Int.ofNat_lt]at c
     rw[Zag c,List.any_cons]at hi3
     cases kn with
     | true =>
      repeat (first|refine walk ?_|(refine jn ?_;(try intro F);((apply Zan;exact PuA));refine fin ?_))
      exact⟨⟨i+1,true⟩,OA,⟨OA,hi3⟩,SFA,SOA⟩
     | false =>
      have hp1:=ZaD prE.len P i _ 0 _ (List.getElem?_eq_getElem c) rfl
      have hpn:∀ j v,(prE P[i])[j]?=some v->(P.flatMap prE)[i*2+j]?=some v:=fun j v hv=>ZaD prE.len P i _ j v (List.getElem?_eq_getElem c) hv
      generalize P[i]=y at *
      obtain⟨y1,y2⟩:=y
      obtain⟨Q,hQ⟩:∃ Q,decide (((y1,y2):Int × List UInt8)=(e.off+x.1,ab))=Q:=⟨_,rfl⟩
      have hq:decide (((y1,bz y2):Int × ByteArray)=(e.off+x.1,bz ab))=Q:=by
       rw[<- hQ]
       refine decide_eq_decide.2 ⟨fun h=>?_,fun h=>?_⟩
       ·injection h with h1 h2;rw[h1,Zqm h2]
       ·injection h with h1 h2;rw[h1,h2]
      rw[hQ,Bool.false_or]at hi3
      simp only[prE]at hp1 hpn
      repeat (first|(apply RL_pu;rfl;exact Zzw)|(apply RD_Q;rfl;rfl;decide +kernel;rfl;rfl;exact Zyn)|refine walk1 ?_|(refine jn ?_;(try intro F);(first|(refine bx ?_;intro d)|(apply Zan;exact PuA));refine⟨_,EndsA,ZCG,?_⟩))
      exact⟨⟨i+1,Q⟩,OA,⟨OA,hi3⟩,SFA,SOA⟩
    ·simp only[decide_eq_false_iff_not,Int.ofNat_lt]at c
     rw[List.drop_eq_nil_of_le (by omega),List.any_nil,Bool.or_false]at hi3
     subst hi3
     repeat (first|refine Zfp ?_|(refine jn ?_;(try intro F);(refine bx ?_;intro d);refine fin ?_))
     exact⟨rfl,SFA,SOA⟩
   rintro fr' O' ⟨U,hO⟩
   apply thenQ_n
   refine ZcG U hO ?_
   clear U hO fr' O' M
   refine W_seq ?_
   refine Zb4 (fun fr' O'=>∃ (A3:Option Addr) (I:Nat),Sub [(2,.pointer (some ⟨b2,0,none⟩)),(3,.pointer (some ⟨q,0,none⟩)),(8,.int .i64 k),(9,.pointer (some ⟨b9,0,none⟩)),(10,.slice A5 S.length c5),(11,.int .i64 j),(12,.string (bz ab)),(7,.int .i64 sz),(5,.slice A3 (addP (e.off+x.1,ab) P).length I),(6,.slice A2 L.length c2)] fr'/\SubO [.row (.slice A3 (addP (e.off+x.1,ab) P).length I) 276 2 (addP (e.off+x.1,ab) P).length ((addP (e.off+x.1,ab) P).flatMap prE),.blk b9 [.int .i64 e.off,.int .i64 e.kind,.int .i64 e.save,.string e.set,.string e.format,.bool e.til.is,.int .i64 e.til.year,.int .i64 e.til.month,.int .i64 e.til.day.kind,.int .i64 e.til.day.week,.int .i64 e.til.day.day,.int .i64 e.til.at_.sec,.int .i64 e.til.at_.base] 75,.row (.slice A5 S.length c5) 155 2 S.length (S.flatMap Za6),.blk q [.string z.name,.slice Ae z.eras.length J] 71,.blk b2 [.slice Ar a.rules.length E,.slice Az a.zones.length H,.slice Al a.links.length D,.slice As a.shifts.length cs] 27,.row (.slice A2 L.length c2) 9 1 L.length (L.flatMap abX)] O') ?_ ?_
   ·rw[W]
    cases K1 with
    | true =>
     simp only[if_true]
     repeat (first|refine Zfp ?_|(refine jn ?_;(try intro F);(refine bx ?_;intro d);refine fin ?_))
     exact⟨rfl,A1,c1,SFA,SOA⟩
    | false =>
     simp only[Bool.false_eq_true,if_false]
     repeat (first|refine walk ?_|(refine jn ?_;(try intro F);(first|(apply ZaC;rfl;rfl;(intro A' c';(focus repeat' constructor));(intro w' _ hO;exact Zbr (hO.of cS_));rfl;rfl;(simp only[maxLen];omega);omega;intro A' c' al f c)|(refine bx ?_;intro d));refine fin ?_))
     refine⟨rfl,A',c',?_,?_⟩
     ·rw[List.length_append]
      exact SFA
     ·rw[List.length_append,List.flatMap_append]
      exact SOA
   rintro fr' O' ⟨A3,I,U,hO⟩
   apply thenQ_n
   refine ZcG U hO ?_
   clear U hO fr' O' A1 c1 W b14
   generalize addP (e.off+x.1,ab) P=P2 at *
   obtain⟨K2,N⟩:∃ K,(L.any fun y=>decide (y=ab))=K:=⟨_,rfl⟩
   have ad:addA ab L=if K2 then L else L++[ab]:=by
    unfold addA
    rw[<- N,Zo8]
    simp only[decide_eq_true_eq]
   repeat (refine ZlY ?_)
   refine Zb4 (fun fr' O'=>Sub ((15,.bool K2)::[(2,.pointer (some ⟨b2,0,none⟩)),(3,.pointer (some ⟨q,0,none⟩)),(8,.int .i64 k),(9,.pointer (some ⟨b9,0,none⟩)),(10,.slice A5 S.length c5),(11,.int .i64 j),(12,.string (bz ab)),(7,.int .i64 sz),(5,.slice A3 P2.length I),(6,.slice A2 L.length c2)]) fr'/\SubO [.row (.slice A3 P2.length I) 276 2 P2.length (P2.flatMap prE),.blk b9 [.int .i64 e.off,.int .i64 e.kind,.int .i64 e.save,.string e.set,.string e.format,.bool e.til.is,.int .i64 e.til.year,.int .i64 e.til.month,.int .i64 e.til.day.kind,.int .i64 e.til.day.week,.int .i64 e.til.day.day,.int .i64 e.til.at_.sec,.int .i64 e.til.at_.base] 75,.row (.slice A5 S.length c5) 155 2 S.length (S.flatMap Za6),.blk q [.string z.name,.slice Ae z.eras.length J] 71,.blk b2 [.slice Ar a.rules.length E,.slice Az a.zones.length H,.slice Al a.links.length D,.slice As a.shifts.length cs] 27,.row (.slice A2 L.length c2) 9 1 L.length (L.flatMap abX)] O') ?_ ?_
   ·apply W_block
    clear hi2 hi m ad
    refine Zah [(2,.pointer (some ⟨b2,0,none⟩)),(3,.pointer (some ⟨q,0,none⟩)),(8,.int .i64 k),(9,.pointer (some ⟨b9,0,none⟩)),(10,.slice A5 S.length c5),(11,.int .i64 j),(12,.string (bz ab)),(7,.int .i64 sz),(5,.slice A3 P2.length I),(6,.slice A2 L.length c2)] [.row (.slice A3 P2.length I) 276 2 P2.length (P2.flatMap prE),.blk b9 [.int .i64 e.off,.int .i64 e.kind,.int .i64 e.save,.string e.set,.string e.format,.bool e.til.is,.int .i64 e.til.year,.int .i64 e.til.month,.int .i64 e.til.day.kind,.int .i64 e.til.day.week,.int .i64 e.til.day.day,.int .i64 e.til.at_.sec,.int .i64 e.til.at_.base] 75,.row (.slice A5 S.length c5) 155 2 S.length (S.flatMap Za6),.blk q [.string z.name,.slice Ae z.eras.length J] 71,.blk b2 [.slice Ar a.rules.length E,.slice Az a.zones.length H,.slice Al a.links.length D,.slice As a.shifts.length cs] 27,.row (.slice A2 L.length c2) 9 1 L.length (L.flatMap abX)] (fun g:FwK=>[(15,.bool g.kn),(17,.int .i64 g.i)]) (fun _=>[]) (fun g=>g.i<=L.length/\(g.kn||(L.drop g.i).any fun y=>decide (y=ab))=K2) (fun g=>L.length - g.i) ⟨0,false⟩ SFA SOA ⟨Nat.zero_le _,N⟩ ?_
    clear N
    rintro⟨i,kn⟩ ⟨hi1,hi3⟩
    dsimp only at hi1 hi3 ⊢
    repeat (first|refine Zfp ?_|(refine jn ?_;(try intro F);(refine bx ?_;intro d);refine fin ?_))
    refine Zaf rfl (fun c=>?_) (fun c=>?_)
    ·simp only[decide_eq_true_eq,Int.ofNat_lt]at c
     rw[Zag c,List.any_cons]at hi3
     cases kn with
     | true =>
      repeat (first|refine walk ?_|(refine jn ?_;(try intro F);((apply Zan;exact PuA));refine fin ?_))
      exact⟨⟨i+1,true⟩,OA,⟨OA,hi3⟩,SFA,SOA⟩
     | false =>
      have ha1:=ZaD abX.len L i _ 0 _ (List.getElem?_eq_getElem c) rfl
      generalize L[i]=y at *
      obtain⟨Q,hQ⟩:∃ Q,decide (y=ab)=Q:=⟨_,rfl⟩
      have hq:decide (bz y=bz ab)=Q:=by
       rw[<- hQ]
       exact decide_eq_decide.2 ⟨fun h=>Zqm h,fun h=>by rw[h]⟩
      rw[hQ,Bool.false_or]at hi3
      repeat (first|(apply RL_pu;rfl;exact ZDk)|(apply RD_Q;rfl;rfl;decide +kernel;rfl;rfl;exact QyRfW2)|refine walk1 ?_|(refine jn ?_;(try intro F);(first|(refine bx ?_;intro d)|(apply Zan;exact PuA));refine⟨_,EndsA,QFRfW2,?_⟩))
      exact⟨⟨i+1,Q⟩,OA,⟨OA,hi3⟩,SFA,SOA⟩
    ·simp only[decide_eq_false_iff_not,Int.ofNat_lt]at c
     rw[List.drop_eq_nil_of_le (by omega),List.any_nil,Bool.or_false]at hi3
     subst hi3
     repeat (first|refine Zfp ?_|(refine jn ?_;(try intro F);(refine bx ?_;intro d);refine fin ?_))
     exact⟨rfl,SFA,SOA⟩
   rintro fr' O' ⟨U,hO⟩
   apply thenQ_n
   refine ZcG U hO ?_
   clear U hO fr' O' N
   rw[ad]at m hi2
   cases K2 with
   | true =>
    simp only[if_true]at m hi2
    repeat (first|refine Zfp ?_|(refine jn ?_;(try intro F);(refine bx ?_;intro d);refine fin ?_))
    exact⟨⟨j+1,A3,I,A2,c2,sz,(P2,L),t+1⟩,OA,⟨OA,by rw[u];exact m,OA,hi2⟩,SFA,SOA⟩
   | false =>
    simp only[Bool.false_eq_true,if_false]at m hi2
    have an:=ZgF ab L
    repeat (first|refine walk ?_|(refine jn ?_;(try intro F);(first|(apply ZaC;rfl;rfl;(intro A' c';(focus repeat' constructor));(intro w' _ hO;exact Zbr (hO.of cS_));rfl;rfl;(simp only[maxLen];omega);omega;intro A' c' al f c)|(refine bx ?_;intro d));refine fin ?_))
    have ao:sz+(((bz ab).size:Int)+1)=(Zdd (L++[ab]):Int):=by rw[an,af,u];omega
    rw[ao]
    refine⟨⟨j+1,A3,I,A',c',_,(P2,L++[ab]),t+1⟩,OA,⟨OA,m,OA,hi2⟩,?_,?_⟩
    ·dsimp only
     rw[List.length_append]
     exact SFA
    ·dsimp only
     rw[List.length_append,List.flatMap_append]
     exact SOA
  ·simp only[decide_eq_false_iff_not,Int.ofNat_lt]at f
   rw[List.drop_eq_nil_of_le (by omega),stGo]at hi2
   subst hi2
   repeat (first|refine Zfp ?_|(refine jn ?_;(try intro F);(refine bx ?_;intro d);refine fin ?_))
   exact⟨⟨k+1,A1,c1,A2,c2,sz,acc,t⟩,OA,⟨OA,hI,OA,hi⟩,SFA,SOA⟩
 ·simp only[decide_eq_false_iff_not,Int.ofNat_lt]at hc
  rw[List.drop_eq_nil_of_le (by omega),erGo]at hi
  subst hi
  obtain rfl:=hI.s
  by_cases T:acc.1.length<=120
  ·have b1:decide ((acc.1.length:Int)<=120)=true:=dT_ (by omega)
   have b2:decide ((Zdd acc.2:Int)<=250)=decide (Zdd acc.2<=250):=by rw[decide_eq_decide];omega
   rw[dT_ T,Bool.true_and]
   repeat (first|(apply RL_pu;rfl;exact ZDj)|(apply RD_Q;rfl;rfl;decide +kernel;rfl;rfl;exact QyRfW3)|refine walk1 ?_|(refine jn ?_;(try intro F);(first|(refine bx ?_;intro d)|(apply Zan;exact PuA));refine⟨_,EndsA,QFRfW3,?_⟩))
   exact rtA
  ·have b1:decide ((acc.1.length:Int)<=120)=false:=dF_ (by omega)
   rw[dF_ T,Bool.false_and]
   repeat (first|(apply RL_pu;rfl;exact ZDi)|(apply RD_Q;rfl;rfl;decide +kernel;rfl;rfl;exact QyRfW4)|refine walk1 ?_|(refine jn ?_;(try intro F);(first|(refine bx ?_;intro d)|(apply Zan;exact PuA));refine⟨_,EndsA,QFRfW4,?_⟩))
   exact rtA
end Go.Proofs.YtpipekfmecikmaaGreatDoor
namespace Go.Wk
open Go Go.RowKit
section
variable {P:Program}{n:Nat}{wr:World}{fr:Fr}{O:List It}{ty:TypeId}{pos:String}{af:Array Edge}{dst:Option Tmp}{g:Option (Nat × Bool)}{Kp:Value->List It->Prop}
theorem ZuI {t e sz d:Nat}{l c:Operand}{B A:IntKind}{N:Nat}{z xs:List Value}[hE:ElemZ P t e sz d][hZ:ZeroT P e z](F:ev fr l=some (.int B N))(E:ev fr c=some (.int A N))(G:N*sz<=16777216)(o:d*N<=281474976710656)(p:N<=maxLen)
  (I:(madeCells z.toArray (N*sz)).toList=xs) (K:∀ b,Kp (.slice (some ⟨b,0,none⟩) N N) (.row (.slice (some ⟨b,0,none⟩) N N) e sz N xs::O)):Stp P n wr fr O ⟨dst,.makeSlice t l c,ty,pos,af,g⟩ Kp :=
 ZbZ fun a w m=>by
  obtain⟨i,D,H,j,y,s,q,J,x⟩:=ElemZ.parts hE.h
  have h:=hZ.h
  unfold ZfA at h
  rw[j]at h
  simp only[y,Option.some.injEq]at h
  have u:D.cells=z.toArray:=by rw[<- h]
  obtain⟨w',f,v,C⟩:=run_makeSlice_full (P:=P) w 0 t e i D sz H j y s B A N G (by rw[q];exact o) p (Nat.zero_le _)
  rw[u,I]at v
  refine⟨_,w',_,?_,?_,?_,K w.heap.size⟩
  ·simp[execOp,m.sim.ev F,m.sim.ev E,f]
  ·exact m.old.grown C (ZsL _ _ _ _ f) m.old.size (fun k r=>by cases r)
  ·refine m.own.grow (O':=[.row (.slice (some ⟨w.heap.size,0,none⟩) N N) e sz N xs]) ((Bel.refl _ _).grown C (ZsL _ _ _ _ f) (Nat.le_refl _) (fun k r=>by cases r)) m.old.size ⟨fun i j=>?_,fun i j b o=>?_,List.pairwise_singleton _ _⟩
   ·rw[List.mem_singleton.1 j]
    exact v
   ·rw[List.mem_singleton.1 j]at o
    simp only[It.S,Value.ownBlock,Option.some.injEq]at o
    subst o
    exact⟨Nat.le_refl _,(v.lt w.heap.size rfl).2⟩
end
end Go.Wk
namespace Go.Proofs.YtpipekfmecikmaaGreatDoor
open Go Go.RowKit Go.Wk Tryz
def okR (r:DRule):Bool:=decide (r.name.size<=1000000000)&&(decide (r.letter.size<=1000000000)&&(decide (-9223372036854775808<=r.save)&&decide (r.save<=9223372036854775807)))
def okI (n:Int):Bool:=decide (-9223372036854775808<=n)&&decide (n<=9223372036854775807)
def okE (e:DEra):Bool:=okI e.off&&(okI e.save&&(okI e.kind&&(decide (e.format.size<=1000000000)&&decide (e.set.size<=1000000000))))
def okZ (z:DZone):Bool:=decide (z.name.size<=1000000000)&&(decide (z.eras.length<=1000000)&&z.eras.all okE)
def okL (l:DLink):Bool:=decide (l.target.size<=1000000000)&&decide (l.name.size<=1000000000)
def okD (s:DSource):Bool:=decide (s.rules.length<=1000000)&&(decide (s.zones.length<=1000000)&&(decide (s.links.length<=1000000)&&(decide (s.shifts.length<=2000000)&&(s.rules.all okR&&(s.zones.all okZ&&s.links.all okL)))))
theorem Zti {n:Int}(h:okI n=true):I64 n:=by
 unfold okI at h
 rw[Bool.and_eq_true,decide_eq_true_eq,decide_eq_true_eq]at h
 exact h
theorem Ztj {s:DSource}(h:okD s=true):ZcH s/\SavI s/\∀ z∈s.zones,∀ e∈z.eras,Zjm e:=by
 unfold okD at h
 simp only[Bool.and_eq_true,decide_eq_true_eq,List.all_eq_true]at h
 obtain⟨f,g,i,j,k,m,n⟩:=h
 have c:∀ r∈s.rules,_:=fun r c=>by
  have:=k r c
  unfold okR at this
  simp only[Bool.and_eq_true,decide_eq_true_eq]at this
  exact this
 have b:∀ z∈s.zones,z.name.size<=1000000000/\z.eras.length<=1000000/\∀ e∈z.eras,okE e=true:=fun z b=>by
  have:=m z b
  unfold okZ at this
  simp only[Bool.and_eq_true,decide_eq_true_eq,List.all_eq_true]at this
  exact this
 have a:∀ e,okE e=true->I64 e.off/\I64 e.save/\I64 e.kind/\e.format.size<=1000000000/\e.set.size<=1000000000:=fun e a=>by
  unfold okE at a
  simp only[Bool.and_eq_true,decide_eq_true_eq]at a
  exact⟨Zti a.1,Zti a.2.1,Zti a.2.2.1,a.2.2.2⟩
 refine⟨⟨f,g,i,j,fun r h=>⟨(c r h).1,(c r h).2.1⟩,fun z h=>⟨(b z h).1,(b z h).2.1,fun e d=>⟨(a e ((b z h).2.2 e d)).2.2.2.2,(a e ((b z h).2.2 e d)).2.2.2.1⟩⟩,fun l h=>?_⟩,fun r h=>⟨(c r h).2.2.1,(c r h).2.2.2⟩,fun z h e d=>?_⟩
 ·have:=n l h
  unfold okL at this
  simp only[Bool.and_eq_true,decide_eq_true_eq]at this
  exact this
 ·have:=a e ((b z h).2.2 e d)
  exact⟨this.1,this.2.1,this.2.2.1,this.2.2.2.1⟩
theorem ZD1 {w w':World}{Ar Az Al As:Option Addr}{c d b cs:Nat}{a:DSource}(i:LibW w)(g:Glob w)(e:Bel w.heap.size w w')(h:okD a=true)(f:Zam w' Ar Az Al As c d b cs a):Zdc w' Ar Az Al As c d b cs a :=
 ⟨i.up e,g.up e,f,(Ztj h).1,(Ztj h).2.1,(Ztj h).2.2⟩
def exS (rs:List DRule)(es:List DEra)(ls:List DLink)(ss:List ByteArray):DSource:=⟨rs,[⟨⟨#[90]⟩,es⟩],ls,ss⟩
theorem ZDW {w:World}{Ar Ae Al As:Option Addr}{e b d cs bz:Nat}{rs:List DRule}{a:List DEra}{ls:List DLink}{f:List ByteArray}(j:RdSl w Ar e DRule.enc 11 rs)(m:(It.blk bz [.string ⟨#[90]⟩,.slice Ae a.length b] 71).sat w)(g:RdSl w Ae b DEra.enc 13 a)
  (h:RdSl w Al d DLink.enc 2 ls) (k:RdSl w As cs ZaR 1 f):Zam w Ar (some ⟨bz,0,none⟩) Al As e 1 d cs (exS rs a ls f) :=
 ⟨j,Nat.le_refl 1,by decide,Zwd (ZoB (c:=1) (l:=[(⟨⟨⟨#[90]⟩,a⟩,Ae,b⟩:ZE)]) ZE.len (Nat.le_refl 1) (by decide) m) (fun q i=>by rw[List.mem_singleton.1 i];exact g),h,k⟩
attribute [local irreducible] W RL Does Zaq Zai retQ Calls Pu Stp RD Qy Ay Zaj
theorem ZwK {α:Type}(enc:α->List Value){sz:Nat}(b:∀ a,(enc a).length=sz)(j:0<sz)(d:α)(N:Nat):(madeCells (enc d).toArray (N*sz)).toList=(List.replicate N d).flatMap enc:=by
 have c:=ZbU b (List.replicate N d)
 rw[List.length_replicate]at c
 apply List.ext_getElem?
 intro i
 by_cases h:i<N*sz
 ·have k:i / sz<N:=Nat.div_lt_of_lt_mul (by rw[Nat.mul_comm];exact h)
  have e:i % sz<(enc d).length:=by rw[b];exact Nat.mod_lt _ j
  have g:=ZaD b (List.replicate N d) (i / sz) d (i % sz) ((enc d)[i % sz]) (by rw[List.getElem?_replicate,if_pos k]) (List.getElem?_eq_getElem e)
  rw[Nat.mul_comm,Nat.div_add_mod]at g
  rw[g]
  have f:i % (enc d).length<(enc d).length:=by rw[b];rw[b]at e;exact e
  simp only[madeCells,Array.getElem?_toList,Array.getElem?_map,List.size_toArray]
  rw[Array.getElem?_eq_getElem (by simpa using h)]
  simp only[Array.getElem_range,Option.map_some,Option.some.injEq]
  rw[getElem!_pos _ _ (by simpa using f),List.getElem_toArray]
  congr 1
  rw[b]
 ·rw[List.getElem?_eq_none (l:=(madeCells (enc d).toArray (N*sz)).toList) (by rw[Array.length_toList,size_madeCells];omega),List.getElem?_eq_none (by rw[c];omega)]
structure EvH where
 A:Option Addr
 c:Nat
 l:List Zac
def EvH.v (h:EvH):Value := .slice h.A h.l.length h.c
def EvH.enc (h:EvH):List Value:=[h.v]
def EvH.row (h:EvH):It:=Zli h.A h.c h.l
theorem EvH.len (h:EvH):h.enc.length=1:=rfl
def nilV:Value := .slice none 0 0
def hNil:EvH:=⟨none,0,[]⟩
def Zno:List Value:=List.replicate 701 nilV
theorem z701:(madeCells ([.slice none 0 0]:List Value).toArray (701*1)).toList=Zno:=by
 have:=ZwK EvH.enc EvH.len (by decide) hNil 701
 rw[show EvH.enc hNil=[.slice none 0 0] from rfl]at this
 rw[this]
 have h:∀ n,(List.replicate n hNil).flatMap EvH.enc=List.replicate n nilV:=fun n=>by
  induction n with
  | zero=>rfl
  | succ n ih=>rw[List.replicate_succ,List.flatMap_cons,ih];rfl
 exact h 701
structure XG where
 k:Nat
 A:Option Addr
 c:Nat
 m:Nat
 ys:List Value
 acc:List Zac
 xs:List Value
 hr:List EvH
def Zbd (hr:List EvH)(v:Value)(k:Nat):List Value:=hr.reverse.map EvH.v++v::List.replicate k nilV
theorem Zme (a:List EvH)(v c:Value)(k:Nat){j:Nat}(b:a.length=j):(Zbd a v k).set j c=Zbd a c k:=by
 unfold Zbd
 rw[List.set_append_right _ _ (by simp[b]),show j - (a.reverse.map EvH.v).length=0 by simp[b],List.set_cons_zero]
theorem Zmg (a:List EvH)(v:Value)(k:Nat){j:Nat}(b:a.length=j):(Zbd a v k)[j]?=some v:=by
 unfold Zbd
 rw[List.getElem?_append_right (by simp[b]),show j - (a.reverse.map EvH.v).length=0 by simp[b],List.getElem?_cons_zero]
theorem Zmf (a:List EvH)(v:Value)(k:Nat):(Zbd a v k).length=a.length+1+k:=by simp[Zbd];omega
theorem ZkT (h:EvH)(a:List EvH)(k:Nat):Zbd a h.v (k+1)=Zbd (h::a) nilV k:=by
 simp[Zbd,List.replicate_succ]
theorem Zqa:∀ l:List EvH,l.flatMap EvH.enc=l.map EvH.v
 | []=>rfl
 | h::l=>by rw[List.flatMap_cons,Zqa l];rfl
def ZD5 (Y:Nat->List Zac)(N:Nat)(v:Value)(O:List It):Prop:=∃ (b:Nat) (hr:List EvH),v = .slice (some ⟨b,0,none⟩) N N/\hr.length=N/\(∀ q,q<N->∃ h:EvH,hr.reverse[q]?=some h/\h.l=Y q) /\
 O = .row (.slice (some ⟨b,0,none⟩) N N) 252 1 N (hr.reverse.flatMap EvH.enc)::hr.map EvH.row
attribute [local irreducible] Zno Zbd
theorem ZDf {G:Prop}(h:G:=by(first|(apply ZaG;rfl;rfl;omega;omega;(intro w' _ hO;nofun))|(apply ZcU;rfl;(focus repeat' constructor);exact hxk))):G:=h
theorem Zyk {G:Prop}(h:G:=by first|(apply Qy_y;rfl;exact ZDf)|exact QyA):G:=h
theorem ZCE {G:Prop}(h:G:=by repeat (first|exact QF.nil|(apply QF.mk;rfl;rfl;decide +kernel;exact Zyk))):G:=h
set_option maxHeartbeats 0 in
theorem Zrm (A:Option Addr)(c:Nat)(l:List DRule)(w:World)(U:RdSl w A c DRule.enc 11 l)(hn:l.length<=1000000) :
  Does prog 247 [.slice A l.length c] w (ZD5 (Zde l) 701):=by
 have j:=fun(i:Nat) (y:Int) (r:DRule) (f:l[i]?=some r) w' (hw:Bel w.heap.size w w')=>Zf2 A c l i y r w' (U.up hw) f
 have u:Zno=Zbd [] nilV 700:=by
  unfold Zno Zbd
  rw[List.reverse_nil,List.map_nil,List.nil_append,<- List.replicate_succ]
 have I:∀ q:Nat,Zde l q=Zb6 (Zae l) (1850+(q:Int)) l 0:=fun q=>rfl
 generalize Zde l=Y at *
 generalize Zae l=L at *
 refine Zaa func247 rfl rfl rfl rfl ?_
 repeat (first|refine walk ?_|(refine jn ?_;(try intro F);((apply ZuI (N:=701) (z:=[.slice none 0 0]);rfl;rfl;decide;decide;decide;exact z701;intro b));refine fin ?_))
 obtain⟨M,W⟩:∃ M:Nat,M=700:=⟨_,rfl⟩
 rw[<- W]at u
 rw[show(701:Nat)=M+1 by omega]
 refine Zah [(0,.slice A l.length c),(3,.slice (some ⟨b,0,none⟩) (M+1) (M+1))] [] (fun g:XG=>[(4,.int .i64 g.k)]) (fun g => .row (.slice (some ⟨b,0,none⟩) (M+1) (M+1)) 252 1 (M+1) g.xs::g.hr.map EvH.row)
  (fun g=>g.k<=M+1/\g.hr.length=g.k/\(g.k<M+1->g.xs=Zbd g.hr nilV (M - g.k))/\(g.k=M+1->g.xs=g.hr.reverse.map EvH.v)/\∀ q,q<g.k->∃ h,g.hr.reverse[q]?=some h/\h.l=Y q) (fun g=>M+1 - g.k) ⟨0,none,0,0,[],[],Zno,[]⟩ SFA STA ⟨Nat.zero_le _,rfl,fun _=>u,fun h=>absurd h (by dsimp only;omega),fun q D=>absurd D (Nat.not_lt_zero _)⟩ ?_
 clear u
 rintro⟨k,A1,c1,m,ys,acc,xs,hr⟩ ⟨hk,hrl,hx,hx2,hH⟩
 dsimp only at hk hrl hx hx2 hH ⊢
 clear A1 c1 m ys acc
 repeat (refine walk ?_)
 refine Zaf rfl (fun s=>?_) (fun s=>?_)
 ·simp only[decide_eq_true_eq,Int.ofNat_lt]at s
  have hx:=hx s
  obtain⟨N2,x⟩:∃ N2,M - k=N2:=⟨_,rfl⟩
  rw[x]at hx
  repeat (refine walk ?_)
  refine Zdy 91 3 ?_
  refine Zah [(0,.slice A l.length c),(3,.slice (some ⟨b,0,none⟩) (M+1) (M+1)),(4,.int .i64 k)] [] (fun g:XG=>[(5,.int .i64 g.k)]) (fun g => .row (.slice g.A g.m g.c) 91 3 g.m g.ys :: .row (.slice (some ⟨b,0,none⟩) (M+1) (M+1)) 252 1 (M+1) g.xs::hr.map EvH.row)
   (fun g=>g.k<=l.length/\g.m=g.acc.length/\g.ys=g.acc.flatMap Zac.enc/\g.m<=g.k/\g.xs=Zbd hr (.slice g.A g.m g.c) N2/\g.acc++Zb6 L (1850+k) (l.drop g.k) g.k=Y k) (fun g=>l.length - g.k) ⟨0,none,0,0,[],[],xs,[]⟩ SFA STA ⟨Nat.zero_le _,rfl,rfl,Nat.le_refl _,hx,(I k).symm⟩ ?_
  clear hx2 hx
  rintro⟨i,A1,c1,m,ys,acc,xs,hr0⟩ ⟨hil,hm,hy,hmi,hx,f⟩
  dsimp only at hil hm hy hmi hx f ⊢
  clear hr0
  repeat (refine walk ?_)
  refine Zaf rfl (fun d=>?_) (fun d=>?_)
  ·simp only[decide_eq_true_eq,Int.ofNat_lt]at d
   have t:=j i (1850+(k:Int)) _ (List.getElem?_eq_getElem d)
   rw[Zag d,Zb6]at f
   generalize onR L l[i] i (1850+(k:Int))=o at *
   have hxk:xs[k*1]?=some (.slice A1 m c1):=by rw[hx];exact Zmg hr _ N2 (by omega)
   have H:∀ A' c',lay xs (k*1) [.slice A' (m+1) c']=Zbd hr (.slice A' (m+1) c') N2:=fun A' c'=>by rw[hx];exact Zme hr _ _ N2 (by omega)
   have aa:xs.length=M+1:=by rw[hx,Zmf];omega
   cases o with
   | none =>
    simp only[evV,Zac.enc,dEv0,Option.isSome,Option.toList,List.nil_append]at t f
    repeat (first|refine walk ?_|(refine jg ?_;(try intro F);(first|(refine Zab t ?_)|(refine bx ?_;intro J));refine fin ?_))
    exact⟨⟨i+1,A1,c1,m,ys,acc,xs,[]⟩,OA,⟨OA,hm,hy,OA,hx,f⟩,SFA,STA⟩
   | some e =>
    obtain⟨R,Q,K⟩:=e
    simp only[evV,Zac.enc,Option.isSome,Option.toList]at t f
    repeat (first|(refine js ?_;(first|(refine Zab t ?_)|(refine bx ?_;intro J)))|(apply RD_Q;rfl;rfl;decide +kernel;rfl;rfl;exact Zyk)|refine walk1 ?_|(refine RD_Lw ?_;intro F;(first|(apply ZaC;rfl;rfl;(intro A' c';(focus repeat' constructor));(intro w' _ hO;exact Zbr (hO.of cS_));rfl;rfl;(simp only[maxLen];omega);omega;intro A' c' X d Z)|(apply Zkw;rfl;rfl;(focus repeat' constructor);rfl;rfl;rfl;omega;decide;exact H _ _));refine⟨_,EndsA,ZCE,?_⟩)|(apply RD_W;rfl;intro J))
    exact⟨⟨i+1,A',c',m+1,ys++[.int .i64 R,.int .i64 Q,.int .i64 K],acc++[⟨R,Q,K⟩],Zbd hr (.slice A' (m+1) c') N2,[]⟩,OA,⟨OA,by simp[hm],by rw[hy];simp[Zac.enc],OA,rfl,by rw[<- f];simp⟩,SFA,STA⟩
  ·simp only[decide_eq_false_iff_not,Int.ofNat_lt]at d
   rw[List.drop_eq_nil_of_le (by omega),Zb6,List.append_nil]at f
   repeat (refine walk ?_)
   refine⟨⟨k+1,none,0,0,[],[],xs,⟨A1,c1,acc⟩::hr⟩,OA,⟨OA,by simp[hrl],fun h=>?_,fun h=>?_,fun q D=>?_⟩,SFA,?_⟩
   ·dsimp only at h ⊢
    obtain⟨N3,rfl⟩:∃ N3,N2=N3+1:=⟨N2 - 1,by omega⟩
    rw[hx,hm,show M - (k+1)=N3 by omega]
    exact ZkT ⟨A1,c1,acc⟩ hr N3
   ·dsimp only at h ⊢
    obtain rfl:N2=0:=by omega
    rw[hx,hm]
    unfold Zbd
    simp[EvH.v]
   ·dsimp only at D ⊢
    rw[List.reverse_cons]
    by_cases E:q<k
    ·obtain⟨h,S,T⟩:=hH q E
     exact⟨h,by rw[List.getElem?_append_left (by simp;omega)];exact S,T⟩
    ·obtain rfl:q=k:=by omega
     exact⟨⟨A1,c1,acc⟩,by rw[List.getElem?_append_right (by simp;omega)];simp[hrl],f⟩
   ·subst hm hy
    dsimp only
    rw[List.map_cons,show EvH.row ⟨A1,c1,acc⟩ = .row (.slice A1 acc.length c1) 91 3 acc.length (acc.flatMap Zac.enc) from rfl]
    exact STA
 ·simp only[decide_eq_false_iff_not,Int.ofNat_lt]at s
  obtain rfl:k=M+1:=by omega
  have hx:=hx2 rfl
  repeat (refine walk ?_)
  exact ret_1 _ (.row (.slice (some ⟨b,0,none⟩) (M+1) (M+1)) 252 1 (M+1) xs::hr.map EvH.row) (.tmp rfl) (.cons .here (by rw[show(List.map EvH.row hr).append []=List.map EvH.row hr from List.append_nil _];exact .refl _)) ⟨b,hr,rfl,hrl,hH,by rw[Zqa,<- hx]⟩
