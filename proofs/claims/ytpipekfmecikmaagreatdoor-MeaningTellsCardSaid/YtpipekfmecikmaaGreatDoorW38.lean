/- Parts of the proof. -/
import Derived.Test.YtpipekfmecikmaaGreatDoorW30
import Derived.Test.YtpipekfmecikmaaGreatDoorW36
import Derived.Test.YtpipekfmecikmaaGreatDoorW37
import Derived.Test.YtpipekfmecikmaaGreatDoorW35
import Derived.Test.YtpipekfmecikmaaGreatDoorW23
import Derived.Test.YtpipekfmecikmaaGreatDoorW34
import Derived.Test.YtpipekfmecikmaaGreatDoorW22
import Derived.Test.YtpipekfmecikmaaGreatDoorW05
import Derived.Laws.OwnMore
import Derived.Test.YtpipekfmecikmaaGreatDoorW10
import Derived.Test.YtpipekfmecikmaaGreatDoorW29
set_option maxHeartbeats 4000000
set_option linter.unusedVariables false
set_option linter.unusedSimpArgs false
namespace Go.Proofs.YtpipekfmecikmaaGreatDoor
open Go Go.RowKit Go.Wk
attribute [local irreducible] W RL Does Zat Zaj retQ Calls Pu Stp RD Qy Ay Zak
def ZAx:Prop:=∀ (Ar Az Al As:Option Addr) (cr cz cl cs:Nat) (a:DSource) (z:DZone) (Ae:Option Addr) (ce:Nat) (w:World),Zal w Ar Az Al As cr cz cl cs a->RdSl w Ae ce DEra.enc 13 z.eras->ZcX a->ZgJ a->z.eras.length<=1000000->(∀ e∈z.eras,Zjs e)->(∀ e∈z.eras,∀ x∈ZaB a.rules e,ZaW e.off x.1=true) ->
  Does Tryz.prog 197 [srcV Ar Az Al As cr cz cl cs a,.agg #[.string z.name,.slice Ae z.eras.length ce]] w (fun v O=>v = .bool (ZeA a.rules z)/\O=[])
theorem ZrY {rs:List DRule}{l:List DEra}{j:Nat}(h:ZcS rs l j=0)(d:j+1<l.length):(Zao (l.getD j dE0).til (Zag (ZaA rs (l.getD j dE0)))).2=0:=by
 unfold ZcS at h
 dsimp only at h
 by_cases a:(l.getD j dE0).til.is≠decide (j+1<l.length)
 ·rw[if_pos a]at h;cases h
 rw[if_neg a]at h
 have c:(l.getD j dE0).til.is=true:=by rw[Decidable.not_not.1 a,decide_eq_true d]
 rw[if_neg (by rw[c];decide)]at h
 by_cases b:ZaD (l.getD j dE0).til (Zag (ZaA rs (l.getD j dE0)))=0
 ·exact Zxw b
 ·rw[if_pos b]at h;exact absurd h b
theorem ZqO {G:Prop}(h:G:=by(first|exact PuI|(apply Zap;rfl;rfl;exact hb))):G:=h
theorem ZnD {G:Prop}(h:G:=by(first|exact PuI|(apply Zan;rfl;rfl;exact hb2))):G:=h
theorem ZuC {G:Prop}(h:G:=by first|(apply Qy_y;rfl;exact ZnD)|exact QyA):G:=h
theorem ZqA {G:Prop}(h:G:=by repeat (first|exact QF.nil|(apply QF.mk;rfl;rfl;decide +kernel;exact ZuC))):G:=h
set_option maxHeartbeats 4000000 in
theorem Zn9 (Ar Az Al As:Option Addr)(H I E cs:Nat)(a:DSource)(w:World)(hF:FarS)(hW:ZAx)(hA:Zal w Ar Az Al As H I E cs a)(Q:ZcX a)(hV:ZgJ a)(hZ:∀ z∈a.zones,∀ e∈z.eras,Zjs e) :
  Does Tryz.prog 129 [srcV Ar Az Al As H I E cs a] w (fun v O=>v=ptV (Za8 a.rules a.zones 0)/\O=[]):=by
 have hnz:=Q.nz
 obtain⟨L,t⟩:∃ L,Za8 a.rules a.zones 0=L:=⟨_,rfl⟩
 rw[t]
 refine Zaa Tryz.func129 rfl rfl rfl rfl ?_
 repeat (first|refine walk ?_|(refine jn ?_;(try intro F);(first|(refine bx ?_;intro c)|(refine stA ?_)|(apply Zad;exact PuA));refine fin ?_)|(apply RD_W;rfl;intro c))
 rename_i U
 obtain⟨M,hb2⟩:∃ M,c=M:=⟨_,rfl⟩
 rw[hb2]
 clear hb2 c
 refine Zai [(1,.pointer (some ⟨U,0,none⟩)),(2,.pointer (some ⟨M,0,none⟩))] [.blk M [.int .i64 0,.int .i64 0,.int .i64 0] 138,.blk U [.slice Ar a.rules.length H,.slice Az a.zones.length I,.slice Al a.links.length E,.slice As a.shifts.length cs] 27]
  (fun k:Nat=>[(4,.int .i64 k)]) (fun _=>[]) (fun k=>k<=a.zones.length/\Za8 a.rules (a.zones.drop k) k=L) (fun k=>a.zones.length - k) 0 SFA SOA ⟨Nat.zero_le _,t⟩ ?_
 clear t
 rintro i ⟨hil,q⟩
 repeat (first|refine walk ?_|(refine jn ?_;(try intro F);(first|(refine bx ?_;intro c)|(refine stA ?_)|(apply Zad;exact PuA));refine fin ?_)|(apply RD_W;rfl;intro c))
 refine Zaf rfl (fun N=>?_) (fun N=>?_)
 ·simp only[decide_eq_true_eq,Int.ofNat_lt]at N
  obtain⟨hna,cs1,⟨Ae,X,J,rfl⟩,hca⟩:=hA.z i _ (List.getElem?_eq_getElem N)
  have s:=List.getElem_mem N
  rw[Zah N,Za8]at q
  generalize a.zones[i]=z at *
  have S:=(Q.zs z s).2.1
  by_cases D:z.eras=[]
  ·rw[if_pos D]at q
   subst q
   have hb:decide ((z.eras.length:Int)=0)=true:=by rw[D];rfl
   simp only[ptV,plV,Zaq.enc]
   repeat (first|(apply RL_pu;rfl;exact ZqO)|(apply RD_Q;rfl;rfl;decide +kernel;rfl;rfl;exact QyRfZ0)|refine walk1 ?_|(refine jn ?_;(try intro F);(first|(refine bx ?_;intro c)|(refine stA ?_)|(apply Zad;first|exact ZqO|exact PuA));first|refine⟨_,EndsA,QFRfZ0,?_⟩|refine fin ?_)|(apply RD_W;rfl;intro c))
   exact rtC
  have hb:decide ((z.eras.length:Int)=0)=false:=decide_eq_false (fun h=>D (List.eq_nil_of_length_eq_zero (by omega)))
  rw[if_neg D]at q
  obtain⟨r2,y⟩:∃ r2,Zb1 a.rules z.eras i z.eras.length 0=r2:=⟨_,rfl⟩
  rw[y]at q
  have x:r2=none->∀ w',Bel w.heap.size w w'->Does Tryz.prog 197 [srcV Ar Az Al As H I E cs a,.agg #[.string z.name,.slice Ae z.eras.length X]] w' (fun v O=>v = .bool (ZeA a.rules z)/\O=[]):=fun hn w' K =>
   hW Ar Az Al As H I E cs a z Ae X w' (hA.up K) (J.up K) Q hV S (fun e he=>hZ z s e he) (Zkb (y.trans hn))
  generalize ZeA a.rules z=fw at *
  repeat (first|(apply RL_pu;rfl;exact ZqO)|(apply RD_Q;rfl;rfl;decide +kernel;rfl;rfl;exact QyRfZ0)|refine walk1 ?_|(refine jn ?_;(try intro F);(first|(refine bx ?_;intro c)|(refine stA ?_)|(apply Zad;first|exact ZqO|exact PuA));first|refine⟨_,EndsA,QFRfZ0,?_⟩|refine fin ?_)|(apply RD_W;rfl;intro c))
  obtain⟨W,R⟩:∃ W,c=W:=⟨_,rfl⟩
  rw[R]
  clear R c
  refine Zai [(1,.pointer (some ⟨U,0,none⟩)),(2,.pointer (some ⟨M,0,none⟩)),(4,.int .i64 i),(5,.pointer (some ⟨W,0,none⟩))] [.blk W [.string z.name,.slice Ae z.eras.length X] 71,.blk M [.int .i64 0,.int .i64 0,.int .i64 0] 138,.blk U [.slice Ar a.rules.length H,.slice Az a.zones.length I,.slice Al a.links.length E,.slice As a.shifts.length cs] 27]
   (fun k:Nat=>[(6,.int .i64 k)]) (fun _=>[]) (fun k=>k<=z.eras.length/\Zb1 a.rules z.eras i (z.eras.length - k) k=r2/\∀ j,k=j+1->ZcS a.rules z.eras j=0) (fun k=>z.eras.length - k) 0 SFA SOA ⟨Nat.zero_le _,y,fun j h=>by omega⟩ ?_
  clear y
  rintro k ⟨hkl,m,hpr⟩
  repeat (first|refine walk ?_|(refine jn ?_;(try intro F);(first|(refine bx ?_;intro c)|(refine stA ?_)|(apply Zad;exact PuA));refine fin ?_)|(apply RD_W;rfl;intro c))
  refine Zaf rfl (fun r=>?_) (fun r=>?_)
  ·simp only[decide_eq_true_eq,Int.ofNat_lt]at r
   clear hna hca
   obtain⟨hna,hca⟩:=J.rd k _ (List.getElem?_eq_getElem r)
   have hem:=List.getElem_mem r
   have hgd:z.eras.getD k dE0=z.eras[k]:=by rw[List.getD_eq_getElem?_getD,List.getElem?_eq_getElem r];rfl
   obtain⟨f,hf⟩:∃ f,z.eras.length - k=f+1:=⟨z.eras.length - k - 1,by omega⟩
   rw[hf,Zb1,hgd]at m
   generalize z.eras[k]=e at *
   have u:=fun w' (K:Bel w.heap.size w w')=>Zl9 Ar Az Al As H I E cs a e k w' (hA.up K) Q hV (hZ z s e hem)
   have T:=fun w' (K:Bel w.heap.size w w')=>Zoi Ar Az Al As H I E cs a Ae X z.eras k w' hF (hA.up K) Q (J.up K) S r (fun j hj=>ZrY (hpr j hj) (by omega))
   generalize Zda a.rules e (decide (k=0))=ec at *
   generalize hNC:ZcS a.rules z.eras k=nc at *
   obtain⟨off,kind,save,set,Y,⟨is,year,month,⟨dk,dw,dd⟩,⟨us,ub⟩⟩⟩:=e
   simp only[DEra.enc]at u hca
   by_cases Z:ec=0
   ·rw[if_neg (fun h=>h Z)]at m
    subst Z
    by_cases h2:nc=0
    ·rw[if_neg (fun h=>h h2)]at m
     subst h2
     repeat (first|(apply RL_pu;rfl;exact PuI)|(apply RD_Q;rfl;rfl;decide +kernel;rfl;rfl;exact QyI)|refine walk1 ?_|(refine jg ?_;(try intro F);(first|(refine Zab u ?_)|(refine Zab T ?_)|(refine bx ?_;intro c)|(refine stA ?_));first|refine⟨_,EndsA,QFI,?_⟩|refine fin ?_)|(refine jn ?_;(try intro F);(first|(refine bx ?_;intro c)|(refine stA ?_)|(apply Zad;first|exact PuI|exact PuA));first|refine⟨_,EndsA,QFI,?_⟩|refine fin ?_)|(apply RD_W;rfl;intro c))
     exact⟨k+1,OA,⟨OA,by rw[show z.eras.length - (k+1)=f by omega];exact m,fun j hj=>by rw[show j=k by omega];exact hNC⟩,SFA,SOA⟩
    ·rw[if_pos h2]at m
     subst m
     dsimp only at q
     subst q
     have hb2:(!decide (nc=0))=true:=by rw[decide_eq_false h2];rfl
     simp only[ptV,plV,Zaq.enc]
     repeat (first|(apply RL_pu;rfl;exact ZnD)|(apply RD_Q;rfl;rfl;decide +kernel;rfl;rfl;exact ZuC)|refine walk1 ?_|(refine jg ?_;(try intro F);(first|(refine Zab u ?_)|(refine Zab T ?_)|(refine bx ?_;intro c)|(refine stA ?_));first|refine⟨_,EndsA,ZqA,?_⟩|refine fin ?_)|(refine jn ?_;(try intro F);(first|(refine bx ?_;intro c)|(refine stA ?_)|(apply Zad;first|exact ZnD|exact PuA));first|refine⟨_,EndsA,ZqA,?_⟩|refine fin ?_)|(apply RD_W;rfl;intro c))
     exact rtC
   ·rw[if_pos Z]at m
    subst m
    dsimp only at q
    subst q
    have hb2:(!decide (ec=0))=true:=by rw[decide_eq_false Z];rfl
    simp only[ptV,plV,Zaq.enc]
    repeat (first|(apply RL_pu;rfl;exact ZnD)|(apply RD_Q;rfl;rfl;decide +kernel;rfl;rfl;exact ZuC)|refine walk1 ?_|(refine jg ?_;(try intro F);(first|(refine Zab u ?_)|(refine bx ?_;intro c)|(refine stA ?_));first|refine⟨_,EndsA,ZqA,?_⟩|refine fin ?_)|(refine jn ?_;(try intro F);(first|(refine bx ?_;intro c)|(refine stA ?_)|(apply Zad;first|exact ZnD|exact PuA));first|refine⟨_,EndsA,ZqA,?_⟩|refine fin ?_)|(apply RD_W;rfl;intro c))
    exact rtC
  ·simp only[decide_eq_false_iff_not,Int.ofNat_lt]at r
   rw[show z.eras.length - k=0 by omega,Zb1]at m
   subst m
   replace x:=x rfl
   dsimp only at q
   cases fw with
   | false =>
    rw[if_pos rfl]at q
    subst q
    simp only[ptV,plV,Zaq.enc]
    repeat (first|refine walk ?_|(refine jg ?_;(try intro F);(first|(refine Zab x ?_)|(refine bx ?_;intro c)|(refine stA ?_));refine fin ?_)|(refine jn ?_;(try intro F);(first|(refine bx ?_;intro c)|(refine stA ?_)|(apply Zad;exact PuA));refine fin ?_)|(apply RD_W;rfl;intro c))
    exact rtC
   | true =>
    rw[if_neg (by decide)]at q
    repeat (first|refine walk ?_|(refine jg ?_;(try intro F);(first|(refine Zab x ?_)|(refine bx ?_;intro c)|(refine stA ?_));refine fin ?_)|(refine jn ?_;(try intro F);(first|(refine bx ?_;intro c)|(refine stA ?_)|(apply Zad;exact PuA));refine fin ?_)|(apply RD_W;rfl;intro c))
    exact⟨i+1,OA,⟨OA,q⟩,SFA,SOA⟩
 ·simp only[decide_eq_false_iff_not,Int.ofNat_lt]at N
  rw[List.drop_eq_nil_of_le (by omega),Za8]at q
  subst q
  simp only[ptV,plV,Zaq.enc]
  repeat (first|refine walk ?_|(refine jn ?_;(try intro F);(first|(refine bx ?_;intro c)|(refine stA ?_)|(apply Zad;exact PuA));refine fin ?_)|(apply RD_W;rfl;intro c))
  exact rtC
def ptPz:Option (Zaq × Int)->Zaq × Int
 | none=>(⟨0,0,0⟩,0)
 | some x=>x
theorem ZzL (o:Option (Zaq × Int)):ptV o = .tuple #[plV (ptPz o).1,.int .i64 (ptPz o).2]:=by cases o <;> rfl
theorem ZqN {G:Prop}(h:G:=by(apply Zan;rfl;rfl;exact hb)):G:=h
set_option maxHeartbeats 4000000 in
theorem Zok (Ar Az Al As:Option Addr)(d f c cs:Nat)(a:DSource)(w:World)(D:RapS)(C:FarS)(F:ZAx)(q:Zal w Ar Az Al As d f c cs a)(r:ZcX a)(E:SavI a)(H:∀ z∈a.zones,∀ e∈z.eras,Zjs e) :
  Does Tryz.prog 85 [srcV Ar Az Al As d f c cs a] w (fun v O=>v=ptV (accD a)/\O=[]):=by
 have g:=fun w' (b:Bel w.heap.size w w')=>Zoa Ar Az Al As d f c cs a w' (q.up b) r
 have i:=fun w' (b:Bel w.heap.size w w')=>Zrn Ar Az Al As d f c cs a w' D (q.up b) r E
 have j:=fun w' (b:Bel w.heap.size w w')=>Zl2 Ar Az Al As d f c cs a w' (q.up b) r
 have t:=fun w' (b:Bel w.heap.size w w')=>Zoo Ar Az Al As d f c cs a w' (q.up b) r
 have m:Ze6 a=none->∀ w',Bel w.heap.size w w'->Does Tryz.prog 129 [srcV Ar Az Al As d f c cs a] w' (fun v O=>v=ptV (Za8 a.rules a.zones 0)/\O=[]):=fun I w' b=>Zn9 Ar Az Al As d f c cs a w' C F (q.up b) r (ZlZ I) H
 have J:=fun{p e} => @ZhS a p e
 have K:∀ {p e},Ze6 a=some (p,e)->e≠0:=fun h=>ZfA a.rules _ h
 have L:∀ {p e},ZaV a a.shifts [] 0=some (p,e)->e≠0:=fun h=>ZdM a _ _ _ h
 have M:=fun{p e} => @Zik a p e
 unfold accD
 generalize Zc2 a=o1 at *
 generalize Ze6 a=o2 at *
 generalize ZaV a a.shifts [] 0=o3 at *
 generalize Zc6 a=o4 at *
 generalize Za8 a.rules a.zones 0=o5 at *
 refine Zaa Tryz.func85 rfl rfl rfl rfl ?_
 cases o1 with
 | some x =>
  obtain⟨⟨u,A,B⟩,e⟩:=x
  have hb:(!decide (e=0))=true:=by rw[decide_eq_false (J rfl)];rfl
  simp only[Option.some_or,ptV,plV,Zaq.enc]at g ⊢
  repeat (first|(apply RL_pu;rfl;exact ZqN)|(refine js ?_;(first|(refine Zab g ?_)|(refine bx ?_;intro s)))|refine walk1 ?_)
  exact rtC
 | none =>
 simp only[ptV,plV,Zaq.enc]at g
 rw[Option.none_or]
 cases o2 with
 | some x =>
  obtain⟨⟨u,A,B⟩,e⟩:=x
  have hb:(!decide (e=0))=true:=by rw[decide_eq_false (K rfl)];rfl
  simp only[Option.some_or,ptV,plV,Zaq.enc]at i ⊢
  repeat (first|(apply RL_pu;rfl;exact ZqN)|(refine js ?_;(first|(refine Zab g ?_)|(refine Zab i ?_)|(refine bx ?_;intro s)))|refine walk1 ?_)
  exact rtC
 | none =>
 replace m:=m rfl
 simp only[ptV,plV,Zaq.enc]at i
 rw[Option.none_or]
 cases o3 with
 | some x =>
  obtain⟨⟨u,A,B⟩,e⟩:=x
  have hb:(!decide (e=0))=true:=by rw[decide_eq_false (L rfl)];rfl
  simp only[Option.some_or,ptV,plV,Zaq.enc]at j ⊢
  repeat (first|(apply RL_pu;rfl;exact ZqN)|(refine js ?_;(first|(refine Zab g ?_)|(refine Zab i ?_)|(refine Zab j ?_)|(refine bx ?_;intro s)))|refine walk1 ?_)
  exact rtC
 | none =>
 simp only[ptV,plV,Zaq.enc]at j
 rw[Option.none_or]
 cases o4 with
 | some x =>
  obtain⟨⟨u,A,B⟩,e⟩:=x
  have hb:(!decide (e=0))=true:=by rw[decide_eq_false (M rfl)];rfl
  simp only[Option.some_or,ptV,plV,Zaq.enc]at t ⊢
  repeat (first|(apply RL_pu;rfl;exact ZqN)|(refine js ?_;(first|(refine Zab g ?_)|(refine Zab i ?_)|(refine Zab j ?_)|(refine Zab t ?_)|(refine bx ?_;intro s)))|refine walk1 ?_)
  exact rtC
 | none =>
 simp only[ptV,plV,Zaq.enc]at t
 rw[Option.none_or]
 rw[ZzL]at m ⊢
 generalize ptPz o5=y at *
 obtain⟨⟨u,A,B⟩,e⟩:=y
 simp only[plV,Zaq.enc]at m ⊢
 repeat (first|(refine js ?_;(first|(refine Zab g ?_)|(refine Zab i ?_)|(refine Zab j ?_)|(refine Zab t ?_)|(refine Zab m ?_)|(refine bx ?_;intro s)))|refine walk ?_)
 exact rtC
end Go.Proofs.YtpipekfmecikmaaGreatDoor
namespace Go.Wk
open Go Go.RowKit
theorem Zxh {P:Program}{n:Nat}{wr:World}{fr:Fr}{O:List It}{ty t t':TypeId}{α:Type}[DecidableEq α]{enc:α->List Value}{x y:Operand}{i j:α}{b:Bool}[hE:EqE P t α enc](a:ev fr x=some (.agg (enc i).toArray))(c:ev fr y=some (.agg (enc j).toArray))(h:decide (i=j)=b) :
  Pu P n wr fr O (.binOp .eql t x y t') ty (.bool b):=h▸Pu_eqlE a c
end Go.Wk
namespace Go.Proofs.YtpipekfmecikmaaGreatDoor
open Go Go.RowKit Go.Wk
attribute [local irreducible] W RL Does Zat Zaj retQ Calls Pu Stp RD Qy Ay Zak
def prE (x:Int × List UInt8):List Value:=[.int .i64 x.1,.string (bz x.2)]
theorem prE.len (x:Int × List UInt8):(prE x).length=2:=rfl
def abX (x:List UInt8):List Value:=[.string (bz x)]
theorem abX.len (x:List UInt8):(abX x).length=1:=rfl
instance : EqE Tryz.prog 276 (Int × ByteArray) pEnc where
 h r s w:=by
  unfold pEnc
  simp[go_sem,Zcc]
  rcases r with⟨_,_⟩
  rcases s with⟨_,_⟩
  simp only[Zh9,Result.ok.injEq,and_true]
  rw[Bool.eq_iff_iff]
  simp
 g:=by kernel_rfl
structure FwK where
 i:Nat
 kn:Bool
structure FwR where
 k:Nat
 A1:Option Addr
 c1:Nat
 A2:Option Addr
 c2:Nat
 sz:Int
 acc:List (Int × List UInt8) × List (List UInt8)
 t:Nat
theorem Zw9 (x:Int × List UInt8)(l:List (Int × List UInt8)):(addP x l).length<=l.length+1:=by unfold addP;split <;> simp
theorem Zxa (x:List UInt8)(l:List (List UInt8)):(addA x l).length<=l.length+1:=by unfold addA;split <;> simp
theorem Zgh (x:List UInt8):∀ l:List (List UInt8),ZcZ (l++[x])=ZcZ l+(x.length+1)
 | []=>by simp[ZcZ]
 | y::l=>by rw[List.cons_append,ZcZ,ZcZ,Zgh x l];omega
structure FwI (acc:List (Int × List UInt8) × List (List UInt8))(sz:Int)(t:Nat):Prop where
 p:acc.1.length<=t
 a:acc.2.length<=t
 s:sz=ZcZ acc.2
 b:ZcZ acc.2<=10*t
theorem FwI.step {c:List (Int × List UInt8) × List (List UInt8)}{sz:Int}{t:Nat}(h:FwI c sz t)(o:Int)(x:List UInt8)(d:x.length<=7):FwI (addP (o,x) c.1,addA x c.2) (ZcZ (addA x c.2)) (t+1) :=
 ⟨by have:=Zw9 (o,x) c.1;have:=h.p;dsimp only;omega,by have:=Zxa x c.2;have:=h.a;dsimp only;omega,rfl,by
  have:=h.b
  dsimp only
  unfold addA
  split
  ·omega
  ·rw[Zgh];omega⟩
theorem Zo4 {α:Type}[DecidableEq α](x:α):∀ l:List α,(l.any fun y=>decide (y=x))=decide (x∈l)
 | []=>by simp
 | y::l=>by
  rw[List.any_cons,Zo4 x l,Bool.eq_iff_iff]
  simp only[Bool.or_eq_true,decide_eq_true_eq,List.mem_cons]
  exact⟨fun h=>h.elim (fun h => .inl h.symm) .inr,fun h=>h.elim (fun h => .inl h.symm) .inr⟩
theorem Zfc {G G':Prop}(k:G')(h:Hold G'->G:=by intro k9;(first|refine walk ?_|(refine jn ?_;(try intro F);(first|(refine stA ?_)|(apply Zad;exact PuA));refine fin ?_));exact k9.out):G:=h ⟨k⟩
theorem Zvf {G:Prop}(h:G:=by(first|(apply ZaG;rfl;rfl;omega;omega;(intro w' _ hO;exact(Za2 (hO.of (A := .row (.slice A5 S.length c5) 155 2 S.length (S.flatMap Za1)) (by repeat' constructor)) hg1).1))|(apply Zb8;rfl;(focus repeat' constructor);exact hgn;rfl)|(apply ZeI;rfl;(focus repeat' constructor);exact hgx)|(apply Zb9;rfl;(focus repeat' constructor);exact hgx))):G:=h
theorem Zx0 {G:Prop}(h:G:=by first|(apply Qy_y;rfl;exact Zvf)|exact QyA):G:=h
theorem Zyp {G:Prop}(h:G:=by repeat (first|exact QF.nil|(apply QF.mk;rfl;rfl;decide +kernel;exact Zx0))):G:=h
theorem Zve {G:Prop}(h:G:=by(first|(apply ZaG;rfl;rfl;omega;omega;(intro w' _ hO;exact(Za2 (hO.of (A := .row (.slice A1 P.length c1) 276 2 P.length (P.flatMap prE)) (by repeat' constructor)) hp1).1))|(apply Zb8;rfl;(focus repeat' constructor);exact hpn;rfl)|(apply Zxh (i:=((y1,bz y2):Int × ByteArray)) (j:=(e.off+x.1,bz ab)) (enc:=pEnc);rfl;rfl;exact hq))):G:=h
theorem ZxZ {G:Prop}(h:G:=by first|(apply Qy_y;rfl;exact Zve)|exact QyA):G:=h
theorem ZBK {G:Prop}(h:G:=by repeat (first|exact QF.nil|(apply QF.mk;rfl;rfl;decide +kernel;exact ZxZ))):G:=h
theorem ZyZ {G:Prop}(h:G:=by(first|(apply ZaG;rfl;rfl;omega;omega;(intro w' _ hO;exact(Za2 (hO.of (A := .row (.slice A2 L.length c2) 9 1 L.length (L.flatMap abX)) (by repeat' constructor)) ha1).1))|(apply Zb9;rfl;(focus repeat' constructor);exact ha1)|(apply Zca;rfl;rfl;exact hq))):G:=h
theorem ZyY {G:Prop}(h:G:=by(apply ZbF;rfl;rfl;first|exact b1|exact b2)):G:=h
theorem ZyX {G:Prop}(h:G:=by(apply ZbF;rfl;rfl;exact b1)):G:=h
set_option maxHeartbeats 4000000 in
theorem Zog (Ar Az Al As:Option Addr)(H I E cs:Nat)(a:DSource)(z:DZone)(Ae:Option Addr)(M:Nat)(w:World)(hA:Zal w Ar Az Al As H I E cs a)(hE:RdSl w Ae M DEra.enc 13 z.eras)(hS:ZcX a)(hV:ZgJ a)(hel:z.eras.length<=1000000)
  (hZ:∀ e∈z.eras,Zjs e) (hH:∀ e∈z.eras,∀ x∈ZaB a.rules e,ZaW e.off x.1=true) :
  Does Tryz.prog 197 [srcV Ar Az Al As H I E cs a,.agg #[.string z.name,.slice Ae z.eras.length M]] w (fun v O=>v = .bool (ZeA a.rules z)/\O=[]):=by
 have hn:=hS.nr
 unfold ZeA
 obtain⟨R,hR⟩:∃ R,erGo a.rules z.eras ([],[])=R:=⟨_,rfl⟩
 rw[hR]
 refine Zaa Tryz.func197 rfl rfl rfl rfl ?_
 repeat (first|refine Zfc ?_|(refine jn ?_;(try intro F);(refine bx ?_;intro c);refine fin ?_)|(apply RD_W;rfl;intro c))
 rename_i b2
 obtain⟨u,hb3⟩:∃ u,c=u:=⟨_,rfl⟩
 rw[hb3]
 clear hb3 c
 refine Zdq 276 2 ?_
 refine Zdq 9 1 ?_
 refine Zai [(2,.pointer (some ⟨b2,0,none⟩)),(3,.pointer (some ⟨u,0,none⟩))] [.blk u [.string z.name,.slice Ae z.eras.length M] 71,.blk b2 [.slice Ar a.rules.length H,.slice Az a.zones.length I,.slice Al a.links.length E,.slice As a.shifts.length cs] 27]
  (fun g:FwR=>[(5,.slice g.A1 g.acc.1.length g.c1),(6,.slice g.A2 g.acc.2.length g.c2),(7,.int .i64 g.sz),(8,.int .i64 g.k)]) (fun g=>[.row (.slice g.A1 g.acc.1.length g.c1) 276 2 g.acc.1.length (g.acc.1.flatMap prE),.row (.slice g.A2 g.acc.2.length g.c2) 9 1 g.acc.2.length (g.acc.2.flatMap abX)])
  (fun g=>g.k<=z.eras.length/\FwI g.acc g.sz g.t/\g.t<=g.k*2000000/\erGo a.rules (z.eras.drop g.k) g.acc=R) (fun g=>z.eras.length - g.k) ⟨0,none,0,none,0,0,([],[]),0⟩ SFA SOA ⟨Nat.zero_le _,⟨Nat.le_refl _,Nat.le_refl _,rfl,Nat.le_refl _⟩,Nat.le_refl _,hR⟩ ?_
 clear hR
 rintro⟨k,A1,c1,A2,c2,sz,acc,t⟩ ⟨hk,hI,ht,hi⟩
 dsimp only at hk hI ht hi ⊢
 repeat (first|refine Zfc ?_|(refine jn ?_;(try intro F);(refine bx ?_;intro c);refine fin ?_)|(apply RD_W;rfl;intro c))
 refine Zaf rfl (fun hc=>?_) (fun hc=>?_)
 ·simp only[decide_eq_true_eq,Int.ofNat_lt]at hc
  obtain⟨hna,hca⟩:=hE.rd k _ (List.getElem?_eq_getElem hc)
  have Z:=List.getElem_mem hc
  rw[Zah hc,erGo]at hi
  generalize z.eras[k]=e at *
  have hSl:=Zeg a.rules e
  have hlet:=ZgV (e:=e) fun r hr=>(hS.rs r hr).2
  have h64:=Zfm (e:=e) (fun r h=>hV.i64 r h) (hZ e Z).save
  have hss:=fun w' (hw:Bel w.heap.size w w')=>ZgY Ar Az Al As H I E cs a e w' (hA.up hw) hn
  have hZe:=hZ e Z
  have hHe:=hH e Z
  generalize ZaB a.rules e=S at *
  obtain⟨R2,Y⟩:∃ R2,stGo e S acc=R2:=⟨_,rfl⟩
  rw[Y]at hi
  simp only[DEra.enc]at hss hca
  repeat (first|(apply RL_pu;rfl;exact PuI)|(apply RD_Q;rfl;rfl;decide +kernel;rfl;rfl;exact QyI)|refine walk1 ?_|(refine jg ?_;(try intro F);(first|(apply Zae (h:=fun w' hw _=>hss w' hw);rfl;rintro v O' ⟨A5,c5,rfl,rfl⟩)|(refine bx ?_;intro c)|(refine stA ?_));first|refine⟨_,EndsA,QFI,?_⟩|refine fin ?_)|(refine jn ?_;(try intro F);(first|(refine bx ?_;intro c)|(refine stA ?_)|(apply Zad;first|exact PuI|exact PuA));first|refine⟨_,EndsA,QFI,?_⟩|refine fin ?_)|(apply RD_W;rfl;intro c))
  generalize c=b9
  refine Zai [(2,.pointer (some ⟨b2,0,none⟩)),(3,.pointer (some ⟨u,0,none⟩)),(8,.int .i64 k),(9,.pointer (some ⟨b9,0,none⟩)),(10,.slice A5 S.length c5)]
   [.blk b9 [.int .i64 e.off,.int .i64 e.kind,.int .i64 e.save,.string e.set,.string e.format,.bool e.til.is,.int .i64 e.til.year,.int .i64 e.til.month,.int .i64 e.til.day.kind,.int .i64 e.til.day.week,.int .i64 e.til.day.day,.int .i64 e.til.at_.sec,.int .i64 e.til.at_.base] 75,.row (.slice A5 S.length c5) 155 2 S.length (S.flatMap Za1),.blk u [.string z.name,.slice Ae z.eras.length M] 71,.blk b2 [.slice Ar a.rules.length H,.slice Az a.zones.length I,.slice Al a.links.length E,.slice As a.shifts.length cs] 27]
   (fun g:FwR=>[(5,.slice g.A1 g.acc.1.length g.c1),(6,.slice g.A2 g.acc.2.length g.c2),(7,.int .i64 g.sz),(11,.int .i64 g.k)]) (fun g=>[.row (.slice g.A1 g.acc.1.length g.c1) 276 2 g.acc.1.length (g.acc.1.flatMap prE),.row (.slice g.A2 g.acc.2.length g.c2) 9 1 g.acc.2.length (g.acc.2.flatMap abX)])
   (fun g=>g.k<=S.length/\FwI g.acc g.sz g.t/\g.t<=k*2000000+g.k/\stGo e (S.drop g.k) g.acc=R2) (fun g=>S.length - g.k) ⟨0,A1,c1,A2,c2,sz,acc,t⟩ SFA SOA ⟨Nat.zero_le _,hI,Nat.le_trans ht (Nat.le_add_right _ _),Y⟩ ?_
  clear Y hI ht A1 c1 A2 c2 sz acc t
  rintro⟨j,A1,c1,A2,c2,sz,acc,t⟩ ⟨hj,hI,ht,hi2⟩
  dsimp only at hj hI ht hi2 ⊢
  repeat (first|refine Zfc ?_|(refine jn ?_;(try intro F);(refine bx ?_;intro c);refine fin ?_)|(apply RD_W;rfl;intro c))
  refine Zaf rfl (fun m=>?_) (fun m=>?_)
  ·simp only[decide_eq_true_eq,Int.ofNat_lt]at m
   have hg1:=ZaC Za1.len S j _ 0 _ (List.getElem?_eq_getElem m) rfl
   have hgn:∀ i v,(Za1 S[j])[i]?=some v->(S.flatMap Za1)[j*2+i]?=some v:=fun i v hv=>ZaC Za1.len S j _ i v (List.getElem?_eq_getElem m) hv
   have hgx:=hgn 0 _ rfl
   have hxm:=List.getElem_mem m
   rw[Zah m,stGo]at hi2
   generalize S[j]=x at *
   have hfa:=fun w'=>ZeO e.format x.2 e.off x.1 w' hZe.fmt (hlet x hxm) hZe.off (h64 x hxm)
   have hal:=Znm e.format.data.toList e.off x.1 x.2.data.toList
   have hho:=hHe x hxm
   unfold ZaW at hho
   simp only[Bool.and_eq_true,decide_eq_true_eq]at hho
   obtain⟨hh1,hh2⟩:=hho
   generalize Zdp e.format.data.toList e.off x.1 x.2.data.toList=abr at *
   obtain⟨ab,er⟩:=abr
   dsimp only at hi2 hal
   replace hfa:∀ w',Does Tryz.prog 91 [.string e.format,.int .i64 e.off,.agg #[.int .i64 x.1,.string x.2]] w' (fun v O=>v = .tuple #[.string (bz ab),.int .i64 er]/\O=[]):=hfa
   simp only[Za1]at hgn hg1
   have q:=hI.step (e.off+x.1) ab hal
   have hp:=hI.p
   have ha:=hI.a
   have hsb:=hI.b
   have D:=hI.s
   obtain⟨P,L⟩:=acc
   dsimp only at hp ha hsb D q hi2 ⊢
   have hal2:=Zuc ab
   repeat (first|refine ZlS ?_|(refine jn ?_;(try intro F);(first|(refine bx ?_;intro c)|(refine stA ?_)|(apply Zad;exact PuA));refine fin ?_)|(apply RD_W;rfl;intro c))
   apply W_block
   repeat (first|(apply RL_pu;rfl;exact Zvf)|(apply RD_Q;rfl;rfl;decide +kernel;rfl;rfl;exact Zx0)|refine walkB1 ?_|(refine jg ?_;(try intro F);(first|(refine Zab (fun w' _=>hfa w') ?_)|(refine bx ?_;intro c)|(refine stA ?_));first|refine⟨_,EndsA,Zyp,?_⟩|refine fin ?_)|(refine jn ?_;(try intro F);(first|(refine bx ?_;intro c)|(refine stA ?_)|(apply Zad;first|exact Zvf|exact PuA));first|refine⟨_,EndsA,Zyp,?_⟩|refine fin ?_)|(apply RD_W;rfl;intro c))
   generalize c=b14
   obtain⟨K1,N⟩:∃ K,(P.any fun y=>decide (y=(e.off+x.1,ab)))=K:=⟨_,rfl⟩
   have X:addP (e.off+x.1,ab) P=if K1 then P else P++[(e.off+x.1,ab)]:=by
    unfold addP
    rw[<- N,Zo4]
    simp only[decide_eq_true_eq]
   refine Zb6 (fun fr' O'=>Sub ((15,.bool K1)::[(2,.pointer (some ⟨b2,0,none⟩)),(3,.pointer (some ⟨u,0,none⟩)),(8,.int .i64 k),(9,.pointer (some ⟨b9,0,none⟩)),(10,.slice A5 S.length c5),(11,.int .i64 j),(12,.string (bz ab)),(7,.int .i64 sz),(5,.slice A1 P.length c1),(6,.slice A2 L.length c2),(14,.pointer (some ⟨b14,0,none⟩))]) fr'/\SubO [.row (.slice A1 P.length c1) 276 2 P.length (P.flatMap prE),.blk b14 [.int .i64 (e.off+x.1),.string (bz ab)] 276,.blk b9 [.int .i64 e.off,.int .i64 e.kind,.int .i64 e.save,.string e.set,.string e.format,.bool e.til.is,.int .i64 e.til.year,.int .i64 e.til.month,.int .i64 e.til.day.kind,.int .i64 e.til.day.week,.int .i64 e.til.day.day,.int .i64 e.til.at_.sec,.int .i64 e.til.at_.base] 75,.row (.slice A5 S.length c5) 155 2 S.length (S.flatMap Za1),.blk u [.string z.name,.slice Ae z.eras.length M] 71,.blk b2 [.slice Ar a.rules.length H,.slice Az a.zones.length I,.slice Al a.links.length E,.slice As a.shifts.length cs] 27,.row (.slice A2 L.length c2) 9 1 L.length (L.flatMap abX)] O') ?_ ?_
   ·apply W_block
    clear hi2 hi hI q X
    refine Zai [(2,.pointer (some ⟨b2,0,none⟩)),(3,.pointer (some ⟨u,0,none⟩)),(8,.int .i64 k),(9,.pointer (some ⟨b9,0,none⟩)),(10,.slice A5 S.length c5),(11,.int .i64 j),(12,.string (bz ab)),(7,.int .i64 sz),(5,.slice A1 P.length c1),(6,.slice A2 L.length c2),(14,.pointer (some ⟨b14,0,none⟩))] [.row (.slice A1 P.length c1) 276 2 P.length (P.flatMap prE),.blk b14 [.int .i64 (e.off+x.1),.string (bz ab)] 276,.blk b9 [.int .i64 e.off,.int .i64 e.kind,.int .i64 e.save,.string e.set,.string e.format,.bool e.til.is,.int .i64 e.til.year,.int .i64 e.til.month,.int .i64 e.til.day.kind,.int .i64 e.til.day.week,.int .i64 e.til.day.day,.int .i64 e.til.at_.sec,.int .i64 e.til.at_.base] 75,.row (.slice A5 S.length c5) 155 2 S.length (S.flatMap Za1),.blk u [.string z.name,.slice Ae z.eras.length M] 71,.blk b2 [.slice Ar a.rules.length H,.slice Az a.zones.length I,.slice Al a.links.length E,.slice As a.shifts.length cs] 27,.row (.slice A2 L.length c2) 9 1 L.length (L.flatMap abX)] (fun g:FwK=>[(15,.bool g.kn),(16,.int .i64 g.i)]) (fun _=>[]) (fun g=>g.i<=P.length/\(g.kn||(P.drop g.i).any fun y=>decide (y=(e.off+x.1,ab)))=K1) (fun g=>P.length - g.i) ⟨0,false⟩ SFA SOA ⟨Nat.zero_le _,N⟩ ?_
    clear N
    rintro⟨i,kn⟩ ⟨hi1,hi3⟩
    dsimp only at hi1 hi3 ⊢
    repeat (first|refine Zfc ?_|(refine jn ?_;(try intro F);(refine bx ?_;intro c);refine fin ?_)|(apply RD_W;rfl;intro c))
    refine Zaf rfl (fun f=>?_) (fun f=>?_)
    ·simp only[decide_eq_true_eq,Int.ofNat_lt]at f
     rw[Zah f,List.any_cons]at hi3
     cases kn with
     | true =>
      repeat (first|refine und ?_|refine walk ?_|(refine jn ?_;(try intro F);(first|(refine bx ?_;intro c)|(refine stA ?_)|(apply Zad;exact PuA));refine fin ?_)|(apply RD_W;rfl;intro c))
      exact⟨⟨i+1,true⟩,OA,⟨OA,hi3⟩,SFA,SOA⟩
     | false =>
      have hp1:=ZaC prE.len P i _ 0 _ (List.getElem?_eq_getElem f) rfl
      have hpn:∀ j v,(prE P[i])[j]?=some v->(P.flatMap prE)[i*2+j]?=some v:=fun j v hv=>ZaC prE.len P i _ j v (List.getElem?_eq_getElem f) hv
      generalize P[i]=y at *
      obtain⟨y1,y2⟩:=y
      obtain⟨Q,hQ⟩:∃ Q,decide (((y1,y2):Int × List UInt8)=(e.off+x.1,ab))=Q:=⟨_,rfl⟩
      have hq:decide (((y1,bz y2):Int × ByteArray)=(e.off+x.1,bz ab))=Q:=by
       rw[<- hQ]
       refine decide_eq_decide.2 ⟨fun h=>?_,fun h=>?_⟩
       ·injection h with h1 h2;rw[h1,Zqi h2]
       ·injection h with h1 h2;rw[h1,h2]
      rw[hQ,Bool.false_or]at hi3
      simp only[prE]at hp1 hpn
      repeat (first|refine und ?_|(apply RL_pu;rfl;exact Zve)|(apply RD_Q;rfl;rfl;decide +kernel;rfl;rfl;exact ZxZ)|refine walk1 ?_|(refine jn ?_;(try intro F);(first|(refine bx ?_;intro c)|(refine stA ?_)|(apply Zad;first|exact Zve|exact PuA));first|refine⟨_,EndsA,ZBK,?_⟩|refine fin ?_)|(apply RD_W;rfl;intro c))
      exact⟨⟨i+1,Q⟩,OA,⟨OA,hi3⟩,SFA,SOA⟩
    ·simp only[decide_eq_false_iff_not,Int.ofNat_lt]at f
     rw[List.drop_eq_nil_of_le (by omega),List.any_nil,Bool.or_false]at hi3
     subst hi3
     repeat (first|refine Zfc ?_|(refine jn ?_;(try intro F);(refine bx ?_;intro c);refine fin ?_)|(apply RD_W;rfl;intro c))
     exact⟨rfl,SFA,SOA⟩
   rintro fr' O' ⟨W,hO⟩
   apply thenQ_n
   refine ZcV W hO ?_
   clear W hO fr' O' N
   refine W_seq ?_
   refine Zb6 (fun fr' O'=>∃ (A3:Option Addr) (J:Nat),Sub [(2,.pointer (some ⟨b2,0,none⟩)),(3,.pointer (some ⟨u,0,none⟩)),(8,.int .i64 k),(9,.pointer (some ⟨b9,0,none⟩)),(10,.slice A5 S.length c5),(11,.int .i64 j),(12,.string (bz ab)),(7,.int .i64 sz),(5,.slice A3 (addP (e.off+x.1,ab) P).length J),(6,.slice A2 L.length c2)] fr'/\SubO [.row (.slice A3 (addP (e.off+x.1,ab) P).length J) 276 2 (addP (e.off+x.1,ab) P).length ((addP (e.off+x.1,ab) P).flatMap prE),.blk b9 [.int .i64 e.off,.int .i64 e.kind,.int .i64 e.save,.string e.set,.string e.format,.bool e.til.is,.int .i64 e.til.year,.int .i64 e.til.month,.int .i64 e.til.day.kind,.int .i64 e.til.day.week,.int .i64 e.til.day.day,.int .i64 e.til.at_.sec,.int .i64 e.til.at_.base] 75,.row (.slice A5 S.length c5) 155 2 S.length (S.flatMap Za1),.blk u [.string z.name,.slice Ae z.eras.length M] 71,.blk b2 [.slice Ar a.rules.length H,.slice Az a.zones.length I,.slice Al a.links.length E,.slice As a.shifts.length cs] 27,.row (.slice A2 L.length c2) 9 1 L.length (L.flatMap abX)] O') ?_ ?_
   ·rw[X]
    cases K1 with
    | true =>
     simp only[if_true]
     repeat (first|refine Zfc ?_|(refine jn ?_;(try intro F);(refine bx ?_;intro c);refine fin ?_)|(apply RD_W;rfl;intro c))
     exact⟨rfl,A1,c1,SFA,SOA⟩
    | false =>
     simp only[Bool.false_eq_true,if_false]
     repeat (first|refine walk ?_|(refine jn ?_;(try intro F);(first|(apply ZaF;rfl;rfl;(intro A' c';(focus repeat' constructor));(intro w' _ hO;exact ZbD (hO.of (by repeat' constructor)));rfl;rfl;(simp only[maxLen];omega);omega;intro A' c' hc1 m f)|(refine bx ?_;intro c)|(refine stA ?_)|(apply Zad;exact PuA));refine fin ?_)|(apply RD_W;rfl;intro c))
     refine⟨rfl,A',c',?_,?_⟩
     ·rw[List.length_append]
      exact SFA
     ·rw[List.length_append,List.flatMap_append]
      exact SOA
   rintro fr' O' ⟨A3,J,W,hO⟩
   apply thenQ_n
   refine ZcV W hO ?_
   clear W hO fr' O' A1 c1 X b14
   generalize addP (e.off+x.1,ab) P=P2 at *
   obtain⟨K2,T⟩:∃ K,(L.any fun y=>decide (y=ab))=K:=⟨_,rfl⟩
   have hL2:addA ab L=if K2 then L else L++[ab]:=by
    unfold addA
    rw[<- T,Zo4]
    simp only[decide_eq_true_eq]
   repeat (first|refine ZlS ?_|(refine jn ?_;(try intro F);(first|(refine bx ?_;intro c)|(refine stA ?_)|(apply Zad;exact PuA));refine fin ?_)|(apply RD_W;rfl;intro c))
   refine Zb6 (fun fr' O'=>Sub ((15,.bool K2)::[(2,.pointer (some ⟨b2,0,none⟩)),(3,.pointer (some ⟨u,0,none⟩)),(8,.int .i64 k),(9,.pointer (some ⟨b9,0,none⟩)),(10,.slice A5 S.length c5),(11,.int .i64 j),(12,.string (bz ab)),(7,.int .i64 sz),(5,.slice A3 P2.length J),(6,.slice A2 L.length c2)]) fr'/\SubO [.row (.slice A3 P2.length J) 276 2 P2.length (P2.flatMap prE),.blk b9 [.int .i64 e.off,.int .i64 e.kind,.int .i64 e.save,.string e.set,.string e.format,.bool e.til.is,.int .i64 e.til.year,.int .i64 e.til.month,.int .i64 e.til.day.kind,.int .i64 e.til.day.week,.int .i64 e.til.day.day,.int .i64 e.til.at_.sec,.int .i64 e.til.at_.base] 75,.row (.slice A5 S.length c5) 155 2 S.length (S.flatMap Za1),.blk u [.string z.name,.slice Ae z.eras.length M] 71,.blk b2 [.slice Ar a.rules.length H,.slice Az a.zones.length I,.slice Al a.links.length E,.slice As a.shifts.length cs] 27,.row (.slice A2 L.length c2) 9 1 L.length (L.flatMap abX)] O') ?_ ?_
   ·apply W_block
    clear hi2 hi q hL2
    refine Zai [(2,.pointer (some ⟨b2,0,none⟩)),(3,.pointer (some ⟨u,0,none⟩)),(8,.int .i64 k),(9,.pointer (some ⟨b9,0,none⟩)),(10,.slice A5 S.length c5),(11,.int .i64 j),(12,.string (bz ab)),(7,.int .i64 sz),(5,.slice A3 P2.length J),(6,.slice A2 L.length c2)] [.row (.slice A3 P2.length J) 276 2 P2.length (P2.flatMap prE),.blk b9 [.int .i64 e.off,.int .i64 e.kind,.int .i64 e.save,.string e.set,.string e.format,.bool e.til.is,.int .i64 e.til.year,.int .i64 e.til.month,.int .i64 e.til.day.kind,.int .i64 e.til.day.week,.int .i64 e.til.day.day,.int .i64 e.til.at_.sec,.int .i64 e.til.at_.base] 75,.row (.slice A5 S.length c5) 155 2 S.length (S.flatMap Za1),.blk u [.string z.name,.slice Ae z.eras.length M] 71,.blk b2 [.slice Ar a.rules.length H,.slice Az a.zones.length I,.slice Al a.links.length E,.slice As a.shifts.length cs] 27,.row (.slice A2 L.length c2) 9 1 L.length (L.flatMap abX)] (fun g:FwK=>[(15,.bool g.kn),(17,.int .i64 g.i)]) (fun _=>[]) (fun g=>g.i<=L.length/\(g.kn||(L.drop g.i).any fun y=>decide (y=ab))=K2) (fun g=>L.length - g.i) ⟨0,false⟩ SFA SOA ⟨Nat.zero_le _,T⟩ ?_
    clear T
    rintro⟨i,kn⟩ ⟨hi1,hi3⟩
    dsimp only at hi1 hi3 ⊢
    repeat (first|refine Zfc ?_|(refine jn ?_;(try intro F);(refine bx ?_;intro c);refine fin ?_)|(apply RD_W;rfl;intro c))
    refine Zaf rfl (fun f=>?_) (fun f=>?_)
    ·simp only[decide_eq_true_eq,Int.ofNat_lt]at f
     rw[Zah f,List.any_cons]at hi3
     cases kn with
     | true =>
      repeat (first|refine und ?_|refine walk ?_|(refine jn ?_;(try intro F);(first|(refine bx ?_;intro c)|(refine stA ?_)|(apply Zad;exact PuA));refine fin ?_)|(apply RD_W;rfl;intro c))
      exact⟨⟨i+1,true⟩,OA,⟨OA,hi3⟩,SFA,SOA⟩
     | false =>
      have ha1:=ZaC abX.len L i _ 0 _ (List.getElem?_eq_getElem f) rfl
      generalize L[i]=y at *
      obtain⟨Q,hQ⟩:∃ Q,decide (y=ab)=Q:=⟨_,rfl⟩
      have hq:decide (bz y=bz ab)=Q:=by
       rw[<- hQ]
       exact decide_eq_decide.2 ⟨fun h=>Zqi h,fun h=>by rw[h]⟩
      rw[hQ,Bool.false_or]at hi3
      repeat (first|refine und ?_|(apply RL_pu;rfl;exact ZyZ)|(apply RD_Q;rfl;rfl;decide +kernel;rfl;rfl;exact QyRfW2)|refine walk1 ?_|(refine jn ?_;(try intro F);(first|(refine bx ?_;intro c)|(refine stA ?_)|(apply Zad;first|exact ZyZ|exact PuA));first|refine⟨_,EndsA,QFRfW2,?_⟩|refine fin ?_)|(apply RD_W;rfl;intro c))
      exact⟨⟨i+1,Q⟩,OA,⟨OA,hi3⟩,SFA,SOA⟩
    ·simp only[decide_eq_false_iff_not,Int.ofNat_lt]at f
     rw[List.drop_eq_nil_of_le (by omega),List.any_nil,Bool.or_false]at hi3
     subst hi3
     repeat (first|refine Zfc ?_|(refine jn ?_;(try intro F);(refine bx ?_;intro c);refine fin ?_)|(apply RD_W;rfl;intro c))
     exact⟨rfl,SFA,SOA⟩
   rintro fr' O' ⟨W,hO⟩
   apply thenQ_n
   refine ZcV W hO ?_
   clear W hO fr' O' T
   rw[hL2]at q hi2
   cases K2 with
   | true =>
    simp only[if_true]at q hi2
    repeat (first|refine Zfc ?_|(refine jn ?_;(try intro F);(refine bx ?_;intro c);refine fin ?_)|(apply RD_W;rfl;intro c))
    exact⟨⟨j+1,A3,J,A2,c2,sz,(P2,L),t+1⟩,OA,⟨OA,by rw[D];exact q,OA,hi2⟩,SFA,SOA⟩
   | false =>
    simp only[Bool.false_eq_true,if_false]at q hi2
    have hsn:=Zgh ab L
    repeat (first|refine walk ?_|(refine jn ?_;(try intro F);(first|(apply ZaF;rfl;rfl;(intro A' c';(focus repeat' constructor));(intro w' _ hO;exact ZbD (hO.of (by repeat' constructor)));rfl;rfl;(simp only[maxLen];omega);omega;intro A' c' hc1 m f)|(refine bx ?_;intro c)|(refine stA ?_)|(apply Zad;exact PuA));refine fin ?_)|(apply RD_W;rfl;intro c))
    have hsz:sz+(((bz ab).size:Int)+1)=(ZcZ (L++[ab]):Int):=by rw[hsn,hal2,D];omega
    rw[hsz]
    refine⟨⟨j+1,A3,J,A',c',_,(P2,L++[ab]),t+1⟩,OA,⟨OA,q,OA,hi2⟩,?_,?_⟩
    ·dsimp only
     rw[List.length_append]
     exact SFA
    ·dsimp only
     rw[List.length_append,List.flatMap_append]
     exact SOA
  ·simp only[decide_eq_false_iff_not,Int.ofNat_lt]at m
   rw[List.drop_eq_nil_of_le (by omega),stGo]at hi2
   subst hi2
   repeat (first|refine Zfc ?_|(refine jn ?_;(try intro F);(refine bx ?_;intro c);refine fin ?_)|(apply RD_W;rfl;intro c))
   exact⟨⟨k+1,A1,c1,A2,c2,sz,acc,t⟩,OA,⟨OA,hI,OA,hi⟩,SFA,SOA⟩
 ·simp only[decide_eq_false_iff_not,Int.ofNat_lt]at hc
  rw[List.drop_eq_nil_of_le (by omega),erGo]at hi
  subst hi
  obtain rfl:=hI.s
  by_cases U:acc.1.length<=120
  ·have b1:decide ((acc.1.length:Int)<=120)=true:=decide_eq_true (by omega)
   have b2:decide ((ZcZ acc.2:Int)<=250)=decide (ZcZ acc.2<=250):=by rw[decide_eq_decide];omega
   rw[decide_eq_true U,Bool.true_and]
   repeat (first|refine und ?_|(apply RL_pu;rfl;exact ZyY)|(apply RD_Q;rfl;rfl;decide +kernel;rfl;rfl;exact QyRfW3)|refine walk1 ?_|(refine jn ?_;(try intro F);(first|(refine bx ?_;intro c)|(refine stA ?_)|(apply Zad;first|exact ZyY|exact PuA));first|refine⟨_,EndsA,QFRfW3,?_⟩|refine fin ?_)|(apply RD_W;rfl;intro c))
   exact rtA
  ·have b1:decide ((acc.1.length:Int)<=120)=false:=decide_eq_false (by omega)
   rw[decide_eq_false U,Bool.false_and]
   repeat (first|refine und ?_|(apply RL_pu;rfl;exact ZyX)|(apply RD_Q;rfl;rfl;decide +kernel;rfl;rfl;exact QyRfW4)|refine walk1 ?_|(refine jn ?_;(try intro F);(first|(refine bx ?_;intro c)|(refine stA ?_)|(apply Zad;first|exact ZyX|exact PuA));first|refine⟨_,EndsA,QFRfW4,?_⟩|refine fin ?_)|(apply RD_W;rfl;intro c))
   exact rtA
end Go.Proofs.YtpipekfmecikmaaGreatDoor
namespace Go.Wk
open Go Go.RowKit
section
variable {P:Program}{n:Nat}{wr:World}{fr:Fr}{O:List It}{ty:TypeId}{pos:String}{af:Array Edge}{dst:Option Tmp}{g:Option (Nat × Bool)}{Kp:Value->List It->Prop}
theorem Zuv {t e sz d:Nat}{l c:Operand}{B A:IntKind}{N:Nat}{z xs:List Value}[hE:ElemZ P t e sz d][hZ:ZeroT P e z](F:ev fr l=some (.int B N))(E:ev fr c=some (.int A N))(G:N*sz<=16777216)(o:d*N<=281474976710656)(p:N<=maxLen)
  (I:(madeCells z.toArray (N*sz)).toList=xs) (K:∀ b,Kp (.slice (some ⟨b,0,none⟩) N N) (.row (.slice (some ⟨b,0,none⟩) N N) e sz N xs::O)):Stp P n wr fr O ⟨dst,.makeSlice t l c,ty,pos,af,g⟩ Kp :=
 ZbQ fun a w m=>by
  obtain⟨i,D,H,j,y,s,q,J,x⟩:=ElemZ.parts hE.h
  have h:=hZ.h
  unfold Zfk at h
  rw[j]at h
  simp only[y,Option.some.injEq]at h
  have u:D.cells=z.toArray:=by rw[<- h]
  obtain⟨w',f,v,C⟩:=run_makeSlice_full (P:=P) w 0 t e i D sz H j y s B A N G (by rw[q];exact o) p (Nat.zero_le _)
  rw[u,I]at v
  refine⟨_,w',_,?_,?_,?_,K w.heap.size⟩
  ·simp[execOp,m.sim.ev F,m.sim.ev E,f]
  ·exact m.old.grown C (ZsT _ _ _ _ f) m.old.size (fun k r=>by cases r)
  ·refine m.own.grow (O':=[.row (.slice (some ⟨w.heap.size,0,none⟩) N N) e sz N xs]) ((Bel.refl _ _).grown C (ZsT _ _ _ _ f) (Nat.le_refl _) (fun k r=>by cases r)) m.old.size ⟨fun i j=>?_,fun i j b o=>?_,List.pairwise_singleton _ _⟩
   ·rw[List.mem_singleton.1 j]
    exact v
   ·rw[List.mem_singleton.1 j]at o
    simp only[It.S,Value.ownBlock,Option.some.injEq]at o
    subst o
    exact⟨Nat.le_refl _,(v.lt w.heap.size rfl).2⟩
end
end Go.Wk
namespace Go.Proofs.YtpipekfmecikmaaGreatDoor
open Go Go.RowKit Go.Wk
def okR (r:DRule):Bool:=decide (r.name.size<=1000000000)&&(decide (r.letter.size<=1000000000)&&(decide (-9223372036854775808<=r.save)&&decide (r.save<=9223372036854775807)))
def okI (n:Int):Bool:=decide (-9223372036854775808<=n)&&decide (n<=9223372036854775807)
def okE (e:DEra):Bool:=okI e.off&&(okI e.save&&(okI e.kind&&(decide (e.format.size<=1000000000)&&decide (e.set.size<=1000000000))))
def okZ (z:DZone):Bool:=decide (z.name.size<=1000000000)&&(decide (z.eras.length<=1000000)&&z.eras.all okE)
def okL (l:DLink):Bool:=decide (l.target.size<=1000000000)&&decide (l.name.size<=1000000000)
def okD (s:DSource):Bool:=decide (s.rules.length<=1000000)&&(decide (s.zones.length<=1000000)&&(decide (s.links.length<=1000000)&&(decide (s.shifts.length<=2000000)&&(s.rules.all okR&&(s.zones.all okZ&&s.links.all okL)))))
theorem Zti {n:Int}(h:okI n=true):I64 n:=by
 unfold okI at h
 rw[Bool.and_eq_true,decide_eq_true_eq,decide_eq_true_eq]at h
 exact h
theorem Ztj {s:DSource}(h:okD s=true):ZcX s/\SavI s/\∀ z∈s.zones,∀ e∈z.eras,Zjs e:=by
 unfold okD at h
 simp only[Bool.and_eq_true,decide_eq_true_eq,List.all_eq_true]at h
 obtain⟨f,g,i,j,k,m,n⟩:=h
 have c:∀ r∈s.rules,_:=fun r c=>by
  have:=k r c
  unfold okR at this
  simp only[Bool.and_eq_true,decide_eq_true_eq]at this
  exact this
 have b:∀ z∈s.zones,z.name.size<=1000000000/\z.eras.length<=1000000/\∀ e∈z.eras,okE e=true:=fun z b=>by
  have:=m z b
  unfold okZ at this
  simp only[Bool.and_eq_true,decide_eq_true_eq,List.all_eq_true]at this
  exact this
 have a:∀ e,okE e=true->I64 e.off/\I64 e.save/\I64 e.kind/\e.format.size<=1000000000/\e.set.size<=1000000000:=fun e a=>by
  unfold okE at a
  simp only[Bool.and_eq_true,decide_eq_true_eq]at a
  exact⟨Zti a.1,Zti a.2.1,Zti a.2.2.1,a.2.2.2⟩
 refine⟨⟨f,g,i,j,fun r h=>⟨(c r h).1,(c r h).2.1⟩,fun z h=>⟨(b z h).1,(b z h).2.1,fun e d=>⟨(a e ((b z h).2.2 e d)).2.2.2.2,(a e ((b z h).2.2 e d)).2.2.2.1⟩⟩,fun l h=>?_⟩,fun r h=>⟨(c r h).2.2.1,(c r h).2.2.2⟩,fun z h e d=>?_⟩
 ·have:=n l h
  unfold okL at this
  simp only[Bool.and_eq_true,decide_eq_true_eq]at this
  exact this
 ·have:=a e ((b z h).2.2 e d)
  exact⟨this.1,this.2.1,this.2.2.1,this.2.2.2.1⟩
theorem Zxb {w w':World}{Ar Az Al As:Option Addr}{c d b cs:Nat}{a:DSource}(i:LibW w)(g:Glob w)(e:Bel w.heap.size w w')(h:okD a=true)(f:Zal w' Ar Az Al As c d b cs a):Zcb w' Ar Az Al As c d b cs a :=
 ⟨i.up e,g.up e,f,(Ztj h).1,(Ztj h).2.1,(Ztj h).2.2⟩
end Go.Proofs.YtpipekfmecikmaaGreatDoor
