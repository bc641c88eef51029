/- Parts of the proof. -/
import Derived.Test.YtpipekfmecikmaaGreatDoorV26
import Derived.Test.YtpipekfmecikmaaGreatDoorV32
import Derived.Test.YtpipekfmecikmaaGreatDoorV34
import Derived.Test.YtpipekfmecikmaaGreatDoorV31
import Derived.Test.YtpipekfmecikmaaGreatDoorV20
import Derived.Test.YtpipekfmecikmaaGreatDoorV30
import Derived.Test.YtpipekfmecikmaaGreatDoorV05
import Derived.Laws.OwnMore
import Derived.Test.YtpipekfmecikmaaGreatDoorV10
import Derived.Test.YtpipekfmecikmaaGreatDoorV24
set_option maxHeartbeats 4000000
set_option linter.unusedVariables false
set_option linter.unusedSimpArgs false
namespace Go.Proofs.YtpipekfmecikmaaGreatDoor
open Go Go.RowKit Go.Wk
attribute [local irreducible] W RL Does Zat Zaj retQ Calls Pu Stp RD Qy Ay Zak
def ZyQ:Prop:=∀ (Ar Az Al As:Option Addr) (cr cz cl cs:Nat) (a:DSource) (z:DZone) (Ae:Option Addr) (ce:Nat) (w:World),Zar w Ar Az Al As cr cz cl cs a->RdSl w Ae ce DEra.enc 13 z.eras->ZcK a->Zgl a->z.eras.length<=1000000->(∀ e∈z.eras,ZiQ e)->(∀ e∈z.eras,∀ x∈ZaG a.rules e,Za0 e.off x.1=true) ->
  Does Tryz.prog 197 [srcV Ar Az Al As cr cz cl cs a,.agg #[.string z.name,.slice Ae z.eras.length ce]] w (fun v O=>v = .bool (Zem a.rules z)/\O=[])
theorem ZqM {rs:List DRule}{l:List DEra}{j:Nat}(h:ZcI rs l j=0)(hj:j+1<l.length):(ZaB (l.getD j dE0).til (Zah (ZaE rs (l.getD j dE0)))).2=0:=by
 unfold ZcI at h
 dsimp only at h
 by_cases h1:(l.getD j dE0).til.is≠decide (j+1<l.length)
 ·rw[if_pos h1]at h;cases h
 rw[if_neg h1]at h
 have h2:(l.getD j dE0).til.is=true:=by rw[Decidable.not_not.1 h1,decide_eq_true hj]
 rw[if_neg (by rw[h2];decide)]at h
 by_cases h3:ZaI (l.getD j dE0).til (Zah (ZaE rs (l.getD j dE0)))=0
 ·exact Zv5 h3
 ·rw[if_pos h3]at h;exact absurd h h3
theorem ZpK {G:Prop}(h:G:=by(first|exact PuI|(apply Zan;rfl;rfl;exact hb))):G:=h
theorem ZmA {G:Prop}(h:G:=by(first|exact PuI|(apply Zal;rfl;rfl;exact hb2))):G:=h
theorem Ztc {G:Prop}(h:G:=by first|(apply Qy_y;rfl;exact ZmA)|exact QyA):G:=h
theorem Zpw {G:Prop}(h:G:=by repeat (first|exact QF.nil|(apply QF.mk;rfl;rfl;decide +kernel;exact Ztc))):G:=h
set_option maxHeartbeats 4000000 in
theorem Zm4 (Ar Az Al As:Option Addr)(cr cz cl cs:Nat)(a:DSource)(w:World)(hF:FarS)(hW:ZyQ)(hA:Zar w Ar Az Al As cr cz cl cs a)(hS:ZcK a)(hV:Zgl a)(hZ:∀ z∈a.zones,∀ e∈z.eras,ZiQ e) :
  Does Tryz.prog 129 [srcV Ar Az Al As cr cz cl cs a] w (fun v O=>v=ptV (Za9 a.rules a.zones 0)/\O=[]):=by
 have hnz:=hS.nz
 obtain⟨res,hres⟩:∃ res,Za9 a.rules a.zones 0=res:=⟨_,rfl⟩
 rw[hres]
 refine Zaa Tryz.func129 rfl rfl rfl rfl ?_
 repeat (first|refine walk ?_|(refine jn ?_;(try intro F);(first|(refine bx ?_;intro bk)|(refine stA ?_)|(apply Zac;exact PuA));refine fin ?_)|(apply RD_W;rfl;intro bk))
 rename_i b1
 obtain⟨b2,hb2⟩:∃ b2,bk=b2:=⟨_,rfl⟩
 rw[hb2]
 clear hb2 bk
 refine Zai [(1,.pointer (some ⟨b1,0,none⟩)),(2,.pointer (some ⟨b2,0,none⟩))] [.blk b2 [.int .i64 0,.int .i64 0,.int .i64 0] 138,.blk b1 [.slice Ar a.rules.length cr,.slice Az a.zones.length cz,.slice Al a.links.length cl,.slice As a.shifts.length cs] 27]
  (fun k:Nat=>[(4,.int .i64 k)]) (fun _=>[]) (fun k=>k<=a.zones.length/\Za9 a.rules (a.zones.drop k) k=res) (fun k=>a.zones.length - k) 0 SFA SOA ⟨Nat.zero_le _,hres⟩ ?_
 clear hres
 rintro i ⟨hil,hi⟩
 repeat (first|refine walk ?_|(refine jn ?_;(try intro F);(first|(refine bx ?_;intro bk)|(refine stA ?_)|(apply Zac;exact PuA));refine fin ?_)|(apply RD_W;rfl;intro bk))
 refine Zaf rfl (fun hc=>?_) (fun hc=>?_)
 ·simp only[decide_eq_true_eq,Int.ofNat_lt]at hc
  obtain⟨hna,cs1,⟨Ae,ce,hEz,rfl⟩,hca⟩:=hA.z i _ (List.getElem?_eq_getElem hc)
  have hmem:=List.getElem_mem hc
  rw[Zag hc,Za9]at hi
  generalize a.zones[i]=z at *
  have hel:=(hS.zs z hmem).2.1
  by_cases hz0:z.eras=[]
  ·rw[if_pos hz0]at hi
   subst hi
   have hb:decide ((z.eras.length:Int)=0)=true:=by rw[hz0];rfl
   simp only[ptV,plV,Zaq.enc]
   repeat (first|(apply RL_pu;rfl;exact ZpK)|(apply RD_Q;rfl;rfl;decide +kernel;rfl;rfl;exact QyRfZ0)|refine walk1 ?_|(refine jn ?_;(try intro F);(first|(refine bx ?_;intro bk)|(refine stA ?_)|(apply Zac;first|exact ZpK|exact PuA));first|refine⟨_,EndsA,QFRfZ0,?_⟩|refine fin ?_)|(apply RD_W;rfl;intro bk))
   exact rtC
  have hb:decide ((z.eras.length:Int)=0)=false:=decide_eq_false (fun h=>hz0 (List.eq_nil_of_length_eq_zero (by omega)))
  rw[if_neg hz0]at hi
  obtain⟨r2,hr2⟩:∃ r2,ZbS a.rules z.eras i z.eras.length 0=r2:=⟨_,rfl⟩
  rw[hr2]at hi
  have hfw:r2=none->∀ w',Bel w.heap.size w w'->Does Tryz.prog 197 [srcV Ar Az Al As cr cz cl cs a,.agg #[.string z.name,.slice Ae z.eras.length ce]] w' (fun v O=>v = .bool (Zem a.rules z)/\O=[]):=fun hn w' hw =>
   hW Ar Az Al As cr cz cl cs a z Ae ce w' (hA.up hw) (hEz.up hw) hS hV hel (fun e he=>hZ z hmem e he) (Zjv (hr2.trans hn))
  generalize Zem a.rules z=fw at *
  repeat (first|(apply RL_pu;rfl;exact ZpK)|(apply RD_Q;rfl;rfl;decide +kernel;rfl;rfl;exact QyRfZ0)|refine walk1 ?_|(refine jn ?_;(try intro F);(first|(refine bx ?_;intro bk)|(refine stA ?_)|(apply Zac;first|exact ZpK|exact PuA));first|refine⟨_,EndsA,QFRfZ0,?_⟩|refine fin ?_)|(apply RD_W;rfl;intro bk))
  obtain⟨b5,hb5⟩:∃ b5,bk=b5:=⟨_,rfl⟩
  rw[hb5]
  clear hb5 bk
  refine Zai [(1,.pointer (some ⟨b1,0,none⟩)),(2,.pointer (some ⟨b2,0,none⟩)),(4,.int .i64 i),(5,.pointer (some ⟨b5,0,none⟩))] [.blk b5 [.string z.name,.slice Ae z.eras.length ce] 71,.blk b2 [.int .i64 0,.int .i64 0,.int .i64 0] 138,.blk b1 [.slice Ar a.rules.length cr,.slice Az a.zones.length cz,.slice Al a.links.length cl,.slice As a.shifts.length cs] 27]
   (fun k:Nat=>[(6,.int .i64 k)]) (fun _=>[]) (fun k=>k<=z.eras.length/\ZbS a.rules z.eras i (z.eras.length - k) k=r2/\∀ j,k=j+1->ZcI a.rules z.eras j=0) (fun k=>z.eras.length - k) 0 SFA SOA ⟨Nat.zero_le _,hr2,fun j h=>by omega⟩ ?_
  clear hr2
  rintro k ⟨hkl,hi2,hpr⟩
  repeat (first|refine walk ?_|(refine jn ?_;(try intro F);(first|(refine bx ?_;intro bk)|(refine stA ?_)|(apply Zac;exact PuA));refine fin ?_)|(apply RD_W;rfl;intro bk))
  refine Zaf rfl (fun hc2=>?_) (fun hc2=>?_)
  ·simp only[decide_eq_true_eq,Int.ofNat_lt]at hc2
   clear hna hca
   obtain⟨hna,hca⟩:=hEz.rd k _ (List.getElem?_eq_getElem hc2)
   have hem:=List.getElem_mem hc2
   have hgd:z.eras.getD k dE0=z.eras[k]:=by rw[List.getD_eq_getElem?_getD,List.getElem?_eq_getElem hc2];rfl
   obtain⟨f,hf⟩:∃ f,z.eras.length - k=f+1:=⟨z.eras.length - k - 1,by omega⟩
   rw[hf,ZbS,hgd]at hi2
   generalize z.eras[k]=e at *
   have her:=fun w' (hw:Bel w.heap.size w w')=>Zlk Ar Az Al As cr cz cl cs a e k w' (hA.up hw) hS hV (hZ z hmem e hem)
   have hen:=fun w' (hw:Bel w.heap.size w w')=>Znd Ar Az Al As cr cz cl cs a Ae ce z.eras k w' hF (hA.up hw) hS (hEz.up hw) hel hc2 (fun j hj=>ZqM (hpr j hj) (by omega))
   generalize ZcZ a.rules e (decide (k=0))=ec at *
   generalize hNC:ZcI a.rules z.eras k=nc at *
   obtain⟨off,kind,save,set,format,⟨is,year,month,⟨dk,dw,dd⟩,⟨us,ub⟩⟩⟩:=e
   simp only[DEra.enc]at her hca
   by_cases h1:ec=0
   ·rw[if_neg (fun h=>h h1)]at hi2
    subst h1
    by_cases h2:nc=0
    ·rw[if_neg (fun h=>h h2)]at hi2
     subst h2
     repeat (first|(apply RL_pu;rfl;exact PuI)|(apply RD_Q;rfl;rfl;decide +kernel;rfl;rfl;exact QyI)|refine walk1 ?_|(refine jg ?_;(try intro F);(first|(refine Zab her ?_)|(refine Zab hen ?_)|(refine bx ?_;intro bk)|(refine stA ?_));first|refine⟨_,EndsA,QFI,?_⟩|refine fin ?_)|(refine jn ?_;(try intro F);(first|(refine bx ?_;intro bk)|(refine stA ?_)|(apply Zac;first|exact PuI|exact PuA));first|refine⟨_,EndsA,QFI,?_⟩|refine fin ?_)|(apply RD_W;rfl;intro bk))
     exact⟨k+1,OA,⟨OA,by rw[show z.eras.length - (k+1)=f by omega];exact hi2,fun j hj=>by rw[show j=k by omega];exact hNC⟩,SFA,SOA⟩
    ·rw[if_pos h2]at hi2
     subst hi2
     dsimp only at hi
     subst hi
     have hb2:(!decide (nc=0))=true:=by rw[decide_eq_false h2];rfl
     simp only[ptV,plV,Zaq.enc]
     repeat (first|(apply RL_pu;rfl;exact ZmA)|(apply RD_Q;rfl;rfl;decide +kernel;rfl;rfl;exact Ztc)|refine walk1 ?_|(refine jg ?_;(try intro F);(first|(refine Zab her ?_)|(refine Zab hen ?_)|(refine bx ?_;intro bk)|(refine stA ?_));first|refine⟨_,EndsA,Zpw,?_⟩|refine fin ?_)|(refine jn ?_;(try intro F);(first|(refine bx ?_;intro bk)|(refine stA ?_)|(apply Zac;first|exact ZmA|exact PuA));first|refine⟨_,EndsA,Zpw,?_⟩|refine fin ?_)|(apply RD_W;rfl;intro bk))
     exact rtC
   ·rw[if_pos h1]at hi2
    subst hi2
    dsimp only at hi
    subst hi
    have hb2:(!decide (ec=0))=true:=by rw[decide_eq_false h1];rfl
    simp only[ptV,plV,Zaq.enc]
    repeat (first|(apply RL_pu;rfl;exact ZmA)|(apply RD_Q;rfl;rfl;decide +kernel;rfl;rfl;exact Ztc)|refine walk1 ?_|(refine jg ?_;(try intro F);(first|(refine Zab her ?_)|(refine bx ?_;intro bk)|(refine stA ?_));first|refine⟨_,EndsA,Zpw,?_⟩|refine fin ?_)|(refine jn ?_;(try intro F);(first|(refine bx ?_;intro bk)|(refine stA ?_)|(apply Zac;first|exact ZmA|exact PuA));first|refine⟨_,EndsA,Zpw,?_⟩|refine fin ?_)|(apply RD_W;rfl;intro bk))
    exact rtC
  ·simp only[decide_eq_false_iff_not,Int.ofNat_lt]at hc2
   rw[show z.eras.length - k=0 by omega,ZbS]at hi2
   subst hi2
   replace hfw:=hfw rfl
   dsimp only at hi
   cases fw with
   | false =>
    rw[if_pos rfl]at hi
    subst hi
    simp only[ptV,plV,Zaq.enc]
    repeat (first|refine walk ?_|(refine jg ?_;(try intro F);(first|(refine Zab hfw ?_)|(refine bx ?_;intro bk)|(refine stA ?_));refine fin ?_)|(refine jn ?_;(try intro F);(first|(refine bx ?_;intro bk)|(refine stA ?_)|(apply Zac;exact PuA));refine fin ?_)|(apply RD_W;rfl;intro bk))
    exact rtC
   | true =>
    rw[if_neg (by decide)]at hi
    repeat (first|refine walk ?_|(refine jg ?_;(try intro F);(first|(refine Zab hfw ?_)|(refine bx ?_;intro bk)|(refine stA ?_));refine fin ?_)|(refine jn ?_;(try intro F);(first|(refine bx ?_;intro bk)|(refine stA ?_)|(apply Zac;exact PuA));refine fin ?_)|(apply RD_W;rfl;intro bk))
    exact⟨i+1,OA,⟨OA,hi⟩,SFA,SOA⟩
 ·simp only[decide_eq_false_iff_not,Int.ofNat_lt]at hc
  rw[List.drop_eq_nil_of_le (by omega),Za9]at hi
  subst hi
  simp only[ptV,plV,Zaq.enc]
  repeat (first|refine walk ?_|(refine jn ?_;(try intro F);(first|(refine bx ?_;intro bk)|(refine stA ?_)|(apply Zac;exact PuA));refine fin ?_)|(apply RD_W;rfl;intro bk))
  exact rtC
def ptPz:Option (Zaq × Int)->Zaq × Int
 | none=>(⟨0,0,0⟩,0)
 | some x=>x
theorem Zx7 (o:Option (Zaq × Int)):ptV o = .tuple #[plV (ptPz o).1,.int .i64 (ptPz o).2]:=by cases o <;> rfl
theorem ZpJ {G:Prop}(h:G:=by(apply Zal;rfl;rfl;exact hb)):G:=h
set_option maxHeartbeats 4000000 in
theorem Znf (Ar Az Al As:Option Addr)(cr cz cl cs:Nat)(a:DSource)(w:World)(hP:RapS)(hF:FarS)(hW:ZyQ)(hA:Zar w Ar Az Al As cr cz cl cs a)(hS:ZcK a)(hV:SavI a)(hZ:∀ z∈a.zones,∀ e∈z.eras,ZiQ e) :
  Does Tryz.prog 85 [srcV Ar Az Al As cr cz cl cs a] w (fun v O=>v=ptV (accD a)/\O=[]):=by
 have h1:=fun w' (hw:Bel w.heap.size w w')=>Zm5 Ar Az Al As cr cz cl cs a w' (hA.up hw) hS
 have h2:=fun w' (hw:Bel w.heap.size w w')=>Zqg Ar Az Al As cr cz cl cs a w' hP (hA.up hw) hS hV
 have h3:=fun w' (hw:Bel w.heap.size w w')=>Zld Ar Az Al As cr cz cl cs a w' (hA.up hw) hS
 have h4:=fun w' (hw:Bel w.heap.size w w')=>Znn Ar Az Al As cr cz cl cs a w' (hA.up hw) hS
 have h5:ZeT a=none->∀ w',Bel w.heap.size w w'->Does Tryz.prog 129 [srcV Ar Az Al As cr cz cl cs a] w' (fun v O=>v=ptV (Za9 a.rules a.zones 0)/\O=[]):=fun hs w' hw=>Zm4 Ar Az Al As cr cz cl cs a w' hF hW (hA.up hw) hS (Zk8 hs) hZ
 have n1:=fun{p e} => @Zhu a p e
 have n2:∀ {p e},ZeT a=some (p,e)->e≠0:=fun h=>Zfq a.rules _ h
 have n3:∀ {p e},ZaZ a a.shifts [] 0=some (p,e)->e≠0:=fun h=>Zdw a _ _ _ h
 have n4:=fun{p e} => @ZhS a p e
 unfold accD
 generalize ZdS a=o1 at *
 generalize ZeT a=o2 at *
 generalize ZaZ a a.shifts [] 0=o3 at *
 generalize ZcV a=o4 at *
 generalize Za9 a.rules a.zones 0=o5 at *
 refine Zaa Tryz.func85 rfl rfl rfl rfl ?_
 cases o1 with
 | some x =>
  obtain⟨⟨p1,p2,p3⟩,e⟩:=x
  have hb:(!decide (e=0))=true:=by rw[decide_eq_false (n1 rfl)];rfl
  simp only[Option.some_or,ptV,plV,Zaq.enc]at h1 ⊢
  repeat (first|(apply RL_pu;rfl;exact ZpJ)|(refine js ?_;(first|(refine Zab h1 ?_)|(refine bx ?_;intro bk)))|refine walk1 ?_)
  exact rtC
 | none =>
 simp only[ptV,plV,Zaq.enc]at h1
 rw[Option.none_or]
 cases o2 with
 | some x =>
  obtain⟨⟨p1,p2,p3⟩,e⟩:=x
  have hb:(!decide (e=0))=true:=by rw[decide_eq_false (n2 rfl)];rfl
  simp only[Option.some_or,ptV,plV,Zaq.enc]at h2 ⊢
  repeat (first|(apply RL_pu;rfl;exact ZpJ)|(refine js ?_;(first|(refine Zab h1 ?_)|(refine Zab h2 ?_)|(refine bx ?_;intro bk)))|refine walk1 ?_)
  exact rtC
 | none =>
 replace h5:=h5 rfl
 simp only[ptV,plV,Zaq.enc]at h2
 rw[Option.none_or]
 cases o3 with
 | some x =>
  obtain⟨⟨p1,p2,p3⟩,e⟩:=x
  have hb:(!decide (e=0))=true:=by rw[decide_eq_false (n3 rfl)];rfl
  simp only[Option.some_or,ptV,plV,Zaq.enc]at h3 ⊢
  repeat (first|(apply RL_pu;rfl;exact ZpJ)|(refine js ?_;(first|(refine Zab h1 ?_)|(refine Zab h2 ?_)|(refine Zab h3 ?_)|(refine bx ?_;intro bk)))|refine walk1 ?_)
  exact rtC
 | none =>
 simp only[ptV,plV,Zaq.enc]at h3
 rw[Option.none_or]
 cases o4 with
 | some x =>
  obtain⟨⟨p1,p2,p3⟩,e⟩:=x
  have hb:(!decide (e=0))=true:=by rw[decide_eq_false (n4 rfl)];rfl
  simp only[Option.some_or,ptV,plV,Zaq.enc]at h4 ⊢
  repeat (first|(apply RL_pu;rfl;exact ZpJ)|(refine js ?_;(first|(refine Zab h1 ?_)|(refine Zab h2 ?_)|(refine Zab h3 ?_)|(refine Zab h4 ?_)|(refine bx ?_;intro bk)))|refine walk1 ?_)
  exact rtC
 | none =>
 simp only[ptV,plV,Zaq.enc]at h4
 rw[Option.none_or]
 rw[Zx7]at h5 ⊢
 generalize ptPz o5=y at *
 obtain⟨⟨p1,p2,p3⟩,e⟩:=y
 simp only[plV,Zaq.enc]at h5 ⊢
 repeat (first|(refine js ?_;(first|(refine Zab h1 ?_)|(refine Zab h2 ?_)|(refine Zab h3 ?_)|(refine Zab h4 ?_)|(refine Zab h5 ?_)|(refine bx ?_;intro bk)))|refine walk ?_)
 exact rtC
end Go.Proofs.YtpipekfmecikmaaGreatDoor
namespace Go.Wk
open Go Go.RowKit
theorem ZvO {P:Program}{n:Nat}{wr:World}{fr:Fr}{O:List It}{ty t t':TypeId}{α:Type}[DecidableEq α]{enc:α->List Value}{x y:Operand}{i j:α}{b:Bool}[hE:EqE P t α enc](hx:ev fr x=some (.agg (enc i).toArray))(hy:ev fr y=some (.agg (enc j).toArray))(h:decide (i=j)=b) :
  Pu P n wr fr O (.binOp .eql t x y t') ty (.bool b):=h▸Pu_eqlE hx hy
end Go.Wk
namespace Go.Proofs.YtpipekfmecikmaaGreatDoor
open Go Go.RowKit Go.Wk
attribute [local irreducible] W RL Does Zat Zaj retQ Calls Pu Stp RD Qy Ay Zak
def prE (x:Int × List UInt8):List Value:=[.int .i64 x.1,.string (bz x.2)]
theorem prE.len (x:Int × List UInt8):(prE x).length=2:=rfl
def abX (x:List UInt8):List Value:=[.string (bz x)]
theorem abX.len (x:List UInt8):(abX x).length=1:=rfl
instance : EqE Tryz.prog 276 (Int × ByteArray) pEnc where
 h r s w:=by
  unfold pEnc
  simp[go_sem,Zc9]
  rcases r with⟨_,_⟩
  rcases s with⟨_,_⟩
  simp only[Zlu,Result.ok.injEq,and_true]
  rw[Bool.eq_iff_iff]
  simp
 g:=by kernel_rfl
structure FwK where
 i:Nat
 kn:Bool
structure FwR where
 k:Nat
 A1:Option Addr
 c1:Nat
 A2:Option Addr
 c2:Nat
 sz:Int
 acc:List (Int × List UInt8) × List (List UInt8)
 t:Nat
theorem ZvG (x:Int × List UInt8)(l:List (Int × List UInt8)):(addP x l).length<=l.length+1:=by unfold addP;split <;> simp
theorem ZvH (x:List UInt8)(l:List (List UInt8)):(addA x l).length<=l.length+1:=by unfold addA;split <;> simp
theorem ZfX (x:List UInt8):∀ l:List (List UInt8),ZcM (l++[x])=ZcM l+(x.length+1)
 | []=>by simp[ZcM]
 | y::l=>by rw[List.cons_append,ZcM,ZcM,ZfX x l];omega
structure FwI (acc:List (Int × List UInt8) × List (List UInt8))(sz:Int)(t:Nat):Prop where
 p:acc.1.length<=t
 a:acc.2.length<=t
 s:sz=ZcM acc.2
 b:ZcM acc.2<=10*t
theorem FwI.step {acc:List (Int × List UInt8) × List (List UInt8)}{sz:Int}{t:Nat}(h:FwI acc sz t)(o:Int)(x:List UInt8)(hx:x.length<=7):FwI (addP (o,x) acc.1,addA x acc.2) (ZcM (addA x acc.2)) (t+1) :=
 ⟨by have:=ZvG (o,x) acc.1;have:=h.p;dsimp only;omega,by have:=ZvH x acc.2;have:=h.a;dsimp only;omega,rfl,by
  have:=h.b
  dsimp only
  unfold addA
  split
  ·omega
  ·rw[ZfX];omega⟩
theorem Zn3 {α:Type}[DecidableEq α](x:α):∀ l:List α,(l.any fun y=>decide (y=x))=decide (x∈l)
 | []=>by simp
 | y::l=>by
  rw[List.any_cons,Zn3 x l,Bool.eq_iff_iff]
  simp only[Bool.or_eq_true,decide_eq_true_eq,List.mem_cons]
  exact⟨fun h=>h.elim (fun h => .inl h.symm) .inr,fun h=>h.elim (fun h => .inl h.symm) .inr⟩
theorem ZeZ {G G':Prop}(k:G')(h:Hold G'->G:=by intro k9;(first|refine walk ?_|(refine jn ?_;(try intro F);(first|(refine stA ?_)|(apply Zac;exact PuA));refine fin ?_));exact k9.out):G:=h ⟨k⟩
theorem ZtM {G:Prop}(h:G:=by(first|(apply Zap;rfl;rfl;omega;omega;(intro w' _ hO;exact(ZaD (hO.of (A := .row (.slice A5 S.length c5) 155 2 S.length (S.flatMap Za4)) (by repeat' constructor)) hg1).1))|(apply ZaS;rfl;(focus repeat' constructor);exact hgn;rfl)|(apply Zbt;rfl;(focus repeat' constructor);exact hgx)|(apply ZbW;rfl;(focus repeat' constructor);exact hgx))):G:=h
theorem Zwp {G:Prop}(h:G:=by first|(apply Qy_y;rfl;exact ZtM)|exact QyA):G:=h
theorem ZwQ {G:Prop}(h:G:=by repeat (first|exact QF.nil|(apply QF.mk;rfl;rfl;decide +kernel;exact Zwp))):G:=h
theorem ZtL {G:Prop}(h:G:=by(first|(apply Zap;rfl;rfl;omega;omega;(intro w' _ hO;exact(ZaD (hO.of (A := .row (.slice A1 P.length c1) 276 2 P.length (P.flatMap prE)) (by repeat' constructor)) hp1).1))|(apply ZaS;rfl;(focus repeat' constructor);exact hpn;rfl)|(apply ZvO (i:=((y1,bz y2):Int × ByteArray)) (j:=(e.off+x.1,bz ab)) (enc:=pEnc);rfl;rfl;exact hq))):G:=h
theorem Zwo {G:Prop}(h:G:=by first|(apply Qy_y;rfl;exact ZtL)|exact QyA):G:=h
theorem ZzZ {G:Prop}(h:G:=by repeat (first|exact QF.nil|(apply QF.mk;rfl;rfl;decide +kernel;exact Zwo))):G:=h
theorem Zxl {G:Prop}(h:G:=by(first|(apply Zap;rfl;rfl;omega;omega;(intro w' _ hO;exact(ZaD (hO.of (A := .row (.slice A2 L.length c2) 9 1 L.length (L.flatMap abX)) (by repeat' constructor)) ha1).1))|(apply ZbW;rfl;(focus repeat' constructor);exact ha1)|(apply ZbX;rfl;rfl;exact hq))):G:=h
theorem Zxk {G:Prop}(h:G:=by(apply Zew;rfl;rfl;first|exact b1|exact b2)):G:=h
theorem Zxj {G:Prop}(h:G:=by(apply Zew;rfl;rfl;exact b1)):G:=h
set_option maxHeartbeats 4000000 in
theorem Znb (Ar Az Al As:Option Addr)(cr cz cl cs:Nat)(a:DSource)(z:DZone)(Ae:Option Addr)(ce:Nat)(w:World)(hA:Zar w Ar Az Al As cr cz cl cs a)(hE:RdSl w Ae ce DEra.enc 13 z.eras)(hS:ZcK a)(hV:Zgl a)(hel:z.eras.length<=1000000)
  (hZ:∀ e∈z.eras,ZiQ e) (hH:∀ e∈z.eras,∀ x∈ZaG a.rules e,Za0 e.off x.1=true) :
  Does Tryz.prog 197 [srcV Ar Az Al As cr cz cl cs a,.agg #[.string z.name,.slice Ae z.eras.length ce]] w (fun v O=>v = .bool (Zem a.rules z)/\O=[]):=by
 have hn:=hS.nr
 unfold Zem
 obtain⟨R,hR⟩:∃ R,erGo a.rules z.eras ([],[])=R:=⟨_,rfl⟩
 rw[hR]
 refine Zaa Tryz.func197 rfl rfl rfl rfl ?_
 repeat (first|refine ZeZ ?_|(refine jn ?_;(try intro F);(refine bx ?_;intro bk);refine fin ?_)|(apply RD_W;rfl;intro bk))
 rename_i b2
 obtain⟨b3,hb3⟩:∃ b3,bk=b3:=⟨_,rfl⟩
 rw[hb3]
 clear hb3 bk
 refine ZdN 276 2 ?_
 refine ZdN 9 1 ?_
 refine Zai [(2,.pointer (some ⟨b2,0,none⟩)),(3,.pointer (some ⟨b3,0,none⟩))] [.blk b3 [.string z.name,.slice Ae z.eras.length ce] 71,.blk b2 [.slice Ar a.rules.length cr,.slice Az a.zones.length cz,.slice Al a.links.length cl,.slice As a.shifts.length cs] 27]
  (fun g:FwR=>[(5,.slice g.A1 g.acc.1.length g.c1),(6,.slice g.A2 g.acc.2.length g.c2),(7,.int .i64 g.sz),(8,.int .i64 g.k)]) (fun g=>[.row (.slice g.A1 g.acc.1.length g.c1) 276 2 g.acc.1.length (g.acc.1.flatMap prE),.row (.slice g.A2 g.acc.2.length g.c2) 9 1 g.acc.2.length (g.acc.2.flatMap abX)])
  (fun g=>g.k<=z.eras.length/\FwI g.acc g.sz g.t/\g.t<=g.k*2000000/\erGo a.rules (z.eras.drop g.k) g.acc=R) (fun g=>z.eras.length - g.k) ⟨0,none,0,none,0,0,([],[]),0⟩ SFA SOA ⟨Nat.zero_le _,⟨Nat.le_refl _,Nat.le_refl _,rfl,Nat.le_refl _⟩,Nat.le_refl _,hR⟩ ?_
 clear hR
 rintro⟨k,A1,c1,A2,c2,sz,acc,t⟩ ⟨hk,hI,ht,hi⟩
 dsimp only at hk hI ht hi ⊢
 repeat (first|refine ZeZ ?_|(refine jn ?_;(try intro F);(refine bx ?_;intro bk);refine fin ?_)|(apply RD_W;rfl;intro bk))
 refine Zaf rfl (fun hc=>?_) (fun hc=>?_)
 ·simp only[decide_eq_true_eq,Int.ofNat_lt]at hc
  obtain⟨hna,hca⟩:=hE.rd k _ (List.getElem?_eq_getElem hc)
  have hem:=List.getElem_mem hc
  rw[Zag hc,erGo]at hi
  generalize z.eras[k]=e at *
  have hSl:=Zd6 a.rules e
  have hlet:=Zgw (e:=e) fun r hr=>(hS.rs r hr).2
  have h64:=Zfa (e:=e) (fun r h=>hV.i64 r h) (hZ e hem).save
  have hss:=fun w' (hw:Bel w.heap.size w w')=>Zgx Ar Az Al As cr cz cl cs a e w' (hA.up hw) hn
  have hZe:=hZ e hem
  have hHe:=hH e hem
  generalize ZaG a.rules e=S at *
  obtain⟨R2,hR2⟩:∃ R2,stGo e S acc=R2:=⟨_,rfl⟩
  rw[hR2]at hi
  simp only[DEra.enc]at hss hca
  repeat (first|(apply RL_pu;rfl;exact PuI)|(apply RD_Q;rfl;rfl;decide +kernel;rfl;rfl;exact QyI)|refine walk1 ?_|(refine jg ?_;(try intro F);(first|(apply Zae (h:=fun w' hw _=>hss w' hw);rfl;rintro v O' ⟨A5,c5,rfl,rfl⟩)|(refine bx ?_;intro bk)|(refine stA ?_));first|refine⟨_,EndsA,QFI,?_⟩|refine fin ?_)|(refine jn ?_;(try intro F);(first|(refine bx ?_;intro bk)|(refine stA ?_)|(apply Zac;first|exact PuI|exact PuA));first|refine⟨_,EndsA,QFI,?_⟩|refine fin ?_)|(apply RD_W;rfl;intro bk))
  generalize bk=b9
  refine Zai [(2,.pointer (some ⟨b2,0,none⟩)),(3,.pointer (some ⟨b3,0,none⟩)),(8,.int .i64 k),(9,.pointer (some ⟨b9,0,none⟩)),(10,.slice A5 S.length c5)]
   [.blk b9 [.int .i64 e.off,.int .i64 e.kind,.int .i64 e.save,.string e.set,.string e.format,.bool e.til.is,.int .i64 e.til.year,.int .i64 e.til.month,.int .i64 e.til.day.kind,.int .i64 e.til.day.week,.int .i64 e.til.day.day,.int .i64 e.til.at_.sec,.int .i64 e.til.at_.base] 75,.row (.slice A5 S.length c5) 155 2 S.length (S.flatMap Za4),.blk b3 [.string z.name,.slice Ae z.eras.length ce] 71,.blk b2 [.slice Ar a.rules.length cr,.slice Az a.zones.length cz,.slice Al a.links.length cl,.slice As a.shifts.length cs] 27]
   (fun g:FwR=>[(5,.slice g.A1 g.acc.1.length g.c1),(6,.slice g.A2 g.acc.2.length g.c2),(7,.int .i64 g.sz),(11,.int .i64 g.k)]) (fun g=>[.row (.slice g.A1 g.acc.1.length g.c1) 276 2 g.acc.1.length (g.acc.1.flatMap prE),.row (.slice g.A2 g.acc.2.length g.c2) 9 1 g.acc.2.length (g.acc.2.flatMap abX)])
   (fun g=>g.k<=S.length/\FwI g.acc g.sz g.t/\g.t<=k*2000000+g.k/\stGo e (S.drop g.k) g.acc=R2) (fun g=>S.length - g.k) ⟨0,A1,c1,A2,c2,sz,acc,t⟩ SFA SOA ⟨Nat.zero_le _,hI,Nat.le_trans ht (Nat.le_add_right _ _),hR2⟩ ?_
  clear hR2 hI ht A1 c1 A2 c2 sz acc t
  rintro⟨j,A1,c1,A2,c2,sz,acc,t⟩ ⟨hj,hI,ht,hi2⟩
  dsimp only at hj hI ht hi2 ⊢
  repeat (first|refine ZeZ ?_|(refine jn ?_;(try intro F);(refine bx ?_;intro bk);refine fin ?_)|(apply RD_W;rfl;intro bk))
  refine Zaf rfl (fun hc2=>?_) (fun hc2=>?_)
  ·simp only[decide_eq_true_eq,Int.ofNat_lt]at hc2
   have hg1:=Zao Za4.len S j _ 0 _ (List.getElem?_eq_getElem hc2) rfl
   have hgn:∀ i v,(Za4 S[j])[i]?=some v->(S.flatMap Za4)[j*2+i]?=some v:=fun i v hv=>Zao Za4.len S j _ i v (List.getElem?_eq_getElem hc2) hv
   have hgx:=hgn 0 _ rfl
   have hxm:=List.getElem_mem hc2
   rw[Zag hc2,stGo]at hi2
   generalize S[j]=x at *
   have hfa:=fun w'=>ZeC e.format x.2 e.off x.1 w' hZe.fmt (hlet x hxm) hZe.off (h64 x hxm)
   have hal:=Zml e.format.data.toList e.off x.1 x.2.data.toList
   have hho:=hHe x hxm
   unfold Za0 at hho
   simp only[Bool.and_eq_true,decide_eq_true_eq]at hho
   obtain⟨hh1,hh2⟩:=hho
   generalize ZeW e.format.data.toList e.off x.1 x.2.data.toList=abr at *
   obtain⟨ab,er⟩:=abr
   dsimp only at hi2 hal
   replace hfa:∀ w',Does Tryz.prog 91 [.string e.format,.int .i64 e.off,.agg #[.int .i64 x.1,.string x.2]] w' (fun v O=>v = .tuple #[.string (bz ab),.int .i64 er]/\O=[]):=hfa
   simp only[Za4]at hgn hg1
   have hst:=hI.step (e.off+x.1) ab hal
   have hp:=hI.p
   have ha:=hI.a
   have hsb:=hI.b
   have hss2:=hI.s
   obtain⟨P,L⟩:=acc
   dsimp only at hp ha hsb hss2 hst hi2 ⊢
   have hal2:=ZsQ ab
   repeat (first|refine ZmR ?_|(refine jn ?_;(try intro F);(first|(refine bx ?_;intro bk)|(refine stA ?_)|(apply Zac;exact PuA));refine fin ?_)|(apply RD_W;rfl;intro bk))
   apply W_block
   repeat (first|(apply RL_pu;rfl;exact ZtM)|(apply RD_Q;rfl;rfl;decide +kernel;rfl;rfl;exact Zwp)|refine walkB1 ?_|(refine jg ?_;(try intro F);(first|(refine Zab (fun w' _=>hfa w') ?_)|(refine bx ?_;intro bk)|(refine stA ?_));first|refine⟨_,EndsA,ZwQ,?_⟩|refine fin ?_)|(refine jn ?_;(try intro F);(first|(refine bx ?_;intro bk)|(refine stA ?_)|(apply Zac;first|exact ZtM|exact PuA));first|refine⟨_,EndsA,ZwQ,?_⟩|refine fin ?_)|(apply RD_W;rfl;intro bk))
   generalize bk=b14
   obtain⟨K1,hK1⟩:∃ K,(P.any fun y=>decide (y=(e.off+x.1,ab)))=K:=⟨_,rfl⟩
   have hP1:addP (e.off+x.1,ab) P=if K1 then P else P++[(e.off+x.1,ab)]:=by
    unfold addP
    rw[<- hK1,Zn3]
    simp only[decide_eq_true_eq]
   refine ZbZ (fun fr' O'=>Sub ((15,.bool K1)::[(2,.pointer (some ⟨b2,0,none⟩)),(3,.pointer (some ⟨b3,0,none⟩)),(8,.int .i64 k),(9,.pointer (some ⟨b9,0,none⟩)),(10,.slice A5 S.length c5),(11,.int .i64 j),(12,.string (bz ab)),(7,.int .i64 sz),(5,.slice A1 P.length c1),(6,.slice A2 L.length c2),(14,.pointer (some ⟨b14,0,none⟩))]) fr'/\SubO [.row (.slice A1 P.length c1) 276 2 P.length (P.flatMap prE),.blk b14 [.int .i64 (e.off+x.1),.string (bz ab)] 276,.blk b9 [.int .i64 e.off,.int .i64 e.kind,.int .i64 e.save,.string e.set,.string e.format,.bool e.til.is,.int .i64 e.til.year,.int .i64 e.til.month,.int .i64 e.til.day.kind,.int .i64 e.til.day.week,.int .i64 e.til.day.day,.int .i64 e.til.at_.sec,.int .i64 e.til.at_.base] 75,.row (.slice A5 S.length c5) 155 2 S.length (S.flatMap Za4),.blk b3 [.string z.name,.slice Ae z.eras.length ce] 71,.blk b2 [.slice Ar a.rules.length cr,.slice Az a.zones.length cz,.slice Al a.links.length cl,.slice As a.shifts.length cs] 27,.row (.slice A2 L.length c2) 9 1 L.length (L.flatMap abX)] O') ?_ ?_
   ·apply W_block
    clear hi2 hi hI hst hP1
    refine Zai [(2,.pointer (some ⟨b2,0,none⟩)),(3,.pointer (some ⟨b3,0,none⟩)),(8,.int .i64 k),(9,.pointer (some ⟨b9,0,none⟩)),(10,.slice A5 S.length c5),(11,.int .i64 j),(12,.string (bz ab)),(7,.int .i64 sz),(5,.slice A1 P.length c1),(6,.slice A2 L.length c2),(14,.pointer (some ⟨b14,0,none⟩))] [.row (.slice A1 P.length c1) 276 2 P.length (P.flatMap prE),.blk b14 [.int .i64 (e.off+x.1),.string (bz ab)] 276,.blk b9 [.int .i64 e.off,.int .i64 e.kind,.int .i64 e.save,.string e.set,.string e.format,.bool e.til.is,.int .i64 e.til.year,.int .i64 e.til.month,.int .i64 e.til.day.kind,.int .i64 e.til.day.week,.int .i64 e.til.day.day,.int .i64 e.til.at_.sec,.int .i64 e.til.at_.base] 75,.row (.slice A5 S.length c5) 155 2 S.length (S.flatMap Za4),.blk b3 [.string z.name,.slice Ae z.eras.length ce] 71,.blk b2 [.slice Ar a.rules.length cr,.slice Az a.zones.length cz,.slice Al a.links.length cl,.slice As a.shifts.length cs] 27,.row (.slice A2 L.length c2) 9 1 L.length (L.flatMap abX)] (fun g:FwK=>[(15,.bool g.kn),(16,.int .i64 g.i)]) (fun _=>[]) (fun g=>g.i<=P.length/\(g.kn||(P.drop g.i).any fun y=>decide (y=(e.off+x.1,ab)))=K1) (fun g=>P.length - g.i) ⟨0,false⟩ SFA SOA ⟨Nat.zero_le _,hK1⟩ ?_
    clear hK1
    rintro⟨i,kn⟩ ⟨hi1,hi3⟩
    dsimp only at hi1 hi3 ⊢
    repeat (first|refine ZeZ ?_|(refine jn ?_;(try intro F);(refine bx ?_;intro bk);refine fin ?_)|(apply RD_W;rfl;intro bk))
    refine Zaf rfl (fun hc3=>?_) (fun hc3=>?_)
    ·simp only[decide_eq_true_eq,Int.ofNat_lt]at hc3
     rw[Zag hc3,List.any_cons]at hi3
     cases kn with
     | true =>
      repeat (first|refine und ?_|refine walk ?_|(refine jn ?_;(try intro F);(first|(refine bx ?_;intro bk)|(refine stA ?_)|(apply Zac;exact PuA));refine fin ?_)|(apply RD_W;rfl;intro bk))
      exact⟨⟨i+1,true⟩,OA,⟨OA,hi3⟩,SFA,SOA⟩
     | false =>
      have hp1:=Zao prE.len P i _ 0 _ (List.getElem?_eq_getElem hc3) rfl
      have hpn:∀ j v,(prE P[i])[j]?=some v->(P.flatMap prE)[i*2+j]?=some v:=fun j v hv=>Zao prE.len P i _ j v (List.getElem?_eq_getElem hc3) hv
      generalize P[i]=y at *
      obtain⟨y1,y2⟩:=y
      obtain⟨Q,hQ⟩:∃ Q,decide (((y1,y2):Int × List UInt8)=(e.off+x.1,ab))=Q:=⟨_,rfl⟩
      have hq:decide (((y1,bz y2):Int × ByteArray)=(e.off+x.1,bz ab))=Q:=by
       rw[<- hQ]
       refine decide_eq_decide.2 ⟨fun h=>?_,fun h=>?_⟩
       ·injection h with h1 h2;rw[h1,Zpi h2]
       ·injection h with h1 h2;rw[h1,h2]
      rw[hQ,Bool.false_or]at hi3
      simp only[prE]at hp1 hpn
      repeat (first|refine und ?_|(apply RL_pu;rfl;exact ZtL)|(apply RD_Q;rfl;rfl;decide +kernel;rfl;rfl;exact Zwo)|refine walk1 ?_|(refine jn ?_;(try intro F);(first|(refine bx ?_;intro bk)|(refine stA ?_)|(apply Zac;first|exact ZtL|exact PuA));first|refine⟨_,EndsA,ZzZ,?_⟩|refine fin ?_)|(apply RD_W;rfl;intro bk))
      exact⟨⟨i+1,Q⟩,OA,⟨OA,hi3⟩,SFA,SOA⟩
    ·simp only[decide_eq_false_iff_not,Int.ofNat_lt]at hc3
     rw[List.drop_eq_nil_of_le (by omega),List.any_nil,Bool.or_false]at hi3
     subst hi3
     repeat (first|refine ZeZ ?_|(refine jn ?_;(try intro F);(refine bx ?_;intro bk);refine fin ?_)|(apply RD_W;rfl;intro bk))
     exact⟨rfl,SFA,SOA⟩
   rintro fr' O' ⟨hf,hO⟩
   apply thenQ_n
   refine ZcO hf hO ?_
   clear hf hO fr' O' hK1
   refine W_seq ?_
   refine ZbZ (fun fr' O'=>∃ (A3:Option Addr) (c3:Nat),Sub [(2,.pointer (some ⟨b2,0,none⟩)),(3,.pointer (some ⟨b3,0,none⟩)),(8,.int .i64 k),(9,.pointer (some ⟨b9,0,none⟩)),(10,.slice A5 S.length c5),(11,.int .i64 j),(12,.string (bz ab)),(7,.int .i64 sz),(5,.slice A3 (addP (e.off+x.1,ab) P).length c3),(6,.slice A2 L.length c2)] fr'/\SubO [.row (.slice A3 (addP (e.off+x.1,ab) P).length c3) 276 2 (addP (e.off+x.1,ab) P).length ((addP (e.off+x.1,ab) P).flatMap prE),.blk b9 [.int .i64 e.off,.int .i64 e.kind,.int .i64 e.save,.string e.set,.string e.format,.bool e.til.is,.int .i64 e.til.year,.int .i64 e.til.month,.int .i64 e.til.day.kind,.int .i64 e.til.day.week,.int .i64 e.til.day.day,.int .i64 e.til.at_.sec,.int .i64 e.til.at_.base] 75,.row (.slice A5 S.length c5) 155 2 S.length (S.flatMap Za4),.blk b3 [.string z.name,.slice Ae z.eras.length ce] 71,.blk b2 [.slice Ar a.rules.length cr,.slice Az a.zones.length cz,.slice Al a.links.length cl,.slice As a.shifts.length cs] 27,.row (.slice A2 L.length c2) 9 1 L.length (L.flatMap abX)] O') ?_ ?_
   ·rw[hP1]
    cases K1 with
    | true =>
     simp only[if_true]
     repeat (first|refine ZeZ ?_|(refine jn ?_;(try intro F);(refine bx ?_;intro bk);refine fin ?_)|(apply RD_W;rfl;intro bk))
     exact⟨rfl,A1,c1,SFA,SOA⟩
    | false =>
     simp only[Bool.false_eq_true,if_false]
     repeat (first|refine walk ?_|(refine jn ?_;(try intro F);(first|(apply ZaT;rfl;rfl;(intro A' c';(focus repeat' constructor));(intro w' _ hO;exact Zcu (hO.of (by repeat' constructor)));rfl;rfl;(simp only[maxLen];omega);omega;intro A' c' hc1 hc2 hc3)|(refine bx ?_;intro bk)|(refine stA ?_)|(apply Zac;exact PuA));refine fin ?_)|(apply RD_W;rfl;intro bk))
     refine⟨rfl,A',c',?_,?_⟩
     ·rw[List.length_append]
      exact SFA
     ·rw[List.length_append,List.flatMap_append]
      exact SOA
   rintro fr' O' ⟨A3,c3,hf,hO⟩
   apply thenQ_n
   refine ZcO hf hO ?_
   clear hf hO fr' O' A1 c1 hP1 b14
   generalize addP (e.off+x.1,ab) P=P2 at *
   obtain⟨K2,hK2⟩:∃ K,(L.any fun y=>decide (y=ab))=K:=⟨_,rfl⟩
   have hL2:addA ab L=if K2 then L else L++[ab]:=by
    unfold addA
    rw[<- hK2,Zn3]
    simp only[decide_eq_true_eq]
   repeat (first|refine ZmR ?_|(refine jn ?_;(try intro F);(first|(refine bx ?_;intro bk)|(refine stA ?_)|(apply Zac;exact PuA));refine fin ?_)|(apply RD_W;rfl;intro bk))
   refine ZbZ (fun fr' O'=>Sub ((15,.bool K2)::[(2,.pointer (some ⟨b2,0,none⟩)),(3,.pointer (some ⟨b3,0,none⟩)),(8,.int .i64 k),(9,.pointer (some ⟨b9,0,none⟩)),(10,.slice A5 S.length c5),(11,.int .i64 j),(12,.string (bz ab)),(7,.int .i64 sz),(5,.slice A3 P2.length c3),(6,.slice A2 L.length c2)]) fr'/\SubO [.row (.slice A3 P2.length c3) 276 2 P2.length (P2.flatMap prE),.blk b9 [.int .i64 e.off,.int .i64 e.kind,.int .i64 e.save,.string e.set,.string e.format,.bool e.til.is,.int .i64 e.til.year,.int .i64 e.til.month,.int .i64 e.til.day.kind,.int .i64 e.til.day.week,.int .i64 e.til.day.day,.int .i64 e.til.at_.sec,.int .i64 e.til.at_.base] 75,.row (.slice A5 S.length c5) 155 2 S.length (S.flatMap Za4),.blk b3 [.string z.name,.slice Ae z.eras.length ce] 71,.blk b2 [.slice Ar a.rules.length cr,.slice Az a.zones.length cz,.slice Al a.links.length cl,.slice As a.shifts.length cs] 27,.row (.slice A2 L.length c2) 9 1 L.length (L.flatMap abX)] O') ?_ ?_
   ·apply W_block
    clear hi2 hi hst hL2
    refine Zai [(2,.pointer (some ⟨b2,0,none⟩)),(3,.pointer (some ⟨b3,0,none⟩)),(8,.int .i64 k),(9,.pointer (some ⟨b9,0,none⟩)),(10,.slice A5 S.length c5),(11,.int .i64 j),(12,.string (bz ab)),(7,.int .i64 sz),(5,.slice A3 P2.length c3),(6,.slice A2 L.length c2)] [.row (.slice A3 P2.length c3) 276 2 P2.length (P2.flatMap prE),.blk b9 [.int .i64 e.off,.int .i64 e.kind,.int .i64 e.save,.string e.set,.string e.format,.bool e.til.is,.int .i64 e.til.year,.int .i64 e.til.month,.int .i64 e.til.day.kind,.int .i64 e.til.day.week,.int .i64 e.til.day.day,.int .i64 e.til.at_.sec,.int .i64 e.til.at_.base] 75,.row (.slice A5 S.length c5) 155 2 S.length (S.flatMap Za4),.blk b3 [.string z.name,.slice Ae z.eras.length ce] 71,.blk b2 [.slice Ar a.rules.length cr,.slice Az a.zones.length cz,.slice Al a.links.length cl,.slice As a.shifts.length cs] 27,.row (.slice A2 L.length c2) 9 1 L.length (L.flatMap abX)] (fun g:FwK=>[(15,.bool g.kn),(17,.int .i64 g.i)]) (fun _=>[]) (fun g=>g.i<=L.length/\(g.kn||(L.drop g.i).any fun y=>decide (y=ab))=K2) (fun g=>L.length - g.i) ⟨0,false⟩ SFA SOA ⟨Nat.zero_le _,hK2⟩ ?_
    clear hK2
    rintro⟨i,kn⟩ ⟨hi1,hi3⟩
    dsimp only at hi1 hi3 ⊢
    repeat (first|refine ZeZ ?_|(refine jn ?_;(try intro F);(refine bx ?_;intro bk);refine fin ?_)|(apply RD_W;rfl;intro bk))
    refine Zaf rfl (fun hc3=>?_) (fun hc3=>?_)
    ·simp only[decide_eq_true_eq,Int.ofNat_lt]at hc3
     rw[Zag hc3,List.any_cons]at hi3
     cases kn with
     | true =>
      repeat (first|refine und ?_|refine walk ?_|(refine jn ?_;(try intro F);(first|(refine bx ?_;intro bk)|(refine stA ?_)|(apply Zac;exact PuA));refine fin ?_)|(apply RD_W;rfl;intro bk))
      exact⟨⟨i+1,true⟩,OA,⟨OA,hi3⟩,SFA,SOA⟩
     | false =>
      have ha1:=Zao abX.len L i _ 0 _ (List.getElem?_eq_getElem hc3) rfl
      generalize L[i]=y at *
      obtain⟨Q,hQ⟩:∃ Q,decide (y=ab)=Q:=⟨_,rfl⟩
      have hq:decide (bz y=bz ab)=Q:=by
       rw[<- hQ]
       exact decide_eq_decide.2 ⟨fun h=>Zpi h,fun h=>by rw[h]⟩
      rw[hQ,Bool.false_or]at hi3
      repeat (first|refine und ?_|(apply RL_pu;rfl;exact Zxl)|(apply RD_Q;rfl;rfl;decide +kernel;rfl;rfl;exact QyRfW2)|refine walk1 ?_|(refine jn ?_;(try intro F);(first|(refine bx ?_;intro bk)|(refine stA ?_)|(apply Zac;first|exact Zxl|exact PuA));first|refine⟨_,EndsA,QFRfW2,?_⟩|refine fin ?_)|(apply RD_W;rfl;intro bk))
      exact⟨⟨i+1,Q⟩,OA,⟨OA,hi3⟩,SFA,SOA⟩
    ·simp only[decide_eq_false_iff_not,Int.ofNat_lt]at hc3
     rw[List.drop_eq_nil_of_le (by omega),List.any_nil,Bool.or_false]at hi3
     subst hi3
     repeat (first|refine ZeZ ?_|(refine jn ?_;(try intro F);(refine bx ?_;intro bk);refine fin ?_)|(apply RD_W;rfl;intro bk))
     exact⟨rfl,SFA,SOA⟩
   rintro fr' O' ⟨hf,hO⟩
   apply thenQ_n
   refine ZcO hf hO ?_
   clear hf hO fr' O' hK2
   rw[hL2]at hst hi2
   cases K2 with
   | true =>
    simp only[if_true]at hst hi2
    repeat (first|refine ZeZ ?_|(refine jn ?_;(try intro F);(refine bx ?_;intro bk);refine fin ?_)|(apply RD_W;rfl;intro bk))
    exact⟨⟨j+1,A3,c3,A2,c2,sz,(P2,L),t+1⟩,OA,⟨OA,by rw[hss2];exact hst,OA,hi2⟩,SFA,SOA⟩
   | false =>
    simp only[Bool.false_eq_true,if_false]at hst hi2
    have hsn:=ZfX ab L
    repeat (first|refine walk ?_|(refine jn ?_;(try intro F);(first|(apply ZaT;rfl;rfl;(intro A' c';(focus repeat' constructor));(intro w' _ hO;exact Zcu (hO.of (by repeat' constructor)));rfl;rfl;(simp only[maxLen];omega);omega;intro A' c' hc1 hc2 hc3)|(refine bx ?_;intro bk)|(refine stA ?_)|(apply Zac;exact PuA));refine fin ?_)|(apply RD_W;rfl;intro bk))
    have hsz:sz+(((bz ab).size:Int)+1)=(ZcM (L++[ab]):Int):=by rw[hsn,hal2,hss2];omega
    rw[hsz]
    refine⟨⟨j+1,A3,c3,A',c',_,(P2,L++[ab]),t+1⟩,OA,⟨OA,hst,OA,hi2⟩,?_,?_⟩
    ·dsimp only
     rw[List.length_append]
     exact SFA
    ·dsimp only
     rw[List.length_append,List.flatMap_append]
     exact SOA
  ·simp only[decide_eq_false_iff_not,Int.ofNat_lt]at hc2
   rw[List.drop_eq_nil_of_le (by omega),stGo]at hi2
   subst hi2
   repeat (first|refine ZeZ ?_|(refine jn ?_;(try intro F);(refine bx ?_;intro bk);refine fin ?_)|(apply RD_W;rfl;intro bk))
   exact⟨⟨k+1,A1,c1,A2,c2,sz,acc,t⟩,OA,⟨OA,hI,OA,hi⟩,SFA,SOA⟩
 ·simp only[decide_eq_false_iff_not,Int.ofNat_lt]at hc
  rw[List.drop_eq_nil_of_le (by omega),erGo]at hi
  subst hi
  obtain rfl:=hI.s
  by_cases h120:acc.1.length<=120
  ·have b1:decide ((acc.1.length:Int)<=120)=true:=decide_eq_true (by omega)
   have b2:decide ((ZcM acc.2:Int)<=250)=decide (ZcM acc.2<=250):=by rw[decide_eq_decide];omega
   rw[decide_eq_true h120,Bool.true_and]
   repeat (first|refine und ?_|(apply RL_pu;rfl;exact Zxk)|(apply RD_Q;rfl;rfl;decide +kernel;rfl;rfl;exact QyRfW3)|refine walk1 ?_|(refine jn ?_;(try intro F);(first|(refine bx ?_;intro bk)|(refine stA ?_)|(apply Zac;first|exact Zxk|exact PuA));first|refine⟨_,EndsA,QFRfW3,?_⟩|refine fin ?_)|(apply RD_W;rfl;intro bk))
   exact rtA
  ·have b1:decide ((acc.1.length:Int)<=120)=false:=decide_eq_false (by omega)
   rw[decide_eq_false h120,Bool.false_and]
   repeat (first|refine und ?_|(apply RL_pu;rfl;exact Zxj)|(apply RD_Q;rfl;rfl;decide +kernel;rfl;rfl;exact QyRfW4)|refine walk1 ?_|(refine jn ?_;(try intro F);(first|(refine bx ?_;intro bk)|(refine stA ?_)|(apply Zac;first|exact Zxj|exact PuA));first|refine⟨_,EndsA,QFRfW4,?_⟩|refine fin ?_)|(apply RD_W;rfl;intro bk))
   exact rtA
end Go.Proofs.YtpipekfmecikmaaGreatDoor
namespace Go.Wk
open Go Go.RowKit
section
variable {P:Program}{n:Nat}{wr:World}{fr:Fr}{O:List It}{ty:TypeId}{pos:String}{af:Array Edge}{dst:Option Tmp}{g:Option (Nat × Bool)}{Kp:Value->List It->Prop}
theorem Zs5 {t e sz bytes:Nat}{l c:Operand}{kl kc:IntKind}{N:Nat}{z xs:List Value}[hE:ElemZ P t e sz bytes][hZ:ZeroT P e z](hl:ev fr l=some (.int kl N))(hc:ev fr c=some (.int kc N))(hn:N*sz<=16777216)(hb:bytes*N<=281474976710656)(h63:N<=maxLen)
  (hx:(madeCells z.toArray (N*sz)).toList=xs) (kk:∀ b,Kp (.slice (some ⟨b,0,none⟩) N N) (.row (.slice (some ⟨b,0,none⟩) N N) e sz N xs::O)):Stp P n wr fr O ⟨dst,.makeSlice t l c,ty,pos,af,g⟩ Kp :=
 ZbG fun a w hs=>by
  obtain⟨i,zv,ht,hi,hz,hsz,hby,hzs,hpos⟩:=ElemZ.parts hE.h
  have h:=hZ.h
  unfold Ze8 at h
  rw[hi]at h
  simp only[hz,Option.some.injEq]at h
  have hzx:zv.cells=z.toArray:=by rw[<- h]
  obtain⟨w',hrun,r1,r2⟩:=run_makeSlice_full (P:=P) w 0 t e i zv sz ht hi hz hsz kl kc N hn (by rw[hby];exact hb) h63 (Nat.zero_le _)
  rw[hzx,hx]at r1
  refine⟨_,w',_,?_,?_,?_,kk w.heap.size⟩
  ·simp[execOp,hs.sim.ev hl,hs.sim.ev hc,hrun]
  ·exact hs.old.grown r2 (ZrA _ _ _ _ hrun) hs.old.size (fun k hk=>by cases hk)
  ·refine hs.own.grow (O':=[.row (.slice (some ⟨w.heap.size,0,none⟩) N N) e sz N xs]) ((Bel.refl _ _).grown r2 (ZrA _ _ _ _ hrun) (Nat.le_refl _) (fun k hk=>by cases hk)) hs.old.size ⟨fun i hi=>?_,fun i hi b hb=>?_,List.pairwise_singleton _ _⟩
   ·rw[List.mem_singleton.1 hi]
    exact r1
   ·rw[List.mem_singleton.1 hi]at hb
    simp only[It.S,Value.ownBlock,Option.some.injEq]at hb
    subst hb
    exact⟨Nat.le_refl _,(r1.lt w.heap.size rfl).2⟩
end
end Go.Wk
namespace Go.Proofs.YtpipekfmecikmaaGreatDoor
open Go Go.RowKit Go.Wk
def okR (r:DRule):Bool:=decide (r.name.size<=1000000000)&&(decide (r.letter.size<=1000000000)&&(decide (-9223372036854775808<=r.save)&&decide (r.save<=9223372036854775807)))
def okI (n:Int):Bool:=decide (-9223372036854775808<=n)&&decide (n<=9223372036854775807)
def okE (e:DEra):Bool:=okI e.off&&(okI e.save&&(okI e.kind&&(decide (e.format.size<=1000000000)&&decide (e.set.size<=1000000000))))
def okZ (z:DZone):Bool:=decide (z.name.size<=1000000000)&&(decide (z.eras.length<=1000000)&&z.eras.all okE)
def okL (l:DLink):Bool:=decide (l.target.size<=1000000000)&&decide (l.name.size<=1000000000)
def okD (s:DSource):Bool:=decide (s.rules.length<=1000000)&&(decide (s.zones.length<=1000000)&&(decide (s.links.length<=1000000)&&(decide (s.shifts.length<=1000000)&&(s.rules.all okR&&(s.zones.all okZ&&s.links.all okL)))))
theorem Zr3 {n:Int}(h:okI n=true):I64 n:=by
 unfold okI at h
 rw[Bool.and_eq_true,decide_eq_true_eq,decide_eq_true_eq]at h
 exact h
theorem Zr4 {s:DSource}(h:okD s=true):ZcK s/\SavI s/\∀ z∈s.zones,∀ e∈z.eras,ZiQ e:=by
 unfold okD at h
 simp only[Bool.and_eq_true,decide_eq_true_eq,List.all_eq_true]at h
 obtain⟨h1,h2,h3,h4,h5,h6,h7⟩:=h
 have hr:∀ r∈s.rules,_:=fun r hr=>by
  have:=h5 r hr
  unfold okR at this
  simp only[Bool.and_eq_true,decide_eq_true_eq]at this
  exact this
 have hz:∀ z∈s.zones,z.name.size<=1000000000/\z.eras.length<=1000000/\∀ e∈z.eras,okE e=true:=fun z hz=>by
  have:=h6 z hz
  unfold okZ at this
  simp only[Bool.and_eq_true,decide_eq_true_eq,List.all_eq_true]at this
  exact this
 have he:∀ e,okE e=true->I64 e.off/\I64 e.save/\I64 e.kind/\e.format.size<=1000000000/\e.set.size<=1000000000:=fun e he=>by
  unfold okE at he
  simp only[Bool.and_eq_true,decide_eq_true_eq]at he
  exact⟨Zr3 he.1,Zr3 he.2.1,Zr3 he.2.2.1,he.2.2.2⟩
 refine⟨⟨h1,h2,h3,h4,fun r h=>⟨(hr r h).1,(hr r h).2.1⟩,fun z h=>⟨(hz z h).1,(hz z h).2.1,fun e h'=>⟨(he e ((hz z h).2.2 e h')).2.2.2.2,(he e ((hz z h).2.2 e h')).2.2.2.1⟩⟩,fun l h=>?_⟩,fun r h=>⟨(hr r h).2.2.1,(hr r h).2.2.2⟩,fun z h e h'=>?_⟩
 ·have:=h7 l h
  unfold okL at this
  simp only[Bool.and_eq_true,decide_eq_true_eq]at this
  exact this
 ·have:=he e ((hz z h).2.2 e h')
  exact⟨this.1,this.2.1,this.2.2.1,this.2.2.2.1⟩
theorem ZyI {w w':World}{Ar Az Al As:Option Addr}{cr cz cl cs:Nat}{a:DSource}(hL:LibW w)(hG:Glob w)(hw:Bel w.heap.size w w')(h:okD a=true)(hA:Zar w' Ar Az Al As cr cz cl cs a):Zb7 w' Ar Az Al As cr cz cl cs a :=
 ⟨hL.up hw,hG.up hw,hA,(Zr4 h).1,(Zr4 h).2.1,(Zr4 h).2.2⟩
end Go.Proofs.YtpipekfmecikmaaGreatDoor
