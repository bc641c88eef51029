/- Parts of the proof. -/
import Derived.Test.YtpipekfmecikmaaGreatDoorA17
set_option maxHeartbeats 0
set_option linter.all false
namespace Go.Proofs.YtpipekfmecikmaaGreatDoor
open Go Go.RowKit Go.Wk Tryz
attribute [local irreducible] W RL Does Zaq Zai retQ Calls Pu Stp RD Qy Ay Zaj
theorem ZpW (l:List DRule):(ZcE l).1<=l.length:=by
 unfold ZcE
 split
 ·rename_i x h
  obtain⟨j,e⟩:=x
  have:=ZiG _ l 0 j e h
  simp only at this ⊢
  omega
 ·repeat' split
  all_goals exact Nat.zero_le _
theorem ZlN {G:Prop}(h:G:=by(first|(apply ZaG;rfl;rfl;omega;omega;(intro w' _ hO;exact(Zbc (hO.of (A := .row (.slice An N.length cn) 9 1 N.length (N.flatMap ZaR)) cS_) hg1).1))|(apply ZcU;rfl;(focus repeat' constructor);exact hg1))):G:=h
theorem ZrE (Ar Az Al As:Option Addr)(E F D cs:Nat)(a:DSource)(w:World)(hG:Glob w)(S:Zam w Ar Az Al As E F D cs a)(V:ZcH a)(hV:SavI a) :
  Does prog 114 [srcV Ar Az Al As E F D cs a] w (fun v O=>v=ptV (Zfm a)/\O=[]):=by
 have Y:=V.nr
 have K:=fun w' (c:Bel w.heap.size w w')=>ZrC Ar Az Al As E F D cs a w' (S.up c) Y
 have U:=Zfd a.rules []
 have T:=Zfe a.rules []
 unfold Zfm
 generalize ZbM a.rules []=N at *
 simp only[List.length_nil,Nat.zero_add]at T
 obtain⟨C,s⟩:∃ C,ZcJ a.rules N=C:=⟨_,rfl⟩
 rw[s]
 refine Zaa func114 rfl rfl rfl rfl ?_
 repeat (first|(refine js ?_;(first|(apply Zad (h:=fun w' c _=>K w' c);rfl;rintro v O' ⟨An,cn,rfl,rfl⟩)|(refine bx ?_;intro M)))|refine walk ?_)
 rename_i b1
 obtain⟨L,u⟩:∃ L,M=L:=⟨_,rfl⟩
 rw[u]
 clear u M
 refine Zah [(1,.pointer (some ⟨b1,0,none⟩)),(2,.pointer (some ⟨L,0,none⟩)),(12,.slice An N.length cn),(13,.int .i64 N.length)] [.row (.slice An N.length cn) 9 1 N.length (N.flatMap ZaR),.blk L [.int .i64 0,.int .i64 0,.int .i64 0] 138,.blk b1 [.slice Ar a.rules.length E,.slice Az a.zones.length F,.slice Al a.links.length D,.slice As a.shifts.length cs] 174]
  (fun k:Nat=>[(14,.int .i64 k)]) (fun _=>[]) (fun k=>k<=N.length/\ZcJ a.rules (N.drop k)=C) (fun k=>N.length - k) 0 SFA SOA ⟨Nat.zero_le _,s⟩ ?_
 clear K s
 rintro k ⟨hk,d⟩
 repeat (refine walk ?_)
 refine Zaf rfl (fun H=>?_) (fun H=>?_)
 ·simp only[decide_eq_true_eq,Int.ofNat_lt]at H
  have hg1:(N.flatMap ZaR)[k*1]?=some (.string N[k]):=by
   have:=ZaD (enc:=ZaR) (fun _=>rfl) N k _ 0 (.string N[k]) (List.getElem?_eq_getElem H) rfl
   simpa using this
  have Z:=U _ (List.getElem_mem H)
  rw[Zag H,ZcJ]at d
  generalize N[k]=x at *
  have ac:x.size<=1000000000:=by
   rcases Z with h|⟨r,I,rfl⟩
   ·cases h
   ·exact(V.rs r I).1
  have z:=fun w' (c:Bel w.heap.size w w')=>Zga Ar Az Al As E F D cs a x w' (S.up c) Y
  have f:=fun w'=>Zwp x (by omega) w'
  have J:∀ r∈ofB a.rules x,r∈a.rules:=fun r h=>Zov h
  have aa:=Zii a.rules x
  have y:=fun A3 g w' (c:Bel w.heap.size w w') h=>Zmb A3 g (ofB a.rules x) w' (hG.up c) h (by omega) (fun r I=>⟨hV r (J r I),by have:=(V.rs r (J r I)).2;omega⟩)
  have q:=fun(hz:(ZcE (ofB a.rules x)).2=0) A3 g w' (c:Bel w.heap.size w w') h=>Zr7 A3 g (ofB a.rules x) w' (hG.up c) h (by omega) (fun r I=>(Zmc hz r I).1)
  have t:=fun(i:Nat) (d:i<=1000000) w' (c:Bel w.heap.size w w')=>ZsN Ar Az Al As E F D cs a x i w' (S.up c) Y d
  have X:=ZpW (ofB a.rules x)
  have W:=Zi7 (ofB a.rules x)
  unfold Zca at d
  generalize ofB a.rules x=R at *
  cases hsb:setB x with
  | false =>
   rw[hsb]at d f
   rw[if_pos rfl]at d
   dsimp only at d
   have m:=t 0 (Nat.zero_le _)
   generalize Zcb x a.rules 0 0=pl at *
   obtain⟨p1,p2,p3⟩:=pl
   simp only[plV,Zar.enc]at m
   subst d
   simp only[ptV,plV,Zar.enc]
   repeat (first|(apply RL_pu;rfl;exact ZlN)|(refine js ?_;(first|(apply Zad (h:=fun w' c _=>z w' c);rfl;rintro v O' ⟨A3,g,rfl,rfl⟩)|(refine Zab (fun w' c=>f w') ?_)|(refine Zab m ?_)))|refine walk1 ?_)
   exact rtC
  | true =>
   rw[hsb]at d f
   rw[if_neg (by decide)]at d
   generalize ZcE R=rc at *
   obtain⟨ci,Q⟩:=rc
   dsimp only at d y X q
   by_cases B:Q=0
   ·subst B
    replace q:=q rfl
    rw[if_neg (fun h=>h rfl)]at d
    generalize Zen R=ap at *
    cases ap with
    | none =>
     simp only[apV,Zac.enc,dEv0]at q
     dsimp only at d
     repeat (first|(apply RL_pu;rfl;exact ZlN)|(refine js ?_;(first|(apply Zad (h:=fun w' c _=>z w' c);rfl;rintro v O' ⟨A3,g,rfl,rfl⟩)|(refine Zab (fun w' c=>f w') ?_)|(refine ZaH (fun w' c hO=>y A3 g w' c (ZaJ DRule.len (hO.of (A := .row (.slice A3 R.length g) 68 11 R.length (R.flatMap DRule.enc)) cS_))) ?_)|(refine ZaH (fun w' c hO=>q A3 g w' c (ZaJ DRule.len (hO.of (A := .row (.slice A3 R.length g) 68 11 R.length (R.flatMap DRule.enc)) cS_))) ?_)|(refine bx ?_;intro M)))|refine walk1 ?_)
     exact⟨k+1,OA,⟨OA,d⟩,SFA,SOA⟩
    | some e =>
     obtain⟨j,hj,ab⟩:=W e rfl
     obtain⟨ey,er,en⟩:=e
     dsimp only at hj
     subst hj
     simp only[apV,Zac.enc]at q
     simp only[Int.toNat_natCast]at d
     have m:=t j (by omega)
     generalize Zcb x a.rules j 0=pl at *
     obtain⟨p1,p2,p3⟩:=pl
     simp only[plV,Zar.enc]at m
     subst d
     simp only[ptV,plV,Zar.enc]
     repeat (first|(apply RL_pu;rfl;exact ZlN)|(refine js ?_;(first|(apply Zad (h:=fun w' c _=>z w' c);rfl;rintro v O' ⟨A3,g,rfl,rfl⟩)|(refine Zab (fun w' c=>f w') ?_)|(refine ZaH (fun w' c hO=>y A3 g w' c (ZaJ DRule.len (hO.of (A := .row (.slice A3 R.length g) 68 11 R.length (R.flatMap DRule.enc)) cS_))) ?_)|(refine ZaH (fun w' c hO=>q A3 g w' c (ZaJ DRule.len (hO.of (A := .row (.slice A3 R.length g) 68 11 R.length (R.flatMap DRule.enc)) cS_))) ?_)|(refine Zab m ?_)|(refine bx ?_;intro M)))|refine walk1 ?_)
     exact rtC
   ·rw[if_pos B]at d
    dsimp only at d
    have hb:decide (Q=0)=false:=dF_ B
    have u:(!decide (Q=0))=true:=by rw[hb];rfl
    have m:=t ci (by omega)
    generalize Zcb x a.rules ci 0=pl at *
    obtain⟨p1,p2,p3⟩:=pl
    simp only[plV,Zar.enc]at m
    subst d
    simp only[ptV,plV,Zar.enc]
    repeat (first|(apply RL_pu;rfl;(first|exact ZlN|(apply Zap;rfl;rfl;exact hb)|(apply Zal;rfl;rfl;exact u)))|(refine js ?_;(first|(apply Zad (h:=fun w' c _=>z w' c);rfl;rintro v O' ⟨A3,g,rfl,rfl⟩)|(refine Zab (fun w' c=>f w') ?_)|(refine ZaH (fun w' c hO=>y A3 g w' c (ZaJ DRule.len (hO.of (A := .row (.slice A3 R.length g) 68 11 R.length (R.flatMap DRule.enc)) cS_))) ?_)|(refine Zab m ?_)))|refine walk1 ?_)
    exact rtC
 ·simp only[decide_eq_false_iff_not,Int.ofNat_lt]at H
  rw[List.drop_eq_nil_of_le (by omega),ZcJ]at d
  subst d
  repeat (refine walk ?_)
  exact rtC
theorem ZBH {α:Type}{w:World}{A:Option Addr}{c sz:Nat}{enc:α->List Value}{l:List α}(h:RdSl w A c enc sz l)(k:Nat):RdSl w A c enc sz (l.take k) where
 le:=by have:=h.le;rw[List.length_take];omega
 cap:=h.cap
 rd:=fun j x a=>h.rd j x (by
  rw[List.getElem?_take]at a
  split at a
  ·exact a
  ·cases a)
theorem Zv8 {G:Prop}(h:G:=by(first|exact PuI|(apply Zap;rfl;rfl;exact hb))):G:=h
theorem Zpy {G:Prop}(h:G:=by(first|exact Zv8|(apply Pu_sliceH;rfl;rfl;omega;omega))):G:=h
theorem Zsv {G G':Prop}(k:G')(h:Hold G'->G:=by intro k9;(first|(apply RL_pu;rfl;exact Zpy)|(refine js ?_;(first|(refine ZaH (fun w' hw hO=>hot A3 c3 w' (ZaJ DRule.len (hO.of (A := .row (.slice A3 R.length c3) 68 11 R.length (R.flatMap DRule.enc)) cS_))) ?_)|(refine Zab hco ?_)|(refine ZaH (fun w' hw hO=>hle A3 c3 w' (ZaJ DRule.len (hO.of (A := .row (.slice A3 R.length c3) 68 11 R.length (R.flatMap DRule.enc)) cS_))) ?_)))|refine walk1 ?_);exact k9.out):G:=h ⟨k⟩
theorem ZmJ (Ar Az Al As:Option Addr)(r t q cs:Nat)(a:DSource)(w:World)(u:Zam w Ar Az Al As r t q cs a)(D:ZcH a) :
  Does prog 115 [srcV Ar Az Al As r t q cs a] w (fun v O=>v=ptV (Za0 a a.shifts [] 0)/\O=[]):=by
 have F:=D.nr
 have H:=D.ns
 have E:=u.s.le
 obtain⟨g,e⟩:∃ g,Za0 a a.shifts [] 0=g:=⟨_,rfl⟩
 rw[e]
 refine Zaa func115 rfl rfl rfl rfl ?_
 repeat (first|(refine js ?_;(refine bx ?_;intro m))|refine walk ?_)
 rename_i C
 obtain⟨j,f⟩:∃ j,m=j:=⟨_,rfl⟩
 rw[f]
 clear f m
 refine Zah [(1,.pointer (some ⟨C,0,none⟩)),(2,.pointer (some ⟨j,0,none⟩)),(12,.slice As a.shifts.length cs),(13,.int .i64 a.shifts.length)] [.blk j [.int .i64 0,.int .i64 0,.int .i64 0] 138,.blk C [.slice Ar a.rules.length r,.slice Az a.zones.length t,.slice Al a.links.length q,.slice As a.shifts.length cs] 174]
  (fun k:Nat=>[(14,.int .i64 k)]) (fun _=>[]) (fun k=>k<=a.shifts.length/\Za0 a (a.shifts.drop k) (a.shifts.take k) k=g) (fun k=>a.shifts.length - k) 0 SFA SOA ⟨Nat.zero_le _,e⟩ ?_
 clear e
 rintro k ⟨J,c⟩
 repeat (first|(refine js ?_;(refine bx ?_;intro m))|refine walk ?_)
 refine Zaf rfl (fun i=>?_) (fun i=>?_)
 ·simp only[decide_eq_true_eq,Int.ofNat_lt]at i
  obtain⟨hna,hca⟩:=u.s.rd k _ (List.getElem?_eq_getElem i)
  have B:=List.take_append_getElem i
  have hco:=fun w' (hw:Bel w.heap.size w w')=>Zlp As cs (a.shifts.take k) a.shifts[k] w' ((ZBH u.s k).up hw)
  rw[show(a.shifts.take k).length=k by rw[List.length_take];omega]at hco
  rw[Zag i,Za0]at c
  rw[B]at c
  generalize a.shifts[k]=x at *
  have d:=fun w' (hw:Bel w.heap.size w w')=>Zga Ar Az Al As r t q cs a x w' (u.up hw) F
  have hot:=fun A3 c3 w' h=>ZjT A3 c3 (ofB a.rules x) w' h
  have hle:=fun A3 c3 w' h=>ZcX A3 c3 (ofB a.rules x) w' h
  generalize ofB a.rules x=R at *
  generalize Zb1 R=od at *
  obtain⟨K,I⟩:=od
  dsimp only at c hot
  by_cases y:R=[]
  ·rw[if_pos y]at c
   subst c
   have hb:decide ((R.length:Int)=0)=true:=by rw[y];rfl
   simp only[ptV,plV,Zar.enc]
   repeat (first|(apply RL_pu;rfl;exact Zv8)|(refine js ?_;(first|(apply Zad (h:=fun w' hw _=>d w' hw);rfl;rintro v O' ⟨A3,c3,rfl,rfl⟩)|(refine ZaH (fun w' hw hO=>hot A3 c3 w' (ZaJ DRule.len (hO.of (A := .row (.slice A3 R.length c3) 68 11 R.length (R.flatMap DRule.enc)) cS_))) ?_)))|refine walk1 ?_)
   exact rtC
  rw[if_neg y]at c
  have hb:decide ((R.length:Int)=0)=false:=dF_ (fun h=>y (List.eq_nil_of_length_eq_zero (by omega)))
  cases hm:memB x (a.shifts.take k) with
  | true =>
   rw[hm]at c hco
   rw[if_pos rfl]at c
   subst c
   simp only[ptV,plV,Zar.enc]
   repeat (first|(apply RL_pu;rfl;exact Zpy)|(refine js ?_;(first|(apply Zad (h:=fun w' hw _=>d w' hw);rfl;rintro v O' ⟨A3,c3,rfl,rfl⟩)|(refine ZaH (fun w' hw hO=>hot A3 c3 w' (ZaJ DRule.len (hO.of (A := .row (.slice A3 R.length c3) 68 11 R.length (R.flatMap DRule.enc)) cS_))) ?_)|(refine Zab hco ?_)))|refine walk1 ?_)
   exact rtC
  | false =>
   rw[hm]at c hco
   rw[if_neg (by decide)]at c
   generalize Zae R=lt at *
   by_cases z:lt=0
   ·subst z
    cases I with
    | false =>
     rw[if_pos (.inr rfl)]at c
     subst c
     simp only[ptV,plV,Zar.enc]
     repeat (first|refine Zsv ?_|(refine js ?_;((apply Zad (h:=fun w' hw _=>d w' hw);rfl;rintro v O' ⟨A3,c3,rfl,rfl⟩))))
     exact rtC
    | true =>
     rw[if_neg (by rintro(h|h);exact h rfl;cases h)]at c
     repeat (first|refine Zsv ?_|(refine js ?_;((apply Zad (h:=fun w' hw _=>d w' hw);rfl;rintro v O' ⟨A3,c3,rfl,rfl⟩))))
     exact⟨k+1,OA,⟨OA,c⟩,SFA,SOA⟩
   ·rw[if_pos (.inl z)]at c
    subst c
    have f:(!decide (lt=0))=true:=by rw[dF_ z];rfl
    simp only[ptV,plV,Zar.enc]
    repeat (first|(apply RL_pu;rfl;(first|exact Zpy|(apply Zal;rfl;rfl;exact f)))|(refine js ?_;(first|(apply Zad (h:=fun w' hw _=>d w' hw);rfl;rintro v O' ⟨A3,c3,rfl,rfl⟩)|(refine ZaH (fun w' hw hO=>hot A3 c3 w' (ZaJ DRule.len (hO.of (A := .row (.slice A3 R.length c3) 68 11 R.length (R.flatMap DRule.enc)) cS_))) ?_)|(refine Zab hco ?_)|(refine ZaH (fun w' hw hO=>hle A3 c3 w' (ZaJ DRule.len (hO.of (A := .row (.slice A3 R.length c3) 68 11 R.length (R.flatMap DRule.enc)) cS_))) ?_)))|refine walk1 ?_)
    exact rtC
 ·simp only[decide_eq_false_iff_not,Int.ofNat_lt]at i
  rw[List.drop_eq_nil_of_le (by omega),Za0]at c
  subst c
  repeat (first|(refine js ?_;(refine bx ?_;intro m))|refine walk ?_)
  exact rtC
theorem Zv7 {G:Prop}(h:G:=by(apply ZbF;rfl;rfl;exact b1)):G:=h
theorem Zj2 (b a:Int)(g:I64 b)(i:I64 a)(w:World):Does prog 235 [.int .i64 b,.int .i64 a] w (fun v O=>v = .bool (Za1 b a)/\O=[]):=by
 have c:=fun w'=>Zjb b a g i w'
 refine Zaa func235 rfl rfl rfl rfl ?_
 cases hok:ZcQ (b+a) with
 | false =>
  rw[hok]at c
  have f:Za1 b a=false:=by
   unfold Za1
   by_cases h1 : -54000<=b+a
   ·by_cases e:b+a<=54000
    ·exfalso
     have:ZcQ (b+a)=true:=by unfold ZcQ;rw[dT_ (by omega),dT_ (by omega)];rfl
     rw[this]at hok
     cases hok
    ·rw[dF_ e,Bool.and_false]
   ·rw[dF_ h1,Bool.false_and]
  rw[f]
  repeat (first|(refine js ?_;(refine Zab (fun w' d=>c w') ?_))|refine walk ?_)
  exact rtA
 | true =>
  rw[hok,if_pos rfl]at c
  unfold Za1
  generalize b+a=x at *
  by_cases h1 : -54000<=x
  ·have b1:decide (-54000<=x)=true:=dT_ h1
   rw[b1]
   repeat (first|(apply RL_pu;rfl;exact Zv7)|(refine js ?_;(refine Zab (fun w' d=>c w') ?_))|refine walk1 ?_)
   exact rtA
  ·have b1:decide (-54000<=x)=false:=dF_ h1
   rw[b1]
   repeat (first|(apply RL_pu;rfl;exact Zv7)|(refine js ?_;(refine Zab (fun w' d=>c w') ?_))|refine walk1 ?_)
   exact rtA
theorem Zgf (Ar Az Al As:Option Addr)(i j g cs:Nat)(a:DSource)(e:DEra)(w:World)(t:Zam w Ar Az Al As i j g cs a)(x:a.rules.length<=1000000) :
  Does prog 236 [srcV Ar Az Al As i j g cs a,.agg e.enc.toArray] w (ZgC 68 11 DRule.enc (ZaA a.rules e)):=by
 have d:=fun w' (p:Bel w.heap.size w w')=>Zga Ar Az Al As i j g cs a e.set w' (t.up p) x
 unfold ZaA
 obtain⟨y,c,r,set,f,til⟩:=e
 dsimp only at d ⊢
 simp only[DEra.enc]
 refine Zaa func236 rfl rfl rfl rfl ?_
 by_cases m:c=2
 ·subst m
  rw[if_pos rfl]
  generalize ofB a.rules set=R at *
  repeat (first|(refine js ?_;(first|(apply Zad (h:=fun w' p _=>d w' p);rfl;rintro v O' ⟨A3,q,rfl,rfl⟩)|(refine bx ?_;intro s)))|refine walk ?_)
  exact ret_1 _ [.row (.slice A3 R.length q) 68 11 R.length (R.flatMap DRule.enc)] (.tmp rfl) SOA ⟨A3,q,rfl,rfl⟩
 ·rw[if_neg m]
  have u:(!decide (c=2))=true:=by rw[dF_ m];rfl
  refine Zdy 68 11 ?_
  repeat (first|(apply RL_pu;rfl;(apply Zal;rfl;rfl;exact u))|(refine js ?_;(refine bx ?_;intro s))|refine walk1 ?_)
  exact ret_1 _ [.row (.slice none 0 0) 68 11 0 []] (.tmp rfl) SOA ⟨none,0,rfl,rfl⟩
def Za6 (x:Int × ByteArray):List Value:=[.int .i64 x.1,.string x.2]
theorem Za6.len (x:Int × ByteArray):(Za6 x).length=2:=rfl
structure StG where
 k:Nat
 A:Option Addr
 c:Nat
 m:Nat
 ys:List Value
def StR (l:List (Int × ByteArray))(v:Value)(O:List It):Prop:=ZgC 155 2 Za6 l v O\/∃ b x,l=[x]/\v = .slice (some ⟨b,0,none⟩) 1 1/\O=[.blk b (Za6 x) 155]
theorem Zv6 {G:Prop}(h:G:=by(apply Zap;rfl;rfl;exact b1)):G:=h
theorem Zl1 (Ar Az Al As:Option Addr)(C D B cs:Nat)(a:DSource)(e:DEra)(w:World)(K:Zam w Ar Az Al As C D B cs a)(I:a.rules.length<=1000000) :
  Does prog 238 [srcV Ar Az Al As C D B cs a,.agg e.enc.toArray] w (StR (ZaB a.rules e)):=by
 have s:=fun w' (H:Bel w.heap.size w w')=>Zgf Ar Az Al As C D B cs a e w' (K.up H) I
 have L:(ZaA a.rules e).length<=1000000:=by
  unfold ZaA
  split
  ·exact Nat.le_trans (Zii _ _) I
  ·exact Nat.zero_le _
 unfold ZaB
 generalize ZaA a.rules e=R at *
 obtain⟨T,d,save,set,y,til⟩:=e
 dsimp only at s ⊢
 simp only[DEra.enc]at s ⊢
 refine Zaa func238 rfl rfl rfl rfl ?_
 by_cases i:d=1
 ·subst i
  rw[if_pos rfl]
  repeat (first|(refine js ?_;(refine bx ?_;intro f))|refine walk ?_)
  exact ret_1 _ [.blk f [.int .i64 save,.string ByteArray.empty] 155] (.tmp rfl) SOA (.inr ⟨f,(save,ByteArray.empty),rfl,rfl,rfl⟩)
 have b1:decide (d=1)=false:=dF_ i
 rw[if_neg i]
 by_cases q:d=2
 ·subst q
  rw[if_pos rfl]
  repeat (first|(apply RL_pu;rfl;exact Zv6)|(refine js ?_;(first|(apply Zad (h:=fun w' H _=>s w' H);rfl;rintro v O' ⟨A3,z,rfl,rfl⟩)|(refine bx ?_;intro f)))|refine walk1 ?_)
  refine Zdy 155 2 ?_
  refine Zah [(20,.slice A3 R.length z),(21,.int .i64 R.length)] [.row (.slice A3 R.length z) 68 11 R.length (R.flatMap DRule.enc)] (fun g:StG=>[(5,.slice g.A g.m g.c),(22,.int .i64 g.k)]) (fun g=>[.row (.slice g.A g.m g.c) 155 2 g.m g.ys])
   (fun g=>g.k<=R.length/\g.m=g.k/\g.ys=((R.take g.k).map fun r=>(r.save,r.letter)).flatMap Za6) (fun g=>R.length - g.k) ⟨0,none,0,0,[]⟩ SFA SOA ⟨Nat.zero_le _,rfl,rfl⟩ ?_
  rintro⟨k,A1,c1,m,ys⟩ ⟨hkl,hm,hy⟩
  dsimp only at hkl hm hy ⊢
  repeat (first|(refine js ?_;(refine bx ?_;intro f))|refine walk ?_)
  refine Zaf rfl (fun t=>?_) (fun t=>?_)
  ·simp only[decide_eq_true_eq,Int.ofNat_lt]at t
   have u:=ZaD DRule.len R k _ 0 _ (List.getElem?_eq_getElem t) rfl
   have x:∀ j v,(DRule.enc R[k])[j]?=some v->(R.flatMap DRule.enc)[k*11+j]?=some v:=fun j v S=>ZaD DRule.len R k _ j v (List.getElem?_eq_getElem t) S
   have F:=List.take_append_getElem t
   generalize R[k]=r at *
   simp only[DRule.enc]at x u
   repeat (first|(apply RL_pu;rfl;(first|(apply ZaG;rfl;rfl;omega;omega;(intro w' _ E;exact(Zbc (E.of (A := .row (.slice A3 R.length z) 68 11 R.length (R.flatMap DRule.enc)) cS_) u).1))|(apply Zch;rfl;(focus repeat' constructor);exact x;rfl)))|(refine js ?_;(first|(apply ZaC;rfl;rfl;(intro A' c';(focus repeat' constructor));(intro w' _ E;exact Zbr (E.of cS_));rfl;rfl;(simp only[maxLen];omega);omega;intro A' c' M N Q)|(refine bx ?_;intro f)))|refine walk1 ?_)
   exact⟨⟨k+1,A',c',m+1,ys++[.int .i64 r.save,.string r.letter]⟩,OA,⟨OA,OA,by dsimp only;rw[hy,<- F];simp[Za6]⟩,SFA,SOA⟩
  ·obtain rfl:k=R.length:=by simp only[decide_eq_false_iff_not,Int.ofNat_lt]at t;omega
   rw[List.take_length]at hy
   subst hm hy
   repeat (first|(refine js ?_;(refine bx ?_;intro f))|refine walk ?_)
   exact ret_1 _ [.row (.slice A1 R.length c1) 155 2 R.length ((R.map fun r=>(r.save,r.letter)).flatMap Za6)] (.tmp rfl) SOA (.inl ⟨A1,c1,by rw[List.length_map],by rw[List.length_map]⟩)
 have J:decide (d=2)=false:=dF_ q
 rw[if_neg q]
 repeat (first|(apply RL_pu;rfl;(first|exact Zv6|(apply Zap;rfl;rfl;exact J)))|(refine js ?_;(refine bx ?_;intro f))|refine walk1 ?_)
 exact ret_1 _ [.blk f [.int .i64 0,.string ByteArray.empty] 155] (.tmp rfl) SOA (.inr ⟨f,(0,ByteArray.empty),rfl,rfl,rfl⟩)
theorem ZhV (Ar Az Al As:Option Addr)(d f c cs:Nat)(a:DSource)(e:DEra)(w:World)(i:Zam w Ar Az Al As d f c cs a)(k:a.rules.length<=1000000) :
  Does prog 238 [srcV Ar Az Al As d f c cs a,.agg e.enc.toArray] w (ZgC 155 2 Za6 (ZaB a.rules e)) :=
 (Zl1 Ar Az Al As d f c cs a e w i k).monoH fun v O base w' j g=>by
  rcases j with h|⟨b,x,hl,rfl,rfl⟩
  ·exact⟨O,h,g⟩
  ·rw[hl]
   exact⟨_,⟨some ⟨b,0,none⟩,1,rfl,rfl⟩,g.toRow (m:=1) 2 rfl (by decide) (by simpa using Upd.here)⟩
end Go.Proofs.YtpipekfmecikmaaGreatDoor
namespace Go.Wk
open Go Go.RowKit
theorem ZqH {P:Program}{n:Nat}{wr:World}{fr:Fr}{O:List It}{ty t t':TypeId}{α:Type}[DecidableEq α]{enc:α->List Value}{x y:Operand}{i j:α}{b:Bool}[hE:EqE P t α enc](a:ev fr x=some (.agg (enc i).toArray))(c:ev fr y=some (.agg (enc j).toArray))(h:(!decide (i=j))=b) :
  Pu P n wr fr O (.binOp .neq t x y t') ty (.bool b):=h▸Pu_neqE a c
end Go.Wk
namespace Go.Proofs.YtpipekfmecikmaaGreatDoor
open Go Go.RowKit Go.Wk Tryz
attribute [local irreducible] W RL Does Zaq Zai retQ Calls Pu Stp RD Qy Ay Zaj
theorem ZmU (A:Option Addr)(c:Nat)(l:List (Int × ByteArray))(f:FuncId)[Body prog f](us cs:List Value)(p:Int × ByteArray->Bool)(w:World)(i:RdSl w A c Za6 2 l)
  (q:∀ r∈l,∀ w',Bel w.heap.size w w'->Does prog f (us++[.agg (Za6 r).toArray]++cs) w' (fun v O=>v = .bool (p r)/\O=[])) :
  Does prog 276 [.slice A l.length c,.func (.func f) us.toArray cs.toArray] w (fun v O=>v = .int .i64 (Zb8 p l 0)/\O=[]):=by
 have s:=i.le
 have m:=i.cap
 unfold maxLen at m
 generalize hres:Zb8 p l 0=res
 refine Zaa func276 rfl rfl rfl rfl ?_
 repeat (refine walk ?_)
 refine Zah [(0,_),(1,_),(4,_),(7,_)] _ (fun k:Nat=>[(8,.int .i64 k)]) (fun _=>[]) (fun k=>k<=l.length/\Zb8 p (l.drop k) k=res) (fun k=>l.length - k) 0 ⟨rfl,rfl,rfl,rfl,rfl,trivial⟩ (.refl _) ⟨by omega,by simpa using hres⟩ ?_
 rintro k ⟨u,e⟩
 repeat (refine walk ?_)
 refine Zaf rfl (fun d=>?_) (fun d=>?_)
 ·simp only[decide_eq_true_eq,Int.ofNat_lt]at d
  obtain⟨hna,hca⟩:=i.rd k _ (List.getElem?_eq_getElem d)
  have hnb:=hna
  have hcb:=hca
  rw[Zag d,Zb8]at e
  have j:=List.getElem_mem d
  generalize l[k]=r at *
  repeat (first|(apply RL_pu;rfl;exact PuI)|(refine js ?_;(refine ZdT (fun w' t _=>q r j w' t) ?_))|refine walk1 ?_)
  refine Zaf rfl (fun g=>?_) (fun g=>?_)
  ·repeat (refine walk ?_)
   rw[if_pos g]at e
   exact ret_1 _ [] (.tmp rfl) .nil ⟨by rw[<- e],rfl⟩
  repeat (refine walk ?_)
  rw[g]at e
  exact⟨k+1,by omega,⟨by omega,e⟩,SFA,SOA⟩
 simp only[decide_eq_false_iff_not,Int.ofNat_lt]at d
 repeat (refine walk ?_)
 exact ret_1 _ [] (.tmp rfl) .nil ⟨by rw[<- e,List.drop_eq_nil_of_le (by omega)];rfl,rfl⟩
theorem ZiX (A:Option Addr)(c:Nat)(l:List (Int × ByteArray))(f:FuncId)[Body prog f](us cs:List Value)(p:Int × ByteArray->Bool)(w:World)(d:RdSl w A c Za6 2 l)
  (e:∀ r∈l,∀ w',Bel w.heap.size w w'->Does prog f (us++[.agg (Za6 r).toArray]++cs) w' (fun v O=>v = .bool (p r)/\O=[])) :
  Does prog 237 [.slice A l.length c,.func (.func f) us.toArray cs.toArray] w (fun v O=>v = .bool (l.any p)/\O=[]):=by
 have h:=fun w' (a:Bel w.heap.size w w')=>ZmU A c l f us cs p w' (d.up a) fun r g i b=>e r g i (a.trans (b.mono a.size))
 rw[<- ZiK p l 0]
 generalize Zb8 p l 0=k at *
 refine Zaa func237 rfl rfl rfl rfl ?_
 repeat (first|(refine js ?_;(refine Zab h ?_))|refine walk ?_)
 exact rtA
theorem Zt5 (x:Int × ByteArray)(ad:Addr)(a:Int)(w:World)(h:w.cell? ad=some (.int .i64 a))(c:I64 a)(hx:I64 x.1):Does prog 234 [.agg (Za6 x).toArray,.pointer (some ad)] w (fun v O=>v = .bool (!Za1 a x.1)/\O=[]):=by
 obtain⟨sv,f⟩:=x
 dsimp only at hx ⊢
 have b:=fun w'=>Zj2 a sv c hx w'
 generalize Za1 a sv=hb at *
 simp only[Za6]
 refine Zaa func234 rfl rfl rfl rfl ?_
 repeat (first|(apply RL_pu;rfl;(apply Pu_loadO1;rfl;exact h))|(refine js ?_;(first|(refine Zab (fun w' e=>b w') ?_)|(refine bx ?_;intro d)))|refine walk1 ?_)
 exact rtA
instance:EqE prog 73 DUntil DUntil.enc where
 h r s w:=by
  unfold DUntil.enc
  simp[go_sem,Ze5]
  rcases r with⟨_,_,_,⟨_,_,_⟩,⟨_,_⟩⟩
  rcases s with⟨_,_,_,⟨_,_,_⟩,⟨_,_⟩⟩
  simp only[Zmx,Result.ok.injEq,and_true]
  rw[Bool.eq_iff_iff]
  simp[and_assoc]
 g:=by kernel_rfl
theorem ZnX (e:DEra)(w:World):Does prog 239 [.agg e.enc.toArray] w (fun v O=>v = .bool (Zdt e)/\O=[]):=by
 obtain⟨z,c,f,set,g,til⟩:=e
 unfold Zdt
 dsimp only
 obtain⟨B,d,a,⟨p,q,dd⟩,⟨cs,m⟩⟩:=til
 dsimp only
 obtain⟨C,r⟩:∃ b,(!decide (c=1))=b:=⟨_,rfl⟩
 obtain⟨D,s⟩:∃ b,(!decide (f=0))=b:=⟨_,rfl⟩
 obtain⟨E,t⟩:∃ b,(!decide (c=2))=b:=⟨_,rfl⟩
 obtain⟨F,u⟩:∃ b,(!decide (set=ByteArray.empty))=b:=⟨_,rfl⟩
 obtain⟨H,x⟩:∃ b,(!decide ((⟨false,d,a,⟨p,q,dd⟩,⟨cs,m⟩⟩:DUntil)=dU0))=b:=⟨_,rfl⟩
 rw[r,s,t,u,x]
 simp only[DEra.enc]
 refine Zaa func239 rfl rfl rfl rfl ?_
 repeat' (first|(apply RL_pu;rfl;(first|(apply Zal;rfl;rfl;exact r)|(apply Zal;rfl;rfl;exact s)|(apply Zal;rfl;rfl;exact t)|(apply ZcT;rfl;rfl;exact u)|(apply ZqH (i:=(⟨false,d,a,⟨p,q,dd⟩,⟨cs,m⟩⟩:DUntil)) (j:=dU0) (enc:=DUntil.enc);rfl;rfl;exact x)))|(refine js ?_;(refine bx ?_;intro A))|refine walk1 ?_|refine und ?_|(refine Zas rfl rfl rfl (fun y=>?_) (fun y=>?_)))
 all_goals exact clo1
end Go.Proofs.YtpipekfmecikmaaGreatDoor
namespace Go.Wk
open Go Go.RowKit
section
variable {κ:Type}
def cent (kv:κ->Value):Nat->List (κ × Int)->List MapEntry
 | _,[]=>[]
 | i,x::l=>⟨kv x.1,.int .i64 x.2,i⟩::cent kv (i+1) l
def Zha (l:List (κ × Int))(t:Nat):Prop:=∀ x∈l,1<=x.2/\x.2<=(t:Int)
theorem Zha.nil (t:Nat):Zha ([]:List (κ × Int)) t:=fun _ h=>by cases h
theorem Zqk (kv:κ->Value):∀ (i:Nat) (l:List (κ × Int)),(cent kv i l).length=l.length
 | _,[]=>rfl
 | i,x::l=>by unfold cent;rw[List.length_cons,List.length_cons,Zqk kv (i+1) l]
theorem Zlt (kv:κ->Value):∀ (i:Nat) (a b:List (κ × Int)),cent kv i (a++b)=cent kv i a++cent kv (i+a.length) b
 | _,[],_=>rfl
 | i,x::a,b=>by
  rw[List.cons_append]
  unfold cent
  rw[Zlt kv (i+1) a b,List.cons_append,List.length_cons,show i+1+a.length=i+(a.length+1) by omega]
  cases b <;> rfl
theorem Zql (kv:κ->Value):∀ (i:Nat) (l:List (κ × Int)) (s:Nat),s<l.length->(cent kv i l).findIdx? (fun e=>(e.born:Int)==((i+s:Nat):Int))=some s
 | _,[],_,h=>by simp at h
 | i,x::l,0,_=>by unfold cent;rw[List.findIdx?_cons];simp
 | i,x::l,s+1,h=>by
  unfold cent
  rw[List.findIdx?_cons]
  have a:((i:Int)==((i+(s+1):Nat):Int))=false:=by simp;omega
  dsimp only
  rw[a]
  have:=Zql kv (i+1) l s (by simpa using h)
  rw[show i+1+s=i+(s+1) by omega]at this
  rw[this]
  rfl
def cmIt (kv:κ->Value)(b:Nat)(l:List (κ × Int)):It := .fact (fun i=>i=b) fun w=>w.heap[b]?=some (.map (cent kv 0 l).toArray l.length)
theorem cmIt.heap {kv:κ->Value}{b:Nat}{l:List (κ × Int)}{w:World}(h:(cmIt kv b l).sat w):w.heap[b]?=some (.map (cent kv 0 l).toArray l.length):=h w fun _ _=>rfl
theorem cmIt.mk {kv:κ->Value}{b:Nat}{l:List (κ × Int)}{w:World}(h:w.heap[b]?=some (.map (cent kv 0 l).toArray l.length)):(cmIt kv b l).sat w:=fun _ a=>(a b rfl).trans h
end
section
variable {κ:Type}[DecidableEq κ]
def Zjp (k:κ):List (κ × Int)->Nat->Option (Nat × Value)
 | [],_=>none
 | x::l,i=>if k=x.1 then some (i,.int .i64 x.2) else Zjp k l (i+1)
def cget (k:κ):List (κ × Int)->Int
 | []=>0
 | x::l=>if k=x.1 then x.2 else cget k l
def cins (k:κ):List (κ × Int)->List (κ × Int)
 | []=>[(k,0)]
 | x::l=>if k=x.1 then x::l else x::cins k l
def cidx (k:κ):List (κ × Int)->Nat
 | []=>0
 | x::l=>if k=x.1 then 0 else cidx k l+1
def cput (k:κ)(v:Int):List (κ × Int)->List (κ × Int)
 | []=>[]
 | x::l=>if k=x.1 then (k,v)::l else x::cput k v l
theorem Zgq (k:κ):∀ (l:List (κ × Int)) (i:Nat),Zjp k l i=if k∈l.map (·.1) then some (i+cidx k l,.int .i64 (cget k l)) else none
 | [],_=>rfl
 | x::l,i=>by
  unfold Zjp cidx cget
  by_cases h:k=x.1
  ·rw[if_pos h,if_pos h,if_pos h,if_pos (by rw[h];simp)];rfl
  ·rw[if_neg h,if_neg h,if_neg h,Zgq k l (i+1)]
   by_cases a:k∈l.map (·.1)
   ·rw[if_pos a,if_pos (show k∈(x::l).map (·.1) from List.mem_cons_of_mem _ a)]
    congr 2
    omega
   ·rw[if_neg a,if_neg (show k ∉ (x::l).map (·.1) from fun b=>(List.mem_cons.1 b).elim h a)]
theorem Zls (k:κ):∀ l:List (κ × Int),k∈l.map (·.1)->cins k l=l
 | [],h=>by cases h
 | x::l,h=>by
  unfold cins
  by_cases e:k=x.1
  ·rw[if_pos e]
  ·rw[if_neg e,Zls k l ((List.mem_cons.1 h).resolve_left e)]
theorem ZhG (k:κ):∀ l:List (κ × Int),k ∉ l.map (·.1)->cins k l=l++[(k,0)]
 | [],_=>rfl
 | x::l,h=>by
  unfold cins
  rw[if_neg (fun e=>h (by rw[e];simp)),ZhG k l (fun e=>h (List.mem_cons_of_mem _ e))]
  rfl
theorem Zqi (k:κ):∀ l:List (κ × Int),k ∉ l.map (·.1)->cidx k l=l.length
 | [],_=>rfl
 | x::l,h=>by
  unfold cidx
  rw[if_neg (fun e=>h (by rw[e];simp)),Zqi k l (fun e=>h (List.mem_cons_of_mem _ e))]
  rfl
theorem Zdr (k:κ):∀ l:List (κ × Int),k ∉ l.map (·.1)->cget k l=0
 | [],_=>rfl
 | x::l,h=>by
  unfold cget
  rw[if_neg (fun e=>h (by rw[e];simp)),Zdr k l (fun e=>h (List.mem_cons_of_mem _ e))]
theorem ZoW (k:κ):∀ l:List (κ × Int),k∈l.map (·.1)->(k,cget k l)∈l
 | [],h=>by cases h
 | x::l,h=>by
  unfold cget
  by_cases e:k=x.1
  ·rw[if_pos e,e];exact List.mem_cons_self
  ·rw[if_neg e]
   exact List.mem_cons_of_mem _ (ZoW k l ((List.mem_cons.1 h).resolve_left e))
theorem Znl (k:κ):∀ l:List (κ × Int),cidx k (cins k l)=cidx k l
 | []=>by simp[cins,cidx]
 | x::l=>by
  unfold cins
  by_cases e:k=x.1
  ·rw[if_pos e]
  ·rw[if_neg e];unfold cidx;rw[if_neg e,if_neg e,Znl k l]
theorem Zlr (k:κ):∀ l:List (κ × Int),k∈(cins k l).map (·.1)
 | []=>by simp[cins]
 | x::l=>by
  unfold cins
  by_cases e:k=x.1
  ·rw[if_pos e,e];simp
  ·rw[if_neg e];exact List.mem_cons_of_mem _ (Zlr k l)
theorem ZiW (k:κ)(v:Int):∀ l:List (κ × Int),(cput k v l).map (·.1)=l.map (·.1)
 | []=>rfl
 | x::l=>by
  unfold cput
  by_cases e:k=x.1
  ·rw[if_pos e,e];rfl
  ·rw[if_neg e,List.map_cons,List.map_cons,ZiW k v l]
theorem Zw4 (k:κ)(v:Int)(l:List (κ × Int)):(cput k v l).length=l.length:=by
 have:=congrArg List.length (ZiW k v l)
 simpa using this
theorem Znm (k:κ)(v:Int):∀ l:List (κ × Int),k∈l.map (·.1)->cget k (cput k v l)=v
 | [],h=>by cases h
 | x::l,h=>by
  unfold cput
  by_cases e:k=x.1
  ·rw[if_pos e];unfold cget;rw[if_pos rfl]
  ·rw[if_neg e];unfold cget;rw[if_neg e,Znm k v l ((List.mem_cons.1 h).resolve_left e)]
theorem Znn (k:κ):∀ l:List (κ × Int),cget k (cins k l)=cget k l
 | []=>by simp[cins,cget]
 | x::l=>by
  unfold cins
  by_cases e:k=x.1
  ·rw[if_pos e]
  ·rw[if_neg e];unfold cget;rw[if_neg e,if_neg e,Znn k l]
theorem Zqh (k:κ)(v:Int):∀ (l:List (κ × Int)) (x:κ × Int),x∈cput k v l->x∈l\/x=(k,v)
 | [],_,h=>by cases h
 | y::l,x,h=>by
  unfold cput at h
  by_cases e:k=y.1
  ·rw[if_pos e]at h
   rcases List.mem_cons.1 h with h|h
   ·exact .inr h
   ·exact .inl (List.mem_cons_of_mem _ h)
  ·rw[if_neg e]at h
   rcases List.mem_cons.1 h with h|h
   ·exact .inl (h▸List.mem_cons_self)
   ·rcases Zqh k v l x h with h|h
    ·exact .inl (List.mem_cons_of_mem _ h)
    ·exact .inr h
def cinc (k:κ)(l:List (κ × Int)):List (κ × Int):=cput k (cget k l+1) (cins k l)
theorem Znk (k:κ)(l:List (κ × Int)):(cinc k l).map (·.1)=if k∈l.map (·.1) then l.map (·.1) else l.map (·.1)++[k]:=by
 unfold cinc
 rw[ZiW]
 by_cases h:k∈l.map (·.1)
 ·rw[if_pos h,Zls k l h]
 ·rw[if_neg h,ZhG k l h];simp
theorem Zha.get {l:List (κ × Int)}{t:Nat}(h:Zha l t)(k:κ):0<=cget k l/\cget k l<=(t:Int):=by
 by_cases a:k∈l.map (·.1)
 ·have:=h _ (ZoW k l a);dsimp only at this;omega
 ·rw[Zdr k l a];omega
theorem Zha.new {l:List (κ × Int)}{t:Nat}(h:Zha l t)(k:κ):cget k l+1=1↔k ∉ l.map (·.1):=by
 constructor
 ·intro e a
  have:=h _ (ZoW k l a);dsimp only at this;omega
 ·intro a;rw[Zdr k l a];rfl
theorem Zha.inc {l:List (κ × Int)}{t:Nat}(h:Zha l t)(k:κ):Zha (cinc k l) (t+1):=by
 have g:=h.get k
 intro x a
 by_cases b:k∈l.map (·.1)
 ·unfold cinc at a
  rw[Zls k l b]at a
  rcases Zqh k _ _ x a with a|rfl
  ·have:=h x a;omega
  ·dsimp only;omega
 ·unfold cinc at a
  rw[ZhG k l b]at a
  have f:x∈l\/x=(k,cget k l+1):=by
   clear g h
   induction l with
   | nil=>simp[cput]at a;exact .inr (by simpa[cget] using a)
   | cons y l ih =>
    have d:k≠y.1:=fun e=>b (by rw[e];simp)
    have c:k ∉ l.map (·.1):=fun e=>b (List.mem_cons_of_mem _ e)
    rw[Zdr k _ b]at a ⊢
    rw[Zdr k l c]at ih
    rw[List.cons_append]at a
    unfold cput at a
    rw[if_neg d]at a
    rcases List.mem_cons.1 a with a|a
    ·exact .inl (a▸List.mem_cons_self)
    ·rcases ih a c with h|h
     ·exact .inl (List.mem_cons_of_mem _ h)
     ·exact .inr h
  rcases f with a|rfl
  ·have:=h x a;omega
  ·dsimp only;omega
theorem Zuj (kv:κ->Value)(k:κ):∀ (i:Nat) (l:List (κ × Int)),k∈l.map (·.1)->(cent kv i l)[cidx k l]?=some ⟨kv k,.int .i64 (cget k l),i+cidx k l⟩
 | _,[],h=>by cases h
 | i,x::l,h=>by
  unfold cent cidx cget
  by_cases e:k=x.1
  ·rw[if_pos e,if_pos e,e];rfl
  ·rw[if_neg e,if_neg e,List.getElem?_cons_succ,Zuj kv k (i+1) l ((List.mem_cons.1 h).resolve_left e)]
   congr 2
   omega
theorem Zuf (k:κ):∀ l:List (κ × Int),k∈l.map (·.1)->cidx k l<l.length
 | [],h=>by cases h
 | x::l,h=>by
  unfold cidx
  by_cases e:k=x.1
  ·rw[if_pos e];simp
  ·rw[if_neg e,List.length_cons]
   have:=Zuf k l ((List.mem_cons.1 h).resolve_left e)
   omega
theorem Zqj (kv:κ->Value)(k:κ)(v:Int):∀ (i:Nat) (l:List (κ × Int)),k∈l.map (·.1)->(cent kv i l).modify (cidx k l) (fun e=>{ e with val := .int .i64 v })=cent kv i (cput k v l)
 | _,[],h=>by cases h
 | i,x::l,h=>by
  unfold cidx cput
  by_cases e:k=x.1
  ·rw[if_pos e,if_pos e,e];rfl
  ·rw[if_neg e,if_neg e]
   unfold cent
   rw[List.modify_succ_cons,Zqj kv k v (i+1) l ((List.mem_cons.1 h).resolve_left e)]
end
class KeyT (P:Program) (kt:TypeId) (κ:outParam Type) [DecidableEq κ] (kv:outParam (κ->Value)):Prop where
 ask:∀ (k:κ) (l:List (κ × Int)) (w:World),(Instr.findKey kt (kv k) (cent kv 0 l)).run P w = .ok (Zjp k l 0) w
 chk:∀ (b:Bool) (k:κ) (w:World),(Instr.checkKey b 10000 kt (kv k)).run P w = .ok () w
 stay:∀ (k:κ) (w:World),(Instr.keyThatStays (kv k) (kv k)).run P w = .ok (kv k) w
section
variable {κ:Type}{kv:κ->Value}
variable {P:Program}{n:Nat}{wr:World}{fr:Fr}{O:List It}{ty:TypeId}{pos:String}{af:Array Edge}{dst:Option Tmp}{g:Option (Nat × Bool)}{Kp:Value->List It->Prop}
theorem setC {a:Act}{w:World}{b:Nat}{l c:List (κ × Int)}{O':List It}(e:St n wr fr O a w)(g:Upd O (cmIt kv b l) (cmIt kv b c) O') :
  Bel wr.heap.size wr { w with heap:=w.heap.setIfInBounds b (.map (cent kv 0 c).toArray c.length) }/\Zaz wr.heap.size O' { w with heap:=w.heap.setIfInBounds b (.map (cent kv 0 c).toArray c.length) }:=by
 have f:=e.own.inb _ g.mem b rfl
 refine⟨e.old.trans ⟨⟨rfl,rfl,rfl,by simp,fun i d=>Zd0 (by omega)⟩⟩,e.own.upd g e.old.size (by simp) (fun i _ d=>Zd0 d) (cmIt.mk ?_) fun i d => .inl d⟩
 simp[Array.getElem?_setIfInBounds,f.2]
theorem Zgy {t:TypeId}(kv:κ->Value)(k:∀ b,Kp (.map (some b)) (cmIt kv b []::O)):Stp P n wr fr O ⟨dst,.makeMap t none,ty,pos,af,g⟩ Kp :=
 ZbZ fun a w c=>by
  have f:Bel w.heap.size w (w.alloc (.map #[] 0)):=(Bel.refl _ _).alloc (Nat.le_refl _) _
  refine⟨.map (some w.heap.size),w.alloc (.map #[] 0),_,?_,c.old.trans (f.mono c.old.size),c.own.grow (O':=[cmIt kv w.heap.size []]) f c.old.size ⟨fun i e=>?_,fun i e b d=>?_,List.pairwise_singleton _ _⟩,k _⟩
  ·simp only[execOp,Option.map_none,Sem.run_bind,run_makeMap (P:=P) t w,Result.andThen_ok,Sem.run_pure]
  ·rw[List.mem_singleton.1 e]
   exact cmIt.mk (heap_alloc_new w _)
  ·rw[List.mem_singleton.1 e]at d
   simp only[It.S,cmIt]at d
   subst d
   exact⟨Nat.le_refl _,by simp⟩
theorem ZBl {t kt et b:Nat}{x:Operand}{l:List (κ × Int)}{R:List It}[hM:MapT P t kt et](i:ev fr x=some (.map (some b)))(f:Pick (cmIt kv b l) O R) :
  Pu P n wr fr O (.call ⟨.builtin .len,#[x],#[t]⟩) ty (.int .i64 l.length):=fun a w d _ _ _ _=>by
 have e:=cmIt.heap (d.own.sat _ (f.perm.mem_iff.2 List.mem_cons_self))
 have g:=run_underlying (w:=w) (MapT.parts hM.h)
 have c:=d.sim.ev i
 simp[execOp,resolve,invoke,builtin,Builtin.len_,c,g,Zbf (P:=P) e,goInt,Zqk]
end
section
variable {κ:Type}[DecidableEq κ]{kv:κ->Value}
variable {P:Program}{n:Nat}{wr:World}{fr:Fr}{O:List It}{ty:TypeId}{pos:String}{af:Array Edge}{dst:Option Tmp}{g:Option (Nat × Bool)}{Kp:Value->List It->Prop}
theorem ZsM {t kt et b:Nat}{l:List (κ × Int)}{w:World}[hM:MapT P t kt et][hK:KeyT P kt κ kv][ZeroV P et (.int .i64 0)](h:(cmIt kv b l).sat w)(k:κ):(Instr.lookup t (.map (some b)) (kv k) false).run P w = .ok (.int .i64 (cget k l)) w:=by
 have d:=cmIt.heap h
 have j:=run_underlying (w:=w) (MapT.parts hM.h)
 have f:=hK.ask k l w
 have m:=ZeA (P:=P) (t:=et) (v := .int .i64 0) (w:=w)
 have g:=fun b=>hK.chk b k w
 obtain⟨a,e⟩:∃ a:Array MapEntry,a=(cent kv 0 l).toArray:=⟨_,rfl⟩
 rw[<- e]at d
 have i:a.toList=cent kv 0 l:=by rw[e]
 simp only[Instr.lookup,Sem.run_bind,j,Result.andThen_ok,Zbf (P:=P) d,Sem.run_pure,g,i,f]
 rw[Zgq]
 by_cases c:k∈l.map (·.1)
 ·rw[if_pos c]
  simp
 ·rw[if_neg c,Zdr k l c]
  simp[m]
theorem Zxv {t kt et b:Nat}{x d:Operand}{l:List (κ × Int)}{k:κ}{v:Int}{R:List It}[hM:MapT P t kt et][hK:KeyT P kt κ kv][ZeroV P et (.int .i64 0)](h:ev fr x=some (.map (some b)))(e:ev fr d=some (kv k))(f:Pick (cmIt kv b l) O R)(g:cget k l=v) :
  Pu P n wr fr O (.lookup t x d false) ty (.int .i64 v):=fun a w c _ _ _ _=>by
 have:=ZsM (P:=P) (t:=t) (kt:=kt) (et:=et) (c.own.sat _ (f.perm.mem_iff.2 List.mem_cons_self)) k
 simp only[execOp,c.sim.ev h,c.sim.ev e,Sem.run_bind,this,Result.andThen_ok,Sem.run_pure,g]
theorem Zrf {t kt et b:Nat}{l:List (κ × Int)}{w:World}[hM:MapT P t kt et][hK:KeyT P kt κ kv][ZeroV P et (.int .i64 0)](h:(cmIt kv b l).sat w)(k:κ):(Instr.mapEntry t (.map (some b)) (kv k)).run P w =
  .ok (.tuple #[.int .i64 (cget k l),.int .i64 (cidx k l)]) { w with heap:=w.heap.setIfInBounds b (.map (cent kv 0 (cins k l)).toArray (cins k l).length) }:=by
 have m:=cmIt.heap h
 have y:=run_underlying (w:=w) (MapT.parts hM.h)
 have q:=hK.ask k l w
 have z:=ZeA (P:=P) (t:=et) (v := .int .i64 0) (w:=w)
 have r:=fun b=>hK.chk b k w
 have p:=hK.stay k w
 obtain⟨c,g⟩:∃ c:Array MapEntry,c=(cent kv 0 l).toArray:=⟨_,rfl⟩
 rw[<- g]at m
 have s:c.toList=cent kv 0 l:=by rw[g]
 simp only[Instr.mapEntry,Sem.run_bind,y,Result.andThen_ok,Zbf (P:=P) m,Sem.run_pure,r,s,q]
 rw[Zgq]
 by_cases d:k∈l.map (·.1)
 ·rw[if_pos d,Zls k l d]
  have f:=Zuj kv k 0 l d
  rw[Nat.zero_add]at f
  have a:c[0+cidx k l]?=some ⟨kv k,.int .i64 (cget k l),cidx k l⟩:=by
   rw[g,Nat.zero_add]
   simpa using f
  have j:(c.modify (0+cidx k l) fun e=>({ key:=kv k,val:=e.val,born:=e.born }:MapEntry))=c:=by
   apply Array.ext_getElem?
   intro i
   rw[Array.getElem?_modify]
   split
   ·rename_i n
    subst n
    rw[a]
    rfl
   ·rfl
  have o:(Option.map (fun x:MapEntry=>x.key) c[0+cidx k l]?).getD (kv k)=kv k:=by rw[a];rfl
  simp only[o,Sem.run_bind,p,Result.andThen_ok,j,<- g]
  rw[Nat.zero_add]at a ⊢
  simp[setObj,Sem.run,m,goInt,a]
 ·rw[if_neg d,ZhG k l d,Zqi k l d,Zdr k l d]
  have u:(c.push { key:=kv k,val := .int .i64 0,born:=l.length })=(cent kv 0 (l++[(k,0)])).toArray:=by
   rw[g,Zlt,Nat.zero_add]
   simp[cent]
  rw[<- u]
  simp[z,setObj,Sem.run,m,goInt]
theorem Zre {t b:Nat}{l:List (κ × Int)}{w:World}{s:Nat}(h:(cmIt kv b l).sat w)(k:κ)(v:Int)(g:k∈l.map (·.1))(i:cidx k l=s):(Instr.entryStore t (.map (some b)) (.int .i64 s) (.int .i64 v)).run P w =
  .ok () { w with heap:=w.heap.setIfInBounds b (.map (cent kv 0 (cput k v l)).toArray (cput k v l).length) }:=by
 have c:=cmIt.heap h
 have d:=Zql kv 0 l s (i▸Zuf k l g)
 rw[Nat.zero_add]at d
 have f:=Zqj kv k v 0 l g
 rw[i]at f
 have a:((cent kv 0 l).toArray.findIdx? fun e=>(e.born:Int)==(s:Int))=some s:=by rw[List.findIdx?_toArray];exact d
 simp only[Instr.entryStore,Sem.run_bind,Result.andThen_ok,Zbf (P:=P) c,Sem.run_pure,asInt,asIntOf,Sem.run_map,a]
 rw[<- f,Zw4]
 simp[setObj,Sem.run,c]
theorem Zky {t kt et b:Nat}{x f:Operand}{l:List (κ × Int)}{k:κ}{O':List It}[hM:MapT P t kt et][hK:KeyT P kt κ kv][ZeroV P et (.int .i64 0)](j:ev fr x=some (.map (some b)))(h:ev fr f=some (kv k))(e:Upd O (cmIt kv b l) (cmIt kv b (cins k l)) O')
  (m:Kp (.tuple #[.int .i64 (cget k l),.int .i64 (cidx k l)]) O'):Stp P n wr fr O ⟨dst,.mapEntry t x f,ty,pos,af,g⟩ Kp:=by
 refine ZbZ ?_
 intro a w d
 have c:=setC d e
 have i:=Zrf (P:=P) (t:=t) (kt:=kt) (et:=et) (d.own.sat _ e.mem) k
 refine⟨_,_,O',?_,c.1,c.2,m⟩
 simp only[execOp,d.sim.ev j,d.sim.ev h,Sem.run_bind,i,Result.andThen_ok,Sem.run_pure]
theorem Zkx {t b:Nat}{x h y:Operand}{l:List (κ × Int)}{k:κ}{v:Int}{O':List It}(i:ev fr x=some (.map (some b)))(d:ev fr h=some (.int .i64 (cidx k l)))(j:ev fr y=some (.int .i64 v))(f:Upd O (cmIt kv b (cins k l)) (cmIt kv b (cput k v (cins k l))) O')
  (m:Kp undef O'):Stp P n wr fr O ⟨dst,.entryStore t x h y,ty,pos,af,g⟩ Kp :=
 Zfj fun a w c=>by
  have e:=setC c f
  refine⟨_,O',?_,e.1,e.2,m⟩
  have:=Zre (P:=P) (t:=t) (c.own.sat _ f.mem) k v (Zlr k l) (Znl k l)
  simp only[execOp,c.sim.ev i,c.sim.ev d,c.sim.ev j,Sem.run_bind,this,Result.andThen_ok,Sem.run_pure]
end
end Go.Wk
namespace Go.Proofs.YtpipekfmecikmaaGreatDoor
open Go Go.RowKit Go.Wk
def bz (l:List UInt8):ByteArray:=⟨l.toArray⟩
theorem Zqm {a b:List UInt8}(h:bz a=bz b):a=b:=by
 have:=congrArg (fun x:ByteArray=>x.data.toList) h
 simpa[bz] using this
theorem Zul (l:List UInt8):(bz l).size=l.length:=by simp[bz,ByteArray.size]
def pz (x:Int × List UInt8):Int × ByteArray:=(x.1,bz x.2)
theorem ZBK {a b:Int × List UInt8}(h:pz a=pz b):a=b:=by
 obtain⟨c,a2⟩:=a
 obtain⟨d,e⟩:=b
 simp only[pz,Prod.mk.injEq]at h
 rw[h.1,Zqm h.2]
theorem Ztq {α β:Type}{f:α->β}(c:∀ {a b},f a=f b->a=b){x:α}{l:List α}:f x∈l.map f↔x∈l :=
 ⟨fun h=>by obtain⟨y,d,e⟩:=List.mem_map.1 h;exact c e▸d,fun h=>List.mem_map.2 ⟨x,h,rfl⟩⟩
theorem Zgw {l:List UInt8}(h:ZbD l=true):l.length<=6:=by
 unfold ZbD Zb7 at h
 simp only[Bool.and_eq_true,decide_eq_true_eq]at h
 exact h.1.2
theorem Zfb {l:List UInt8}(h:(ZaV l).isSome=true):l.length<=7:=by
 unfold ZaV at h
 cases hg:Zc6 l [3600,60,1] 0 0 with
 | none=>rw[hg]at h;cases h
 | some o =>
  rw[hg]at h
  dsimp only at h
  by_cases a:(l.isEmpty=true\/ZaM (if l.head?=some 45 then -o else o)≠l)
  ·rw[if_pos a]at h;cases h
  ·have:ZaM (if l.head?=some 45 then -o else o)=l:=Decidable.of_not_not fun b=>a (.inr b)
   rw[<- this]
   exact Zew _
theorem ZBR {f:List UInt8}(h:ZaP f=1):ZbD f=true:=by
 unfold ZaP at h
 dsimp only at h
 split at h
 ·assumption
 ·repeat' split at h
  all_goals cases h
theorem ZAy {f a b:List UInt8}(h:ZaP f=2)(d:Zbn [47] f []=some (a,b)):a.length<=6/\b.length<=6:=by
 unfold ZaP at h
 dsimp only at h
 rw[d]at h
 dsimp only at h
 split at h
 ·cases h
 ·split at h
  ·rename_i c
   rw[Bool.and_eq_true]at c
   exact⟨Zgw c.1,Zgw c.2⟩
  ·repeat' split at h
   all_goals cases h
theorem ZBP {f:List UInt8}(h:ZaP f=5):((ZaV f).isSome||(match Zbn [47] f [] with|some (a,b)=>(ZaV a).isSome&&(ZaV b).isSome|none=>false))=true:=by
 unfold ZaP at h
 dsimp only at h
 by_cases g:ZbD f=true
 ·rw[if_pos g]at h;omega
 rw[if_neg g]at h
 cases hc:Zbn [47] f [] with
 | none =>
  rw[hc]at h
  dsimp only at h ⊢
  rw[if_neg (by decide)]at h
  by_cases c:(Zbq f).isSome=true
  ·rw[if_pos c]at h;omega
  rw[if_neg c]at h
  by_cases d:f=[37,122]
  ·rw[if_pos d]at h;omega
  rw[if_neg d]at h
  by_cases e:((ZaV f).isSome||false)=true
  ·exact e
  ·rw[if_neg e]at h;omega
 | some x =>
  obtain⟨a,b⟩:=x
  rw[hc]at h
  dsimp only at h ⊢
  by_cases i:(ZbD a&&ZbD b)=true
  ·rw[if_pos i]at h;omega
  rw[if_neg i]at h
  by_cases c:(Zbq f).isSome=true
  ·rw[if_pos c]at h;omega
  rw[if_neg c]at h
  by_cases d:f=[37,122]
  ·rw[if_pos d]at h;omega
  rw[if_neg d]at h
  by_cases e:((ZaV f).isSome||(ZaV a).isSome&&(ZaV b).isSome)=true
  ·exact e
  ·rw[if_neg e]at h;omega
theorem Zrx {f a b:List UInt8}(h:Zc5 f=some (a,b)):a.length<=7/\b.length<=7:=by
 unfold Zc5 at h
 cases hc:Zbn [47] f [] with
 | none=>rw[hc]at h;cases h
 | some x =>
  obtain⟨g,i⟩:=x
  rw[hc]at h
  dsimp only at h
  split at h
  ·rename_i d
   simp only[Option.some.injEq,Prod.mk.injEq]at h
   obtain⟨rfl,rfl⟩:=h
   have e:=Znh hc
   simp only[List.length_nil]at e
   rcases d with d|d
   ·have:=ZAy d hc;omega
   ·have c:=ZBP d
    rw[hc]at c
    dsimp only at c
    rw[Bool.or_eq_true,Bool.and_eq_true]at c
    rcases c with c|⟨c,h6⟩
    ·have:=Zfb c;omega
    ·have:=Zfb c
     have:=Zfb h6
     omega
  ·cases h
theorem ZnA (f:List UInt8)(g e:Int)(c:List UInt8):(Zdx f g e c).1.length<=7:=by
 unfold Zdx
 cases hp:Zc5 f with
 | some x =>
  obtain⟨a,b⟩:=x
  have:=Zrx hp
  dsimp only
  split
  ·exact this.1
  ·exact this.2
 | none =>
  dsimp only
  split
  ·split
   ·split
    ·rename_i i;have:=Zgw i;dsimp only;omega
    ·simp
   ·simp
  ·split
   ·split
    ·exact Zew _
    ·simp
   ·split
    ·rename_i d
     dsimp only
     rcases d with d|d
     ·have:=Zgw (ZBR d);omega
     ·have h:=ZBP d
      cases hc:Zbn [47] f [] with
      | none =>
       rw[hc,Bool.or_false]at h
       exact Zfb h
      | some x =>
       obtain⟨a,b⟩:=x
       unfold Zc5 at hp
       rw[hc]at hp
       dsimp only at hp
       rw[if_pos (.inr d)]at hp
       cases hp
    ·simp
theorem Zl6 (x:List UInt8):∀ l:List (List UInt8),Zdd (l++[x])=Zdd l+(x.length+1)
 | []=>by simp[Zdd]
 | y::l=>by rw[List.cons_append,Zdd,Zdd,Zl6 x l];omega
theorem ZpU:∀ l:List (List UInt8),(∀ x∈l,x.length<=7)->Zdd l<=8*l.length
 | [],_=>Nat.le_refl _
 | y::l,h=>by
  have b:=h y List.mem_cons_self
  have c:=ZpU l fun x a=>h x (List.mem_cons_of_mem _ a)
  rw[Zdd,List.length_cons]
  omega
structure FewI (lp:List ((Int × ByteArray) × Int))(la:List (ByteArray × Int))(sz:Int)(acc:List (Int × List UInt8) × List (List UInt8))(t:Nat):Prop where
 kp:lp.map (·.1)=acc.1.map pz
 ka:la.map (·.1)=acc.2.map bz
 cp:Zha lp t
 ca:Zha la t
 le:acc.2.length<=t
 ls:∀ x∈acc.2,x.length<=7
 sz:sz=Zdd acc.2
theorem FewI.nil:FewI [] [] 0 ([],[]) 0:=⟨rfl,rfl,Zha.nil _,Zha.nil _,Nat.le_refl _,(fun _ h=>by cases h),rfl⟩
theorem FewI.lim {c:List ((Int × ByteArray) × Int)}{b:List (ByteArray × Int)}{sz:Int}{a:List (Int × List UInt8) × List (List UInt8)}{t:Nat}(h:FewI c b sz a t):0<=sz/\sz<=8*(t:Int):=by
 have d:=ZpU _ h.ls
 have e:=h.le
 rw[h.sz]
 omega
theorem FewI.step {i:List ((Int × ByteArray) × Int)}{f:List (ByteArray × Int)}{sz:Int}{a:List (Int × List UInt8) × List (List UInt8)}{t:Nat}(h:FewI i f sz a t)(o:Int)(x:List UInt8)(k:x.length<=7) :
  FewI (cinc (o,bz x) i) (cinc (bz x) f) (if cget (bz x) f+1=1 then sz+(x.length+1) else sz) (addP (o,x) a.1,addA x a.2) (t+1):=by
 have d:bz x∈f.map (·.1)↔x∈a.2:=by rw[h.ka];exact Ztq Zqm
 have g:(o,bz x)∈i.map (·.1)↔(o,x)∈a.1:=by rw[h.kp];show pz (o,x)∈List.map pz a.1↔_;exact Ztq ZBK
 refine⟨?_,?_,h.cp.inc _,h.ca.inc _,?_,?_,?_⟩
 ·rw[Znk,h.kp]
  unfold addP
  rw[h.kp]at g
  by_cases b:(o,x)∈a.1
  ·rw[if_pos (g.2 b),if_pos b]
  ·rw[if_neg (fun e=>b (g.1 e)),if_neg b,List.map_append];rfl
 ·rw[Znk,h.ka]
  unfold addA
  rw[h.ka]at d
  by_cases b:x∈a.2
  ·rw[if_pos (d.2 b),if_pos b]
  ·rw[if_neg (fun e=>b (d.1 e)),if_neg b,List.map_append];rfl
 ·unfold addA
  have:=h.le
  split
  ·dsimp only;omega
  ·simp;omega
 ·unfold addA
  intro y c
  dsimp only at c
  split at c
  ·exact h.ls y c
  ·rcases List.mem_append.1 c with c|c
   ·exact h.ls y c
   ·rw[List.mem_singleton.1 c];exact k
 ·have j:=h.ca.new (bz x)
  unfold addA
  dsimp only
  by_cases b:x∈a.2
  ·rw[if_pos b,if_neg (fun e=>j.1 e (d.2 b))];exact h.sz
  ·rw[if_neg b,if_pos (j.2 fun e=>b (d.1 e)),Zl6,h.sz];omega
theorem FewI.few {c:List ((Int × ByteArray) × Int)}{d:List (ByteArray × Int)}{sz:Int}{a:List (Int × List UInt8) × List (List UInt8)}{t:Nat}(h:FewI c d sz a t) :
  (decide ((c.length:Int)<=120)&&decide (sz<=250))=(decide (a.1.length<=120)&&decide (Zdd a.2<=250)):=by
 have b:=congrArg List.length h.kp
 simp only[List.length_map]at b
 rw[b,h.sz]
 congr 1
 ·rw[decide_eq_decide];omega
 ·rw[decide_eq_decide];omega
theorem Znf {rs:List DRule}{e:DEra}{b:Bool}(h:Zdq rs e b=0):∀ x∈ZaB rs e,Za1 e.off x.1=true:=by
 intro x c
 unfold Zdq at h
 split at h
 ·cases h
 ·split at h
  ·cases h
  ·split at h
   ·cases h
   ·split at h
    ·cases h
    ·split at h
     ·cases h
     ·rename_i a
      cases hh:Za1 e.off x.1 with
      | true=>rfl
      | false=>exact absurd (.inr (List.any_eq_true.2 ⟨x,c,by rw[hh];rfl⟩)) a
theorem ZiP {rs:List DRule}{l:List DEra}{i:Nat}:∀ (f k:Nat),Zcd rs l i f k=none->∀ j,k<=j->j<k+f->Zdq rs (l.getD j dE0) (decide (j=0))=0
 | 0,k,_,j,h1,h2=>by omega
 | f+1,k,h,j,h1,h2=>by
  rw[Zcd]at h
  split at h
  ·cases h
  ·rename_i a
   split at h
   ·cases h
   ·by_cases b:j=k
    ·rw[b];exact Decidable.of_not_not a
    ·exact ZiP f (k+1) h j (by omega) (by omega)
theorem Zkb {rs:List DRule}{l:List DEra}{i:Nat}(h:Zcd rs l i l.length 0=none):∀ e∈l,∀ x∈ZaB rs e,Za1 e.off x.1=true:=by
 intro e a
 obtain⟨j,b,rfl⟩:=List.mem_iff_getElem.1 a
 have:=ZiP l.length 0 h j (Nat.zero_le _) (by omega)
 rw[List.getD_eq_getElem?_getD,List.getElem?_eq_getElem b]at this
 exact Znf this
