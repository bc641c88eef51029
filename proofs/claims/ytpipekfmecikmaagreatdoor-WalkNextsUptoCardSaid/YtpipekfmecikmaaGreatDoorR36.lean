/- Parts of the proof. -/
import Derived.Test.YtpipekfmecikmaaGreatDoorR35
set_option maxHeartbeats 4000000
set_option linter.all false
namespace Go.Proofs.YtpipekfmecikmaaGreatDoor
open Go Go.RowKit Go.Wk
attribute [local irreducible] W RL Does Zaq Zai retQ Calls Pu Stp RD Qy Ay Zaj
def Zfe (H:List EvH)(w:World):Prop:=∀ h∈H,RdSl w h.A h.c Zab.enc 3 h.l
def ZBI (Y:Nat->List Zab)(N:Nat)(v:Value)(O:List It):Prop:=∃ (b:Nat) (H:List EvH) (S:Nat->Prop),v = .slice (some ⟨b,0,none⟩) N N/\H.length=N/\(∀ q,q<N->∃ h:EvH,H[q]?=some h/\h.l=Y q) /\
 O=[.row (.slice (some ⟨b,0,none⟩) N N) 252 1 N (H.flatMap EvH.enc),.fact S (Zfe H)]
theorem Zn8 (A:Option Addr)(c:Nat)(l:List DRule)(w:World)(g:RdSl w A c DRule.enc 11 l)(m:l.length<=1000000) :
  Does Tryz.prog 247 [.slice A l.length c] w (ZBI (Zc6 l) 701) :=
 (Zq7 A c l w g m).monoH fun v O base w' i h=>by
  obtain⟨b,a,rfl,k,d,rfl⟩:=i
  refine⟨_,⟨b,a.reverse,foot (a.map EvH.row),rfl,by rw[List.length_reverse];exact k,d,rfl⟩,?_⟩
  have e:Zaz base (a.map EvH.row++[.row (.slice (some ⟨b,0,none⟩) 701 701) 252 1 701 (a.reverse.flatMap EvH.enc)]) w':=h.perm (List.perm_append_comm (l₁:=[_]))
  have f:=e.fact (p:=Zfe a.reverse) (fun n j q d=>ZaO Zab.len (j (EvH.row q) (List.mem_map.2 ⟨q,List.mem_reverse.1 d,rfl⟩)))
  exact f.perm (List.perm_append_comm (l₁:=[_]) (l₂:=[_]))
structure CapG where
 k:Nat
 o:Option Zab
theorem ZuW {G:Prop}(h:G:=by(first|(apply ZaF;rfl;rfl;omega;omega;(intro w' _ hO;exact Option.some_ne_none _))|(apply ZcM;rfl;(focus repeat' constructor);first|exact hx0|exact hx1|exact hx2 (by omega)))):G:=h
theorem ZCz {G:Prop}(h:G:=by(first|exact ZuW|(apply Zat;rfl;rfl;exact bd1)|(apply Zau;rfl;rfl;exact bd2))):G:=h
theorem ZBT {G:Prop}(h:G:=by first|(apply Qy_y;rfl;exact ZCz)|exact QyA):G:=h
theorem Zyc {G:Prop}(h:G:=by repeat (exact QF.nil)):G:=h
theorem Zw7 {G G':Prop}(k:G')(h:Hold G'->G:=by intro k9;(first|(apply RD_Q;rfl;rfl;decide +kernel;rfl;rfl;exact ZBT)|refine walk1 ?_|(refine jg ?_;(try intro F);(first|(refine ZaJ (fun w' hw hO=>hc0 w' (Zbh (S:=S) (hO.of (A := .fact S (Zfe H)) (by repeat' constructor)))) ?_)|(refine ZaJ (fun w' hw hO=>hc1 w' (Zbh (S:=S) (hO.of (A := .fact S (Zfe H)) (by repeat' constructor)))) ?_)|(refine ZaJ (fun w' hw hO=>hc2e w' (Zbh (S:=S) (hO.of (A := .fact S (Zfe H)) (by repeat' constructor)))) ?_));first|refine⟨_,EndsA,Zyc,?_⟩|refine fin ?_)|(refine jn ?_;(try intro F);(first|(refine stA ?_)|(apply Zam;exact PuA));first|refine⟨_,EndsA,Zyc,?_⟩|refine fin ?_));exact k9.out):G:=h ⟨k⟩
set_option maxRecDepth 20000 in
set_option maxHeartbeats 4000000 in
theorem rapS:RapS:=by
 intro A c l w hA hn _
 obtain⟨N,hN⟩:∃ N:Nat,N=701:=⟨_,rfl⟩
 have ak:∀ w',Bel w.heap.size w w'->Does Tryz.prog 247 [.slice A l.length c] w' (ZBI (Zc6 l) N):=fun w' hw=>by
  rw[hN]
  exact Zn8 A c l w' (hA.up hw) hn
 have hok:=fun q:Nat=>Zkw (Zae l) (1850+(q:Int)) (ZcQ l) l 0
 change ∀ q:Nat,(Zc6 l q).length<=l.length/\∀ e∈Zc6 l q,Zlx e at hok
 rw[<- ZAb]
 unfold capD
 rw[<- hN]
 generalize Zc6 l=Y at *
 obtain⟨M,y⟩:∃ M,capJ Y N N 0 none=M:=⟨_,rfl⟩
 rw[y]
 refine Zaa Tryz.func191 rfl rfl rfl rfl ?_
 repeat (first|refine walk ?_|(refine jg ?_;(try intro F);(first|(apply Zad (h:=fun w' hw _=>ak w' hw);rfl;rintro v O' ⟨b,H,S,rfl,ao,hH,rfl⟩)|(refine bx ?_;intro bk));refine fin ?_))
 rename_i b2
 obtain⟨Q,ab⟩:∃ Q,bk=Q:=⟨_,rfl⟩
 rw[ab]
 clear ab bk
 refine Zah [(2,.pointer (some ⟨b2,0,none⟩)),(4,.slice (some ⟨b,0,none⟩) N N),(5,.pointer (some ⟨Q,0,none⟩))] [.row (.slice (some ⟨b,0,none⟩) N N) 252 1 N (H.flatMap EvH.enc),.fact S (Zfe H),.blk b2 [.int .i64 0,.int .i64 0,.int .i64 0] 91] (fun g:CapG=>[(6,.bool g.o.isSome),(7,.int .i64 g.k)]) (fun g=>[.blk Q (evC g.o) 91])
  (fun g=>g.k<=N/\capJ Y N (N - g.k) g.k g.o=M) (fun g=>N - g.k) ⟨0,none⟩ SFA SOA ⟨Nat.zero_le _,y⟩ ?_
 clear y
 rintro⟨k,o⟩ ⟨hk,hi⟩
 dsimp only at hk hi ⊢
 repeat (refine walk ?_)
 refine Zaf rfl (fun hc=>?_) (fun hc=>?_)
 ·simp only[decide_eq_true_eq,Int.ofNat_lt]at hc
  obtain⟨⟨s,T,z⟩,ag,K⟩:=hH k hc
  dsimp only at K
  have t:=hok k
  rw[<- K]at t
  have u:∀ w',Zfe H w'->RdSl w' s T Zab.enc 3 z:=fun w' j=>j _ (List.mem_of_getElem? ag)
  have hx0:(H.flatMap EvH.enc)[k*1]?=some (.slice s z.length T):=ZaC EvH.len H k _ 0 _ ag rfl
  rw[show N - k=(N - k - 1)+1 by omega,capJ,<- K]at hi
  have ap:(z.length:Int)<=1000000:=by omega
  repeat (first|(apply RL_pu;rfl;exact ZuW)|refine walk1 ?_)
  refine Zah [(2,.pointer (some ⟨b2,0,none⟩)),(4,.slice (some ⟨b,0,none⟩) N N),(5,.pointer (some ⟨Q,0,none⟩)),(7,.int .i64 k)] [.row (.slice (some ⟨b,0,none⟩) N N) 252 1 N (H.flatMap EvH.enc),.fact S (Zfe H),.blk b2 [.int .i64 0,.int .i64 0,.int .i64 0] 91] (fun g:CapG=>[(6,.bool g.o.isSome),(8,.int .i64 g.k)]) (fun g=>[.blk Q (evC g.o) 91])
   (fun g=>g.k<=z.length/\capJ Y N (N - k - 1) (k+1) (capI (Zmn Y N k) (z.drop g.k) g.o)=M) (fun g=>z.length - g.k) ⟨0,o⟩ SFA SOA ⟨Nat.zero_le _,hi⟩ ?_
  clear hi o
  rintro⟨i,o⟩ ⟨hil,hi⟩
  dsimp only at hil hi ⊢
  repeat (first|(apply RL_pu;rfl;exact ZuW)|refine walk1 ?_)
  refine Zaf rfl (fun r=>?_) (fun r=>?_)
  ·simp only[decide_eq_true_eq,Int.ofNat_lt]at r
   rw[Zag r,capI]at hi
   have af:=List.getElem?_eq_getElem r
   have aa:=t.2 _ (List.getElem_mem r)
   generalize z[i]=e at *
   have al:∀ w',Zfe H w'->s≠none:=fun w' j=>((u w' j).rd i e af).1
   have ac:∀ w',Zfe H w'->Zas w' ((adr s).add (i*3)) (Zab.enc e):=fun w' j=>((u w' j).rd i e af).2
   have hc0:=fun w' j=>ZhY e s T z w' (u w' j) (by omega) aa t.2
   have X:=fun b w'=>Zl3 e b w'
   have W:∀ q,q<N->∃ h:EvH,(H.flatMap EvH.enc)[q*1]?=some (.slice h.A (Y q).length h.c)/\∀ w',Zfe H w'->Does Tryz.prog 248 [.agg e.enc.toArray,.slice h.A (Y q).length h.c] w' (fun v O=>v = .bool (Zcu e (Y q))/\O=[]):=fun q hq=>by
    obtain⟨h,h1,U⟩:=hH q hq
    refine⟨h,?_,fun w' j=>?_⟩
    ·rw[<- U];exact ZaC EvH.len H q h 0 _ h1 rfl
    ·rw[<- U]
     have L:=hok q
     rw[<- U]at L
     exact ZhY e h.A h.c h.l w' (j h (List.mem_of_getElem? h1)) (by omega) aa L.2
   have ai:Zmn Y N k e=(Zcu e z||(decide (0<k)&&Zcu e (Y (k - 1)))||(decide (k+1<N)&&Zcu e (Y (k+1)))):=by rw[K];rfl
   obtain⟨q2,L,aj⟩:∃ q2,q2<N/\(k+1<N->q2=k+1):=by
    by_cases h:k+1<N
    ·exact⟨k+1,h,fun _=>rfl⟩
    ·exact⟨k,hc,fun j=>absurd j h⟩
   obtain⟨A1,am,m1,E,hx1,hc1,ad⟩:∃ (A:Option Addr) (c m:Nat) (cb:Bool),(H.flatMap EvH.enc)[((k:Int) - 1).toNat*1]?=some (.slice A m c)/\(∀ w',Zfe H w'->Does Tryz.prog 248 [.agg e.enc.toArray,.slice A m c] w' (fun v O=>v = .bool cb/\O=[]))/\Zcu e (Y (k - 1))=cb:=by
    obtain⟨h,h1,U⟩:=W (k - 1) (by omega)
    exact⟨h.A,h.c,_,_,by rw[show((k:Int) - 1).toNat=k - 1 by omega];exact h1,U,rfl⟩
   obtain⟨A2,an,m2,I,hx2,hc2e,ae⟩:∃ (A:Option Addr) (c m:Nat) (cb:Bool),(k+1<N->(H.flatMap EvH.enc)[((k:Int)+1).toNat*1]?=some (.slice A m c))/\(∀ w',Zfe H w'->Does Tryz.prog 248 [.agg e.enc.toArray,.slice A m c] w' (fun v O=>v = .bool cb/\O=[]))/\Zcu e (Y q2)=cb:=by
    obtain⟨h,h1,U⟩:=W q2 L
    exact⟨h.A,h.c,_,_,fun j=>by rw[show((k:Int)+1).toNat=q2 by rw[aj j];omega];exact h1,U,rfl⟩
   clear W
   obtain⟨D1,bd1⟩:∃ D,decide ((0:Int)<(k:Int))=D:=⟨_,rfl⟩
   obtain⟨D2,bd2⟩:∃ D,decide ((k:Int)+1<(N:Int))=D:=⟨_,rfl⟩
   obtain⟨f,Z⟩:∃ f,Zcu e z=f:=⟨_,rfl⟩
   have R:Zmn Y N k e=(f||(D1&&E)||(D2&&I)):=by
    rw[ai,Z,ad,show decide (0<k)=D1 by rw[<- bd1];exact decide_eq_decide.2 (by omega),show decide (k+1<N)=D2 by rw[<- bd2];exact decide_eq_decide.2 (by omega)]
    cases D2 with
    | false=>rfl
    | true=>rw[<- aj (by have:=of_decide_eq_true bd2;omega),ae]
   rw[R]at hi
   rw[Z]at hc0
   clear ai R Z ad ae
   have hd:((f||(D1&&E)||(D2&&I))=true/\(f=true\/(f=false/\D1=true/\E=true)\/(f=false/\D1=true/\E=false/\D2=true/\I=true)\/(f=false/\D1=false/\D2=true/\I=true)))\/((f||(D1&&E)||(D2&&I))=false/\((f=false/\D1=true/\E=false/\D2=true/\I=false)\/(f=false/\D1=true/\E=false/\D2=false)\/(f=false/\D1=false/\D2=true/\I=false)\/(f=false/\D1=false/\D2=false))):=by
    cases f <;> cases E <;> cases I <;> cases D1 <;> cases D2 <;> simp
   obtain⟨ey,er,en⟩:=e
   simp only[Zab.enc]at ac hc0 hc1 hc2e X aa
   obtain⟨nb,d⟩:∃ nb,(f||(D1&&E)||(D2&&I))=nb:=⟨_,rfl⟩
   rw[d]at hi
   repeat refine Zzw ?_
   apply RL_pu
   ·rfl
   ·exact ZcM rfl (by(focus repeat' constructor)) hx0
   refine walk1 ?_
   apply RL_pu
   ·rfl
   ·apply ZaF
    ·rfl
    ·rfl
    ·omega
    ·omega
    ·intro w' _ hO
     exact al w' (Zbh (S:=S) (hO.of (A := .fact S (Zfe H)) (by repeat' constructor)))
   apply RL_pu
   ·rfl
   ·apply Zgn (cs:=[.int .i64 ey,.int .i64 er,.int .i64 en])
    ·rfl
    ·rfl
    ·intro w' _ hO
     exact ac w' (Zbh (S:=S) (hO.of (A := .fact S (Zfe H)) (by repeat' constructor)))
   repeat (first|refine Zzw ?_|(refine jn ?_;(try intro F);((refine bx ?_;intro bk));refine fin ?_))
   refine ZbY (fun fr' O'=>Sub [(10,.bool nb),(6,.bool o.isSome),(8,.int .i64 i),(9,.pointer (some ⟨bk,0,none⟩)),(2,.pointer (some ⟨b2,0,none⟩)),(4,.slice (some ⟨b,0,none⟩) N N),(5,.pointer (some ⟨Q,0,none⟩)),(7,.int .i64 k)] fr'/\SubO [.blk bk [.int .i64 ey,.int .i64 er,.int .i64 en] 91,.blk Q (evC o) 91,.row (.slice (some ⟨b,0,none⟩) N N) 252 1 N (H.flatMap EvH.enc),.fact S (Zfe H),.blk b2 [.int .i64 0,.int .i64 0,.int .i64 0] 91] O') ?_ ?_
   ·clear hi X
    rcases hd with⟨hn1,hd⟩|⟨hn1,hd⟩
    ·rw[hn1]at d
     subst d
     clear hn1
     rcases hd with rfl|⟨rfl,rfl,rfl⟩|⟨rfl,rfl,rfl,rfl,rfl⟩|⟨rfl,rfl,rfl,rfl⟩
     all_goals
      try have d1:(0:Int)<(k:Int):=of_decide_eq_true bd1
      try have d2:(k:Int)+1<(N:Int):=of_decide_eq_true bd2
      repeat (refine Zw7 ?_)
      exact⟨rfl,SFA,SOA⟩
    ·rw[hn1]at d
     subst d
     clear hn1
     rcases hd with⟨rfl,rfl,rfl,rfl,rfl⟩|⟨rfl,rfl,rfl,rfl⟩|⟨rfl,rfl,rfl,rfl⟩|⟨rfl,rfl,rfl⟩
     all_goals
      try have d1:(0:Int)<(k:Int):=of_decide_eq_true bd1
      try have d2:(k:Int)+1<(N:Int):=of_decide_eq_true bd2
      repeat (refine Zw7 ?_)
      exact⟨rfl,SFA,SOA⟩
   clear hd d hc0 hc1 hc2e hx1 hx2 hx0 bd1 bd2
   rintro fr' O' ⟨hf,hO⟩
   apply thenQ_n
   refine Zcz hf hO ?_
   clear hf hO fr' O'
   cases nb with
   | false =>
    rw[Bool.false_and,if_neg (by decide)]at hi
    repeat (first|refine und ?_|refine walk ?_)
    exact⟨⟨i+1,o⟩,OA,⟨OA,hi⟩,SFA,SOA⟩
   | true =>
    rw[Bool.true_and]at hi
    cases o with
    | none =>
     simp only[befE,if_true]at hi
     simp only[evC,Option.isSome,Zab.enc,dEv0]
     repeat (first|refine und ?_|refine walk ?_)
     exact⟨⟨i+1,some ⟨ey,er,en⟩⟩,OA,⟨OA,hi⟩,SFA,SOA⟩
    | some x =>
     have J:=X x
     obtain⟨xy,xr,xn⟩:=x
     simp only[evC,Option.isSome,Zab.enc]at J ⊢
     obtain⟨lt,ah⟩:∃ lt,ltE ⟨ey,er,en⟩ ⟨xy,xr,xn⟩=lt:=⟨_,rfl⟩
     rw[show befE ⟨ey,er,en⟩ (some ⟨xy,xr,xn⟩)=lt from ah]at hi
     simp only[ah]at J
     cases lt with
     | false =>
      rw[if_neg (by decide)]at hi
      repeat (first|refine walk ?_|(refine jg ?_;(try intro F);((refine Zac (fun w' hw=>J w') ?_));refine fin ?_))
      exact⟨⟨i+1,some ⟨xy,xr,xn⟩⟩,OA,⟨OA,hi⟩,SFA,SOA⟩
     | true =>
      rw[if_pos rfl]at hi
      repeat (first|refine walk ?_|(refine jg ?_;(try intro F);((refine Zac (fun w' hw=>J w') ?_));refine fin ?_))
      exact⟨⟨i+1,some ⟨ey,er,en⟩⟩,OA,⟨OA,hi⟩,SFA,SOA⟩
  ·simp only[decide_eq_false_iff_not,Int.ofNat_lt]at r
   rw[List.drop_eq_nil_of_le (by omega),capI]at hi
   repeat (refine walk ?_)
   exact⟨⟨k+1,o⟩,OA,⟨OA,by dsimp only;rw[show N - (k+1)=N - k - 1 by omega];exact hi⟩,SFA,SOA⟩
 ·simp only[decide_eq_false_iff_not,Int.ofNat_lt]at hc
  obtain rfl:k=N:=by omega
  rw[Nat.sub_self,capJ]at hi
  subst hi
  cases o with
  | none =>
   simp only[evC,apV,Zab.enc,dEv0,Option.isSome]
   repeat (refine walk ?_)
   exact rtC
  | some e =>
   simp only[evC,apV,Zab.enc,Option.isSome]
   repeat (refine walk ?_)
   exact rtC
end Go.Proofs.YtpipekfmecikmaaGreatDoor
namespace Go.Proofs.YtpipekfmecikmaaGreatDoor
open Go Go.RowKit Go.Wk
theorem ZgG (L n y:Int):∀ (l:List DRule) (i:Nat),farI L n y l i=false↔∃ (j:Nat) (r:DRule) (e:Zab),l[j]?=some r/\onR L r ((i+j:Nat):Int) y=some e/\e.nominal<n+259200/\n - 259200<e.nominal
 | [],i=>by simp[farI]
 | r::l,i=>by
  have b:=ZgG L n y l (i+1)
  have c:(∃ (j:Nat) (r':DRule) (e:Zab),(r::l)[j]?=some r'/\onR L r' ((i+j:Nat):Int) y=some e/\e.nominal<n+259200/\n - 259200<e.nominal)↔(∃ e,onR L r (i:Int) y=some e/\e.nominal<n+259200/\n - 259200<e.nominal)\/(∃ (j:Nat) (r':DRule) (e:Zab),l[j]?=some r'/\onR L r' ((i+1+j:Nat):Int) y=some e/\e.nominal<n+259200/\n - 259200<e.nominal):=by
   constructor
   ·rintro⟨j,r',e,h1,h2,h3⟩
    cases j with
    | zero=>simp only[List.getElem?_cons_zero,Option.some.injEq]at h1;subst h1;exact .inl ⟨e,h2,h3⟩
    | succ j=>exact .inr ⟨j,r',e,by simpa using h1,by rw[show i+1+j=i+(j+1) by omega];exact h2,h3⟩
   ·rintro(⟨e,h⟩|⟨j,r',e,h1,h2,h3⟩)
    ·exact⟨0,r,e,rfl,h⟩
    ·exact⟨j+1,r',e,by simpa using h1,by rw[show i+(j+1)=i+1+j by omega];exact h2,h3⟩
  rw[c,farI]
  cases he:onR L r (i:Int) y with
  | none=>simpa using b
  | some e =>
   dsimp only
   by_cases a:e.nominal<n+259200/\n - 259200<e.nominal
   ·rw[if_pos a]
    exact⟨fun _ => .inl ⟨e,rfl,a⟩,fun _=>rfl⟩
   ·rw[if_neg a,b]
    constructor
    ·exact .inr
    ·rintro(⟨e',h1,h2⟩|h)
     ·cases h1;exact absurd h2 a
     ·exact h
theorem ZjX (L n:Int)(l:List DRule):∀ (k:Nat) (y:Int),farY L n l y k=false↔∃ q:Nat,q<k/\farI L n (y+q) l 0=false
 | 0,y=>by simp[farY]
 | k+1,y=>by
  rw[farY,Bool.and_eq_false_iff,ZjX L n l k (y+1)]
  constructor
  ·rintro(h|⟨q,hq,h⟩)
   ·exact⟨0,by omega,by simpa using h⟩
   ·exact⟨q+1,by omega,by rw[show y+((q+1:Nat):Int)=y+1+q by omega];exact h⟩
  ·rintro⟨q,hq,h⟩
   cases q with
   | zero=>left;simpa using h
   | succ q=>exact .inr ⟨q,by omega,by rw[show y+1+(q:Int)=y+((q+1:Nat):Int) by omega];exact h⟩
theorem ZjY (least nominal:Int)(r:DRule)(i:Int):∀ (k:Nat) (y:Int) (e:Zab),evIn least nominal r i y k=some e->∃ q:Nat,onR least r i (y+q)=some e/\nominal<e.nominal
 | 0,_,_,h=>by cases h
 | k+1,y,e,h=>by
  rw[evIn]at h
  have b:=ZjY least nominal r i k (y+1) e
  have lift:(∃ q:Nat,onR least r i (y+1+q)=some e/\nominal<e.nominal)->∃ q:Nat,onR least r i (y+q)=some e/\nominal<e.nominal:=by
   rintro⟨q,hq⟩
   exact⟨q+1,by rw[show y+((q+1:Nat):Int)=y+1+q by omega];exact hq⟩
  cases he:onR least r i y with
  | none=>rw[he]at h;exact lift (b h)
  | some e' =>
   rw[he]at h
   dsimp only at h
   by_cases a:nominal<e'.nominal
   ·rw[if_pos a]at h
    cases h
    exact⟨0,by simpa using he,a⟩
   ·rw[if_neg a]at h
    exact lift (b h)
theorem ZiC (least nominal:Int)(r:DRule)(i:Int):∀ (k:Nat) (y:Int) (q:Nat) (e:Zab),q<k->onR least r i (y+q)=some e->nominal<e.nominal->∃ a,evIn least nominal r i y k=some a/\a.nominal<=e.nominal
 | 0,_,_,_,h,_,_=>absurd h (by omega)
 | k+1,y,q,e,h,h1,h2=>by
  rw[evIn]
  cases he:onR least r i y with
  | none =>
   cases q with
   | zero=>rw[show y+((0:Nat):Int)=y by omega,he]at h1;cases h1
   | succ q=>exact ZiC least nominal r i k (y+1) q e (by omega) (by rw[show y+1+(q:Int)=y+((q+1:Nat):Int) by omega];exact h1) h2
  | some a =>
   dsimp only
   by_cases b:nominal<a.nominal
   ·rw[if_pos b]
    refine⟨a,rfl,?_⟩
    cases q with
    | zero=>rw[show y+((0:Nat):Int)=y by omega,he]at h1;cases h1;exact Int.le_refl _
    | succ q=>exact Int.le_of_lt (Ze2 he h1 (by omega))
   ·rw[if_neg b]
    cases q with
    | zero=>rw[show y+((0:Nat):Int)=y by omega,he]at h1;cases h1;exact absurd h2 b
    | succ q=>exact ZiC least nominal r i k (y+1) q e (by omega) (by rw[show y+1+(q:Int)=y+((q+1:Nat):Int) by omega];exact h1) h2
theorem Zgg (least a c:Int):∀ (l:List DRule) (i:Nat) (b:Option Zab) (e:Zab),ZaX least a c l i b=some e->b=some e\/∃ (j:Nat) (r:DRule),l[j]?=some r/\evIn least a r ((i+j:Nat):Int) (max (max r.from_ (-2000000000)) (c - 2)) 20=some e
 | [],_,_,_,h => .inl h
 | r::l,i,b,e,h=>by
  rw[ZaX]at h
  rcases Zgg least a c l (i+1) _ e h with h1|⟨j,r',h1,h2⟩
  ·cases he:evIn least a r i (max (max r.from_ (-2000000000)) (c - 2)) 20 with
   | none=>rw[he]at h1;exact .inl h1
   | some e' =>
    rw[he]at h1
    have d:∀ x,e'=x->∃ (j:Nat) (r':DRule),(r::l)[j]?=some r'/\evIn least a r' ((i+j:Nat):Int) (max (max r'.from_ (-2000000000)) (c - 2)) 20=some x:=fun x f=>⟨0,r,rfl,by rw[<- f];exact he⟩
    cases b with
    | none=>cases h1;exact .inr (d _ rfl)
    | some b =>
     dsimp only at h1
     split at h1
     ·cases h1;exact .inr (d _ rfl)
     ·exact .inl h1
  ·exact .inr ⟨j+1,r',by simpa using h1,by rw[show i+(j+1)=i+1+j by omega];exact h2⟩
theorem ZcR (least nominal c:Int):∀ (l:List DRule) (i:Nat) (b:Zab),∃ e,ZaX least nominal c l i (some b)=some e/\e.nominal<=b.nominal
 | [],_,b=>⟨b,rfl,Int.le_refl _⟩
 | r::l,i,b=>by
  rw[ZaX]
  cases he:evIn least nominal r i (max (max r.from_ (-2000000000)) (c - 2)) 20 with
  | none=>exact ZcR least nominal c l (i+1) b
  | some e' =>
   dsimp only
   split
   ·rename_i a
    obtain⟨e,d,f⟩:=ZcR least nominal c l (i+1) e'
    have:e'.nominal<=b.nominal:=by
     unfold ordE at a
     split at a
     ·omega
     ·split at a
      ·omega
      ·omega
    exact⟨e,d,by omega⟩
   ·exact ZcR least nominal c l (i+1) b
theorem Zhj (least nominal d:Int):∀ (l:List DRule) (i:Nat) (b:Option Zab) (j:Nat) (r:DRule) (a:Zab),l[j]?=some r->evIn least nominal r ((i+j:Nat):Int) (max (max r.from_ (-2000000000)) (d - 2)) 20=some a->∃ e,ZaX least nominal d l i b=some e/\e.nominal<=a.nominal
 | [],_,_,_,_,_,h,_=>by simp at h
 | r0::l,i,b,0,r,a,h,h2=>by
  simp only[List.getElem?_cons_zero,Option.some.injEq]at h
  subst h
  rw[ZaX,show evIn least nominal r0 (i:Int) (max (max r0.from_ (-2000000000)) (d - 2)) 20=some a from h2]
  cases b with
  | none=>exact ZcR least nominal d l (i+1) a
  | some b =>
   dsimp only
   split
   ·exact ZcR least nominal d l (i+1) a
   ·rename_i c
    obtain⟨e,g1,g2⟩:=ZcR least nominal d l (i+1) b
    refine⟨e,g1,?_⟩
    unfold ordE at c
    split at c
    ·omega
    ·split at c <;> omega
 | r0::l,i,b,j+1,r,a,h,h2=>by
  rw[ZaX]
  exact Zhj least nominal d l (i+1) _ j r a (by simpa using h) (by rw[show i+1+j=i+(j+1) by omega];exact h2)
theorem farS:FarS:=by
 intro l n v
 have i:=ZcQ l
 have w:=Zdu (t:=n) (by omega) (by omega)
 have x:=Zdu (t:=n - 259200) (by omega) (by omega)
 have m:Zay (n - 259200)<=Zay n+1:=Zco (by omega)
 have o:Zay n<=Zay (n - 259200)+1:=Zco (by omega)
 have f:farR l n=false↔∃ (y:Int) (j:Nat) (r:DRule) (e:Zab),Zay n - 1<=y/\y<=Zay n+1/\l[j]?=some r/\onR (Zae l) r (j:Int) y=some e/\e.nominal<n+259200/\n - 259200<e.nominal:=by
  unfold farR
  rw[ZjX]
  constructor
  ·rintro⟨q,hq,h⟩
   obtain⟨j,r,e,g1,g2,g3⟩:=(ZgG _ _ _ _ _).1 h
   rw[Nat.zero_add]at g2
   exact⟨_,j,r,e,by omega,by omega,g1,g2,g3⟩
  ·rintro⟨y,j,r,e,a1,a2,g1,g2,g3⟩
   refine⟨(y - (Zay n - 1)).toNat,by omega,(ZgG _ _ _ _ _).2 ⟨j,r,e,g1,?_,g3⟩⟩
   rw[Nat.zero_add,show Zay n - 1+((y - (Zay n - 1)).toNat:Int)=y by omega]
   exact g2
 have g:farD l n=false↔∃ e,Zbx l (n - 259200)=some e/\e.nominal<n+259200:=by
  unfold farD
  cases h:Zbx l (n - 259200) with
  | none=>simp
  | some e =>
   simp only[decide_eq_false_iff_not,Option.some.injEq,exists_eq_left']
   omega
 have b:farD l n=false↔farR l n=false:=by
  rw[f,g]
  constructor
  ·rintro⟨e,he,hlt⟩
   unfold Zbx at he
   rcases Zgg _ _ _ _ _ _ _ he with h|⟨j,r,g1,g2⟩
   ·cases h
   rw[Nat.zero_add]at g2
   obtain⟨q,g3,g4⟩:=ZjY _ _ _ _ _ _ _ g2
   have a:=ZfU i g3
   generalize max (max r.from_ (-2000000000)) (Zay (n - 259200) - 2)+(q:Int)=y at *
   have s:y<=Zay n+1:=Zco (by omega)
   have u:Zay n<=y+1:=Zco (by omega)
   exact⟨y,j,r,e,by omega,by omega,g1,g3,hlt,g4⟩
  ·rintro⟨y,j,r,e,a1,a2,g1,g2,g3,g4⟩
   obtain⟨_,_,A,_⟩:=ZaT g2
   have k:max (max r.from_ (-2000000000)) (Zay (n - 259200) - 2)<=y:=by omega
   obtain⟨c,k1,k2⟩:=ZiC (Zae l) (n - 259200) r (j:Int) 20 (max (max r.from_ (-2000000000)) (Zay (n - 259200) - 2)) (y - max (max r.from_ (-2000000000)) (Zay (n - 259200) - 2)).toNat e (by omega) (by rw[show max (max r.from_ (-2000000000)) (Zay (n - 259200) - 2)+((y - max (max r.from_ (-2000000000)) (Zay (n - 259200) - 2)).toNat:Int)=y by omega];exact g2) g4
   obtain⟨d,p,z⟩:=Zhj (Zae l) (n - 259200) (Zay (n - 259200)) l 0 none j r c g1 (by rw[Nat.zero_add];exact k1)
   exact⟨d,p,by omega⟩
 cases ha:farD l n <;> cases a:farR l n
 ·rfl
 ·rw[b.1 ha]at a;cases a
 ·rw[b.2 a]at ha;cases ha
 ·rfl
attribute [local irreducible] W RL Does Zaq Zai retQ Calls Pu Stp RD Qy Ay Zaj
theorem ZA2:ZAw:=fun Ar Az Al As e f d cs a z Ae c w g h j k b l i=>Zn7 Ar Az Al As e f d cs a z Ae c w g h j k b l i
theorem ZA5 {w:World}{Ar Az Al As:Option Addr}{c d b cs:Nat}{a:DSource}(h:ZdQ w Ar Az Al As c d b cs a):Does Tryz.prog 85 [srcV Ar Az Al As c d b cs a] w (fun v O=>v=ptV (accD a)/\O=[]) :=
 Zoa Ar Az Al As c d b cs a w rapS farS ZA2 h.A h.S h.V h.Z
theorem ZmK (s:DSource):∀ (f:Nat) (a:List ByteArray) (x:ByteArray),(ZaH s f a x).2≠11->ZaH s f a x=ZeK s f x
 | 0,_,_,h=>absurd rfl h
 | f+1,a,x,h=>by
  rw[ZaH]at h ⊢
  rw[ZeK]
  cases hz:ZaI x s.zones 0 with
  | some i=>rfl
  | none =>
   rw[hz]at h
   dsimp only at h ⊢
   cases hl:ZaN x s.links 0 with
   | none=>rfl
   | some i =>
    rw[hl]at h
    dsimp only at h ⊢
    by_cases b:memB x a=true
    ·rw[if_pos b]at h;exact absurd rfl h
    ·rw[if_neg b]at h ⊢
     exact ZmK s f _ _ h
theorem ZmL (s:DSource):∀ (f:Nat) (a:List ByteArray) (x:ByteArray),(ZaH s f a x).2=11->ZaH s f a x=(0,11)
 | 0,_,_,_=>rfl
 | f+1,a,x,h=>by
  rw[ZaH]at h ⊢
  cases hz:ZaI x s.zones 0 with
  | some i=>rw[hz]at h;cases h
  | none =>
   rw[hz]at h
   dsimp only at h ⊢
   cases hl:ZaN x s.links 0 with
   | none=>rw[hl]at h;cases h
   | some i =>
    rw[hl]at h
    dsimp only at h ⊢
    by_cases b:memB x a=true
    ·rw[if_pos b]
    ·rw[if_neg b]at h ⊢
     exact ZmL s f _ _ h
theorem Ztx (s:DSource):∀ (f:Nat) (x:ByteArray),(ZeK s f x).2=11->ZeK s f x=(0,11)
 | 0,_,_=>rfl
 | f+1,x,h=>by
  rw[ZeK]at h ⊢
  cases hz:ZaI x s.zones 0 with
  | some i=>rw[hz]at h;cases h
  | none =>
   rw[hz]at h
   dsimp only at h ⊢
   cases hl:ZaN x s.links 0 with
   | none=>rw[hl]at h;cases h
   | some i =>
    rw[hl]at h
    exact Ztx s f _ h
theorem Zoz (s:DSource)(x:ByteArray):ZeK s (s.links.length+1) x=ZaH s (s.links.length+1) [] x:=by
 by_cases h:(ZaH s (s.links.length+1) [] x).2=11
 ·rw[ZmL s _ _ _ h,Ztx s _ _ ((Zim s x).1 h)]
 ·exact(ZmK s _ _ _ h).symm
theorem ZmJ (s:DSource):∀ (f:Nat) (a:List ByteArray) (x:ByteArray),(ZaH s f a x).2=0->(ZaH s f a x).1<s.zones.length
 | 0,_,_,h=>by cases h
 | f+1,a,x,h=>by
  rw[ZaH]at h ⊢
  cases hz:ZaI x s.zones 0 with
  | some i =>
   have:=(ZmN x s.zones 0 i hz).2
   dsimp only
   omega
  | none =>
   rw[hz]at h
   dsimp only at h ⊢
   cases hl:ZaN x s.links 0 with
   | none=>rw[hl]at h;cases h
   | some i =>
    rw[hl]at h
    dsimp only at h ⊢
    by_cases b:memB x a=true
    ·rw[if_pos b]at h;cases h
    ·rw[if_neg b]at h ⊢
     exact ZmJ s f _ _ h
theorem Zpr {a:DSource}{b:ByteArray}(h:(Zcd a b).2=0):accD a=none/\∃ i:Nat,Zcd a b=((i:Int),0)/\i<a.zones.length/\ZaH a (a.links.length+1) [] b=(i,0):=by
 unfold Zcd at h ⊢
 cases hac:accD a with
 | some x =>
  obtain⟨p,e⟩:=x
  rw[hac]at h
  exact absurd h (Zue hac)
 | none =>
  rw[hac]at h
  dsimp only at h ⊢
  exact⟨rfl,_,by rw[h],ZmJ a _ _ _ h,Prod.ext rfl h⟩
def zErs (a:DSource)(name:ByteArray):List DEra:=(a.zones[(Zcd a name).1.toNat]?).map (·.eras) |>.getD []
theorem ZrZ {a:DSource}{b:ByteArray}{i:Nat}{z:DZone}(h:Zcd a b=((i:Int),0))(c:a.zones[i]?=some z):zErs a b=z.eras:=by
 unfold zErs
 rw[h,Int.toNat_natCast,c]
 rfl
section
variable (Ar Az Al As:Option Addr)(cr cz cl cs:Nat)(a:DSource)(name:ByteArray)(t:Int)(w:World)
theorem ZA9 {w:World}{Ar Az Al As:Option Addr}{d f c cs:Nat}{a:DSource}(h:ZdQ w Ar Az Al As d f c cs a)(b:accD a=none):MnOk a:=ZzP b fun z i e g=>(h.Z z i e g).fmt
end
theorem Zqx {G:Prop}(h:G:=by(apply Zat;rfl;rfl;exact b1)):G:=h
set_option maxHeartbeats 2000000 in
theorem Zrc (A:Option Addr)(c:Nat)(l:List DRule)(n:Int)(w:World)(hA:RdSl w A c DRule.enc 11 l)(hn:l.length<=1000000)(hR:∀ r∈l,r.from_<=4611686018427387904/\-4611686018427387904<=r.to)(ht : -4611686018427387904<=n/\n<=4611686018427387904) :
  Does Tryz.prog 109 [.slice A l.length c,.int .i64 n] w (fun v O=>v = .tuple #[evV (raGo (Zae l) n (Zay n) l 0 none),.bool (raGo (Zae l) n (Zay n) l 0 none).isSome]/\O=[]):=by
 have X:=Zen n
 have Z:=fun w'=>Zgy n ht w'
 have t:=fun(i:Nat) (y:Int) (r:DRule) (s:l[i]?=some r) w' (hw:Bel w.heap.size w w')=>ZfP A c l i y r w' (hA.up hw) s
 generalize Zae l=L at *
 generalize Zay n=yr at *
 obtain⟨R,x⟩:∃ R,raGo L n yr l 0 none=R:=⟨_,rfl⟩
 rw[x]
 refine Zaa Tryz.func109 rfl rfl rfl rfl ?_
 repeat (first|refine walk ?_|(refine jn ?_;(try intro F);((refine bx ?_;intro j));refine fin ?_))
 generalize j=b6
 rename_i S
 refine Zah [(0,.slice A l.length c),(1,.int .i64 n),(4,.pointer (some ⟨S,0,none⟩)),(6,.pointer (some ⟨b6,0,none⟩))] [.blk S [.int .i64 0,.int .i64 0,.int .i64 0] 91]
  (fun g:BG=>[(8,.int .i64 g.k),(7,.bool g.b.isSome)]) (fun g=>[.blk b6 (evC g.b) 91]) (fun g=>g.k<=l.length/\raGo L n yr (l.drop g.k) g.k g.b=R) (fun g=>l.length - g.k) ⟨0,none⟩ SFA SOA ⟨Nat.zero_le _,x⟩ ?_
 clear x
 rintro⟨k,b⟩ ⟨hk,s⟩
 dsimp only at hk s ⊢
 repeat (first|refine walk ?_|(refine jn ?_;(try intro F);((refine bx ?_;intro j));refine fin ?_))
 refine Zaf rfl (fun I=>?_) (fun I=>?_)
 ·simp only[decide_eq_true_eq,Int.ofNat_lt]at I
  have D:=List.getElem?_eq_getElem I
  rw[Zag I,raGo]at s
  obtain⟨hna,hca⟩:=hA.rd k _ D
  have M:=hR _ (List.getElem_mem I)
  have J:=fun y=>t k y _ D
  generalize l[k]=r at *
  have E:=fun w'=>Zjt r yr true M.1 M.2 X w'
  have hnb : -2000000000<=(ZcE r yr).1/\(ZcE r yr).1<=4611686018427387904/\(ZcE r yr).2<=2000000002:=by
   unfold ZcE lastY
   dsimp only
   split <;> omega
  change ∀ w',Does _ _ _ w' (fun v O=>v = .tuple #[.int .i64 (ZcE r yr).1,.int .i64 (ZcE r yr).2]/\O=[]) at E
  generalize ZcE r yr=N at *
  obtain⟨Q,e⟩:=N
  dsimp only at s E hnb
  obtain⟨B1,u⟩:∃ B1,raI L n r k Q (e+1 - Q).toNat b=B1:=⟨_,rfl⟩
  rw[u]at s
  clear D t hR
  have K:∀ y w',Bel w.heap.size w w'->Does Tryz.prog 89 [.slice A l.length c,.int .i64 k,.int .i64 y] w' (fun v O=>v = .tuple #[evV (onR L r k y),.bool (onR L r k y).isSome]/\O=[]):=J
  clear J
  have W:∀ y m b,raI L n r k y (m+1) b=raI L n r k (y+1) m (upA n b (onR L r k y)):=fun y m b=>rfl
  generalize onR L r (k:Int)=on at *
  obtain⟨nm,fr,to,mo,⟨dk,dw,dd⟩,⟨cs,cb⟩,sv,le⟩:=r
  change Zas w _ [.string nm,.int .i64 fr,.int .i64 to,.int .i64 mo,.int .i64 dk,.int .i64 dw,.int .i64 dd,.int .i64 cs,.int .i64 cb,.int .i64 sv,.string le]at hca
  repeat (first|(apply RD_Q;rfl;rfl;decide +kernel;rfl;rfl;exact QyI)|refine walk1 ?_|(refine jg ?_;(try intro F);(first|(refine Zac (fun w' _=>Z w') ?_)|(refine Zac (fun w' _=>E w') ?_));first|refine⟨_,EndsA,QFI,?_⟩|refine fin ?_)|(refine jn ?_;(try intro F);(first|(refine bx ?_;intro j)|(apply Zam;exact PuA));refine⟨_,EndsA,QFI,?_⟩))
  refine Zah [(0,.slice A l.length c),(1,.int .i64 n),(4,.pointer (some ⟨S,0,none⟩)),(6,.pointer (some ⟨b6,0,none⟩)),(8,.int .i64 k),(10,.int .i64 e)] [.blk S [.int .i64 0,.int .i64 0,.int .i64 0] 91]
   (fun g:RnG=>[(11,.int .i64 g.y),(7,.bool g.b.isSome)]) (fun g=>[.blk b6 (evC g.b) 91]) (fun g=>Q<=g.y/\(g.y<=e+1\/g.y=Q)/\raI L n _ k g.y (e+1 - g.y).toNat g.b=B1) (fun g=>(e+1 - g.y).toNat) ⟨Q,b⟩ SFA SOA ⟨Int.le_refl _,.inr rfl,u⟩ ?_
  clear u
  rintro⟨y,b⟩ ⟨hy0,hy1,d⟩
  dsimp only at hy0 hy1 d ⊢
  repeat (first|refine walk ?_|(refine jn ?_;(try intro F);((refine bx ?_;intro j));refine fin ?_))
  refine Zaf rfl (fun z=>?_) (fun z=>?_)
  ·have Y:=of_decide_eq_true z
   rw[show(e+1 - y).toNat=(e+1 - (y+1)).toNat+1 by omega,W]at d
   have H:=K y
   generalize on y=o at *
   have U:=fun p q w'=>Zju p q w'
   rcases o with _|⟨xy,xr,xn⟩
   ·simp only[evV,Zab.enc,dEv0,Option.isSome]at H
    repeat (first|refine und ?_|refine walk ?_|(refine jg ?_;(try intro F);(first|(refine Zac H ?_)|(refine bx ?_;intro j));refine fin ?_))
    exact⟨⟨y+1,b⟩,OA,⟨by dsimp only;omega,.inl (by dsimp only;omega),d⟩,SFA,SOA⟩
   ·simp only[evV,Zab.enc,Option.isSome]at H
    by_cases T:n<xn
    ·have b1:decide (n<xn)=true:=decide_eq_true T
     rw[Zxd T]at d
     rcases b with _|⟨by_,br,bn⟩
     ·replace d:raI L n _ k (y+1) (e+1 - (y+1)).toNat (some ⟨xy,xr,xn⟩)=B1:=d
      simp only[evC,Zab.enc,dEv0,Option.isSome]
      repeat (first|refine und ?_|(apply RL_pu;rfl;exact Zqx)|refine walk1 ?_|(refine jg ?_;(try intro F);(first|(refine Zac H ?_)|(refine bx ?_;intro j));first|refine⟨_,EndsA,QFRhK0,?_⟩|refine fin ?_))
      exact⟨⟨y+1,some ⟨xy,xr,xn⟩⟩,OA,⟨by dsimp only;omega,.inl (by dsimp only;omega),d⟩,SFA,SOA⟩
     ·simp only[evC,Zab.enc,Option.isSome]
      have f:=fun w'=>U ⟨xy,xr,xn⟩ ⟨by_,br,bn⟩ w'
      cases hq:ltE ⟨xy,xr,xn⟩ ⟨by_,br,bn⟩ with
      | true =>
       rw[ZBr hq]at d
       rw[hq]at f
       simp only[Zab.enc]at f
       repeat (first|(apply RL_pu;rfl;exact Zqx)|refine walk1 ?_|(refine jg ?_;(try intro F);(first|(refine Zac H ?_)|(refine Zac (fun w' _=>f w') ?_)|(refine bx ?_;intro j));first|refine⟨_,EndsA,QFRhK0,?_⟩|refine fin ?_))
       exact⟨⟨y+1,some ⟨xy,xr,xn⟩⟩,OA,⟨by dsimp only;omega,.inl (by dsimp only;omega),d⟩,SFA,SOA⟩
      | false =>
       rw[ZtQ hq]at d
       rw[hq]at f
       simp only[Zab.enc]at f
       repeat (first|(apply RL_pu;rfl;exact Zqx)|refine walk1 ?_|(refine jg ?_;(try intro F);(first|(refine Zac H ?_)|(refine Zac (fun w' _=>f w') ?_)|(refine bx ?_;intro j));first|refine⟨_,EndsA,QFRhK0,?_⟩|refine fin ?_))
       exact⟨⟨y+1,some ⟨by_,br,bn⟩⟩,OA,⟨by dsimp only;omega,.inl (by dsimp only;omega),d⟩,SFA,SOA⟩
    ·have b1:decide (n<xn)=false:=decide_eq_false T
     rw[Zxc T]at d
     repeat (first|refine und ?_|(apply RL_pu;rfl;exact Zqx)|refine walk1 ?_|(refine jg ?_;(try intro F);(first|(refine Zac H ?_)|(refine bx ?_;intro j));first|refine⟨_,EndsA,QFRhK0,?_⟩|refine fin ?_))
     exact⟨⟨y+1,b⟩,OA,⟨by dsimp only;omega,.inl (by dsimp only;omega),d⟩,SFA,SOA⟩
  ·have Y:=of_decide_eq_false z
   rw[show(e+1 - y).toNat=0 by omega]at d
   obtain rfl:b=B1:=d
   repeat (first|refine walk ?_|(refine jn ?_;(try intro F);((refine bx ?_;intro j));refine fin ?_))
   exact⟨⟨k+1,b⟩,OA,⟨OA,s⟩,SFA,SOA⟩
 ·simp only[decide_eq_false_iff_not,Int.ofNat_lt]at I
  rw[List.drop_eq_nil_of_le (by omega),raGo]at s
  subst s
  rcases b with _|⟨by_,br,bn⟩ <;> simp only[evV,evC,Zab.enc,dEv0,Option.isSome]
  ·repeat (first|refine walk ?_|(refine jn ?_;(try intro F);((refine bx ?_;intro j));refine fin ?_))
   exact rtC
  ·repeat (first|refine walk ?_|(refine jn ?_;(try intro F);((refine bx ?_;intro j));refine fin ?_))
   exact rtC
end Go.Proofs.YtpipekfmecikmaaGreatDoor
namespace Go.Proofs.YtpipekfmecikmaaGreatDoor
open Go Go.RowKit Go.Wk
def Zf3 (l:List DRule)(off t:Int):Nat->Int->Option (Option Int)
 | 0,_=>none
 | k+1,n=>match Zbx l n with
  | none=>some none
  | some e=>if t<Zcx l e off then some (some (Zcx l e off)) else Zf3 l off t k e.nominal
def evtD (l:List DRule)(off t:Int):Option (Option Int):=Zf3 l off t 4 (t - 259200)
def minO (fin:Int):Option Int->Int
 | some u=>if u<fin then u else fin
 | none=>fin
def Zc4 (fin:Int)(o:Option Int):Option Int:=if 36028797018963968<minO fin o then none else some (minO fin o)
def Zwt (rs:List DRule)(l:List DEra)(t:Int):Int:=match ZfH rs l with
 | some r=>(Zc9 r t).1.fin
 | none=>0
def eAt (rs:List DRule)(l:List DEra)(t:Int):DEra:=l.getD (ZgJ rs l t) dE0
def nxD (rs:List DRule)(l:List DEra)(t:Int):Option Int:=Zc4 (Zwt rs l t) ((evtD (ruEr rs (eAt rs l t)) (eAt rs l t).off t).getD none)
def FstI (l:List DRule)(off t:Int):Option Int->Prop
 | some u=>t<u/\(∃ e,EvOf l e/\Zcx l e off=u)/\∀ f,EvOf l f->t<Zcx l f off->u<=Zcx l f off
 | none=>∀ f,EvOf l f->Zcx l f off<=t
theorem ZzQ (fin:Int)(o:Option Int):minO fin o=fin\/o=some (minO fin o):=by
 cases o with
 | none=>exact .inl rfl
 | some v =>
  unfold minO
  dsimp only
  split
  ·exact .inr rfl
  ·exact .inl rfl
section
variable {l:List DRule}(h:Zbb l)
include h
theorem Zbb.afterD_full {n:Int}(F : -39900000000000000<=n)(G:n<=39900000000000000){f:Zab}(m:EvOf l f)(s:n<f.nominal):∃ e,Zbx l n=some e/\e.nominal<=f.nominal:=by
 obtain⟨j,r,y,i,b⟩:=m
 have d:=h.rule r (List.mem_of_getElem? i)
 obtain⟨z,A⟩:=Zdu (t:=n) (by omega) (by omega)
 have a:=(Zbb.least h.rule).2
 obtain⟨B,C⟩:=ZfU a b
 have w:Zay n<=y+1:=Zco (by omega)
 have v:=Zhs b
 have u:=(ZaT b).2.2.1
 have o:=d.f0
 have p:=d.last.2.1
 have key:∃ (q:Nat) (g:Zab),q<20/\onR (Zae l) r (j:Int) (max (max r.from_ (-2000000000)) (Zay n - 2)+q)=some g/\n<g.nominal/\g.nominal<=f.nominal:=by
  by_cases I:y - max (max r.from_ (-2000000000)) (Zay n - 2)<20
  ·refine⟨(y - max (max r.from_ (-2000000000)) (Zay n - 2)).toNat,f,by omega,?_,s,Int.le_refl _⟩
   rw[show max (max r.from_ (-2000000000)) (Zay n - 2)+((y - max (max r.from_ (-2000000000)) (Zay n - 2)).toNat:Int)=y by omega]
   exact b
  ·obtain⟨g,c⟩:=d.onY (Zae l) (j:Int) (y:=max (max r.from_ (-2000000000)) (Zay n - 2)+10) (by omega) (by omega)
   refine⟨10,g,by omega,c,?_,Int.le_of_lt (Ze2 c b (by omega))⟩
   refine Int.not_le.1 fun H=>?_
   obtain⟨D,E⟩:=ZfU a c
   have:max (max r.from_ (-2000000000)) (Zay n - 2)+10<=Zay n+1:=Zco (by omega)
   omega
 obtain⟨q,g,g1,g2,g3,g4⟩:=key
 obtain⟨k,k1,k2⟩:=Ze6 (Zae l) n r (j:Int) 20 _ q g g1 g2 g3
 obtain⟨e,x,J⟩:=Zgh (Zae l) n (Zay n) l 0 none j r k i (by rw[Nat.zero_add];exact k1)
 exact⟨e,x,by omega⟩
theorem Zbb.inst_near {a:Int}(d : -54000<=a/\a<=54000)(e:Zab):e.nominal - 64800<=Zcx l e a/\Zcx l e a<=e.nominal+64800:=by
 have b:=(h.sv (h.bef e.nominal)).1
 have c:=Zbb.least h.rule
 unfold Zcx
 split
 ·omega
 ·split <;> omega
end
section
variable {l:List DRule}(h:Zbb l){off t:Int}(ho : -54000<=off/\off<=54000)
include h ho
theorem Zbb.evt_round {n:Int}(m : -39900000000000000<=n)(o:n<=39900000000000000)(p:∀ f,EvOf l f->t<Zcx l f off->n<f.nominal) :
  (Zbx l n=none/\FstI l off t none)\/∃ e,Zbx l n=some e/\EvOf l e/\n<e.nominal/\((t<Zcx l e off/\FstI l off t (some (Zcx l e off)))\/(Zcx l e off<=t/\∀ f,EvOf l f->t<Zcx l f off->e.nominal<f.nominal)):=by
 have near:=h.inst_near ho
 cases hb:Zbx l n with
 | none =>
  refine .inl ⟨rfl,fun f a=>Int.not_lt.1 fun c=>?_⟩
  obtain⟨e,g,_⟩:=h.afterD_full m o a (p f a c)
  rw[hb]at g
  cases g
 | some e =>
  obtain⟨i,q⟩:=ZiY hb
  have d:∀ f,EvOf l f->t<Zcx l f off->e.nominal<=f.nominal:=fun f a c=>by
   obtain⟨s,g,j⟩:=h.afterD_full m o a (p f a c)
   rw[hb]at g
   cases g
   exact j
  refine .inr ⟨e,rfl,i,q,?_⟩
  by_cases k:t<Zcx l e off
  ·refine .inl ⟨k,k,⟨e,i,rfl⟩,fun f a c=>?_⟩
   have r:=d f a c
   by_cases b:f=e
   ·subst b
    exact Int.le_refl _
   ·have u:=h.uniq a i b
    have:=near f
    have:=near e
    omega
  ·refine .inr ⟨by omega,fun f a c=>?_⟩
   have r:=d f a c
   by_cases b:f=e
   ·subst b
    exact absurd c k
   ·have:=h.uniq a i b
    omega
theorem Zbb.evt (g : -37000000000000000<=t)(i:t<=37000000000000000):∃ o,evtD l off t=some o/\FstI l off t o:=by
 have near:=h.inst_near ho
 have I1:∀ f,EvOf l f->t<Zcx l f off->t - 259200<f.nominal:=fun f _ a=>by have:=near f;omega
 unfold evtD
 rcases h.evt_round ho (t:=t) (n:=t - 259200) (by omega) (by omega) I1 with⟨a1,a2⟩|⟨e1,a1,a2,a3,⟨a4,a5⟩|⟨a4,a5⟩⟩
 ·exact⟨none,by rw[Zf3,a1],a2⟩
 ·exact⟨_,by rw[Zf3,a1];dsimp only;rw[if_pos a4],a5⟩
 have b:=near e1
 rw[Zf3,a1]
 dsimp only
 rw[if_neg (by omega)]
 rcases h.evt_round ho (t:=t) (n:=e1.nominal) (by omega) (by omega) a5 with⟨b1,b2⟩|⟨e2,b1,b2,b3,⟨b4,b5⟩|⟨b4,b5⟩⟩
 ·exact⟨none,by rw[Zf3,b1],b2⟩
 ·exact⟨_,by rw[Zf3,b1];dsimp only;rw[if_pos b4],b5⟩
 have c:=near e2
 have d:=h.uniq b2 a2 (fun a=>by rw[a]at b3;omega)
 rw[Zf3,b1]
 dsimp only
 rw[if_neg (by omega)]
 rcases h.evt_round ho (t:=t) (n:=e2.nominal) (by omega) (by omega) b5 with⟨c1,c2⟩|⟨e3,c1,c2,c3,⟨c4,c5⟩|⟨c4,c5⟩⟩
 ·exact⟨none,by rw[Zf3,c1],c2⟩
 ·exact⟨_,by rw[Zf3,c1];dsimp only;rw[if_pos c4],c5⟩
 exfalso
 have e:=h.uniq c2 b2 (fun a=>by rw[a]at c3;omega)
 have:=near e3
 omega
end
end Go.Proofs.YtpipekfmecikmaaGreatDoor
namespace Go.Wk
open Go Go.RowKit
structure WvG where
 k:Nat
 n:Int
end Go.Wk
namespace Go.Proofs.YtpipekfmecikmaaGreatDoor
open Go Go.RowKit Go.Wk
attribute [local irreducible] W RL Does Zaq Zai retQ Calls Pu Stp RD Qy Ay Zaj
theorem Zys {G:Prop}(h:G:=by(apply ZbF;rfl;rfl;exact e1)):G:=h
theorem Zb3 (t:Int)(w:World):Does Tryz.prog 62 [.int .i64 t] w (fun v O=>v = .bool (tOk t)/\O=[]):=by
 unfold tOk
 refine Zaa Tryz.func62 rfl rfl rfl rfl ?_
 by_cases h1 : -36028797018963968<=t
 ·have e1:decide (-36028797018963968<=t)=true:=decide_eq_true h1
  repeat (first|(apply RL_pu;rfl;exact Zys)|refine walk1 ?_)
  exact ret_1 _ [] (.tmp rfl) .nil ⟨by rw[e1];rfl,rfl⟩
 ·have e1:decide (-36028797018963968<=t)=false:=decide_eq_false h1
  repeat (first|(apply RL_pu;rfl;exact Zys)|refine walk1 ?_)
  exact ret_1 _ [] (.tmp rfl) .nil ⟨by rw[e1];rfl,rfl⟩
theorem Zz3 {l:List DRule}{e:Zab}(h:EvOf l e):0<=e.rule/\e.rule<l.length:=by
 obtain⟨j,r,y,a,b⟩:=h
 have c:=(ZaT b).2.1
 have:=(List.getElem?_eq_some_iff.1 a).1
 omega
theorem Zua {l:List DRule}(h:RsSm l)(n:Int):EvOk (Zbx l n):=ZgO _ _ _ (ZdG l h.r).2 l 0 none fun e a=>(by cases a)
def optV (o:Option Int):Value := .tuple #[.int .i64 (o.getD 0),.bool o.isSome]
theorem Zyr {G:Prop}(h:G:=by(apply Zat;rfl;rfl;exact d0)):G:=h
theorem ZmY (A:Option Addr)(c:Nat)(l:List DRule)(d t:Int)(o:Option Int)(w:World)(H:Glob w)(F:RdSl w A c DRule.enc 11 l)(h:RsSm l)(R : -1000000000<=d/\d<=1000000000)(S : -1000000000000000000<=t/\t<=1000000000000000000)(m:evtD l d t=some o) :
  Does Tryz.prog 108 [.slice A l.length c,.int .i64 d,.int .i64 t] w (fun v O=>v=optV o/\O=[]):=by
 have u:=fun w'=>ZpE t 259200 (by omega) (by omega) w'
 have z:RsOk l:=fun r m=>⟨h.r r m,h.f r m⟩
 have B:=fun n (N : -4611686018427387904<=n/\n<=4611686018427387904) w' (x:Bel w.heap.size w w')=>Zki A c l n w' (H.up x) (F.up x) h.n z N
 unfold evtD at m
 unfold optV
 refine Zaa Tryz.func108 rfl rfl rfl rfl ?_
 repeat (first|(refine js ?_;((refine Zac (fun w' _=>u w') ?_)))|refine walk ?_)
 refine Zah [(0,.slice A l.length c),(1,.int .i64 d),(2,.int .i64 t),(9,.bool true)] [] (fun g:WvG=>[(8,.int .i64 g.n)]) (fun _=>[]) (fun g=>(-4611686018427387904<=g.n/\g.n<=4611686018427387904)/\Zf3 l d t g.k g.n=some o) (fun g=>g.k) ⟨4,t - 259200⟩ SFA SOA ⟨by dsimp only;omega,m⟩ ?_
 clear m
 rintro⟨k,n⟩ ⟨hn,hi⟩
 dsimp only at hn hi ⊢
 rcases k with _|k
 ·cases hi
 rw[Zf3]at hi
 have i:=B n hn
 have q:=Zua h n
 have s:=fun e (Q:Zbx l n=some e)=>ZiY Q
 cases hq:Zbx l n with
 | none =>
  rw[hq]at i hi
  cases hi
  simp only[evV,Zab.enc,dEv0,Option.isSome]at i
  repeat (first|(refine js ?_;(first|(refine Zac i ?_)|(refine bx ?_;intro C)))|refine walk ?_)
  exact rtB
 | some e =>
  rw[hq]at i hi
  obtain⟨I,J⟩:=s e hq
  have D:=Zz3 I
  have K:=q e hq
  have j:=fun w' (x:Bel w.heap.size w w')=>ZmD A c l e d w' (H.up x) (F.up x) h D (by omega) R
  clear q s
  dsimp only at hi
  obtain⟨M,L,E⟩:=e
  simp only[evV,Zab.enc,Option.isSome]at i j
  dsimp only at J D K
  generalize Zcx l ⟨M,L,E⟩ d=T at *
  by_cases y:t<T
  ·rw[if_pos y]at hi
   cases hi
   have d0:decide (t<T)=true:=decide_eq_true y
   repeat (first|(apply RL_pu;rfl;exact Zyr)|(refine js ?_;(first|(refine Zac i ?_)|(refine Zac j ?_)|(refine bx ?_;intro C)))|refine walk1 ?_)
   exact rtB
  ·rw[if_neg y]at hi
   have d0:decide (t<T)=false:=decide_eq_false y
   repeat (first|(apply RL_pu;rfl;exact Zyr)|(refine js ?_;(first|(refine Zac i ?_)|(refine Zac j ?_)|(refine bx ?_;intro C)))|refine walk1 ?_)
   exact⟨⟨k,E⟩,OA,⟨by dsimp only;omega,hi⟩,SFA,SOA⟩
def stW (e:DEra)(l:List DRule)(t:Int):Int × ByteArray:=if e.kind=1 then (e.save,ByteArray.empty) else if e.kind=2 then atS l e.off t else (0,ByteArray.empty)
theorem Zmx (e:DEra)(A:Option Addr)(c:Nat)(l:List DRule)(t:Int)(w:World)(K:LibW w)(J:Glob w)(I:RdSl w A c DRule.enc 11 l)(N:0<=e.kind/\e.kind<=2)(F : -1000000000<=e.off/\e.off<=1000000000)(M:e.format.size<=1000000000)(L:e.kind=2->RsSm l)(Q : -1000000000000000000<=t/\t<=1000000000000000000)
  (hx : -1000000000<=(stW e l t).1/\(stW e l t).1<=1000000000) (u:(stW e l t).2.size<=1000000000) (b:abE e (stW e l t)=0) :
  Does Tryz.prog 111 [.agg e.enc.toArray,.slice A l.length c,.int .i64 t] w (fun v O=>v = .tuple #[.agg (Zid e (stW e l t)).enc.toArray,.int .i64 0]/\O=[]):=by
 have a:=fun w' (r:Bel w.heap.size w w')=>ZgH e.format (stW e l t).2 e.off (stW e l t).1 w' (K.up r) M u (by unfold I64;omega) (by unfold I64;omega)
 have d:=fun w' (r:Bel w.heap.size w w') (H:e.kind=2)=>Zsl A c l e.off t w' (J.up r) (I.up r) (L H) F Q
 unfold abE at b
 unfold xpV at a
 rw[b]at a
 unfold Zid
 change ∀ w',Bel w.heap.size w w'->Does _ _ _ w' (fun v O=>v = .tuple #[.string (ZAp e (stW e l t).1 (stW e l t).2),.int .i64 0]/\O=[]) at a
 clear b
 obtain⟨C,b⟩:∃ C,ZAp e (stW e l t).1 (stW e l t).2=C:=⟨_,rfl⟩
 rw[b]at a ⊢
 clear b
 unfold stW at hx a ⊢
 have E:e.kind=0\/e.kind=1\/e.kind=2:=by omega
 generalize atS l e.off t=x at *
 obtain⟨off,R,g,f,s,⟨y,B,z,⟨m,p,q⟩,⟨i,j⟩⟩⟩:=e
 obtain⟨xs,S⟩:=x
 dsimp only at E N F hx a d ⊢
 unfold stV at d
 simp only[Zaw.enc]
 rcases E with rfl|rfl|rfl
 ·rw[if_neg (by decide),if_neg (by decide)]at hx a
  rw[if_neg (by decide),if_neg (by decide)]
  dsimp only at hx a ⊢
  show Does _ _ [.agg #[.int .i64 off,.int .i64 0,.int .i64 g,.string f,.string s,.bool y,.int .i64 B,.int .i64 z,.int .i64 m,.int .i64 p,.int .i64 q,.int .i64 i,.int .i64 j],_,_] w _
  refine Zaa Tryz.func111 rfl rfl rfl rfl ?_
  repeat (first|(refine js ?_;(first|(refine Zac a ?_)|(refine bx ?_;intro D)))|refine walk ?_)
  exact rtC
 ·rw[if_pos rfl]at hx a
  rw[if_pos rfl]
  dsimp only at hx a ⊢
  show Does _ _ [.agg #[.int .i64 off,.int .i64 1,.int .i64 g,.string f,.string s,.bool y,.int .i64 B,.int .i64 z,.int .i64 m,.int .i64 p,.int .i64 q,.int .i64 i,.int .i64 j],_,_] w _
  refine Zaa Tryz.func111 rfl rfl rfl rfl ?_
  repeat (first|(refine js ?_;(first|(refine Zac a ?_)|(refine bx ?_;intro D)))|refine walk ?_)
  exact rtC
 ·rw[if_neg (by decide),if_pos rfl]at hx a
  rw[if_neg (by decide),if_pos rfl]
  dsimp only at hx a ⊢
  replace d:=fun w' r=>d w' r rfl
  show Does _ _ [.agg #[.int .i64 off,.int .i64 2,.int .i64 g,.string f,.string s,.bool y,.int .i64 B,.int .i64 z,.int .i64 m,.int .i64 p,.int .i64 q,.int .i64 i,.int .i64 j],_,_] w _
  refine Zaa Tryz.func111 rfl rfl rfl rfl ?_
  repeat (first|(refine js ?_;(first|(refine Zac a ?_)|(refine Zac d ?_)|(refine bx ?_;intro D)))|refine walk ?_)
  exact rtC
end Go.Proofs.YtpipekfmecikmaaGreatDoor
