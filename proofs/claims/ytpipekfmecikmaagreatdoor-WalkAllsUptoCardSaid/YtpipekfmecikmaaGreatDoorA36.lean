/- Parts of the proof. -/
import Derived.Test.YtpipekfmecikmaaGreatDoorA35
set_option maxHeartbeats 0
set_option linter.all false
namespace Go.Proofs.YtpipekfmecikmaaGreatDoor
open Go Go.RowKit Go.Wk Tryz
attribute [local irreducible] W RL Does Zaq Zai retQ Calls Pu Stp RD Qy Ay Zaj
def Zfo (H:List EvH)(w:World):Prop:=∀ h∈H,RdSl w h.A h.c Zac.enc 3 h.l
def ZCm (Y:Nat->List Zac)(N:Nat)(v:Value)(O:List It):Prop:=∃ (b:Nat) (H:List EvH) (S:Nat->Prop),v = .slice (some ⟨b,0,none⟩) N N/\H.length=N/\(∀ q,q<N->∃ h:EvH,H[q]?=some h/\h.l=Y q) /\
 O=[.row (.slice (some ⟨b,0,none⟩) N N) 252 1 N (H.flatMap EvH.enc),.fact S (Zfo H)]
theorem Zoj (A:Option Addr)(c:Nat)(l:List DRule)(w:World)(g:RdSl w A c DRule.enc 11 l)(m:l.length<=1000000) :
  Does prog 247 [.slice A l.length c] w (ZCm (Zde l) 701) :=
 (Zrm A c l w g m).monoH fun v O base w' i h=>by
  obtain⟨b,a,rfl,k,d,rfl⟩:=i
  refine⟨_,⟨b,a.reverse,foot (a.map EvH.row),rfl,by rw[List.length_reverse];exact k,d,rfl⟩,?_⟩
  have e:Zaz base (a.map EvH.row++[.row (.slice (some ⟨b,0,none⟩) 701 701) 252 1 701 (a.reverse.flatMap EvH.enc)]) w':=h.perm (List.perm_append_comm (l₁:=[_]))
  have f:=e.fact (p:=Zfo a.reverse) (fun n j q d=>ZaJ Zac.len (j (EvH.row q) (List.mem_map.2 ⟨q,List.mem_reverse.1 d,rfl⟩)))
  exact f.perm (List.perm_append_comm (l₁:=[_]) (l₂:=[_]))
structure CapG where
 k:Nat
 o:Option Zac
theorem Zvq {G:Prop}(h:G:=by(first|(apply ZaG;rfl;rfl;omega;omega;(intro w' _ hO;exact Option.some_ne_none _))|(apply ZcU;rfl;(focus repeat' constructor);first|exact hx0|exact hx1|exact hx2 (by omega)))):G:=h
theorem ZDe {G:Prop}(h:G:=by(first|exact Zvq|(apply Zav;rfl;rfl;exact bd1)|(apply Zau;rfl;rfl;exact bd2))):G:=h
theorem ZCw {G:Prop}(h:G:=by first|(apply Qy_y;rfl;exact ZDe)|exact QyA):G:=h
theorem ZyO {G:Prop}(h:G:=by repeat (exact QF.nil)):G:=h
theorem ZxD {G G':Prop}(k:G')(h:Hold G'->G:=by intro k9;(first|(apply RD_Q;rfl;rfl;decide +kernel;rfl;rfl;exact ZCw)|refine walk1 ?_|(refine jg ?_;(try intro F);(first|(refine ZaH (fun w' hw hO=>hc0 w' (Zbj (S:=S) (hO.of (A := .fact S (Zfo H)) cS_))) ?_)|(refine ZaH (fun w' hw hO=>hc1 w' (Zbj (S:=S) (hO.of (A := .fact S (Zfo H)) cS_))) ?_)|(refine ZaH (fun w' hw hO=>hc2e w' (Zbj (S:=S) (hO.of (A := .fact S (Zfo H)) cS_))) ?_));first|refine⟨_,EndsA,ZyO,?_⟩|refine fin ?_)|(refine jn ?_;(try intro F);(first|(refine stA ?_)|(apply Zan;exact PuA));first|refine⟨_,EndsA,ZyO,?_⟩|refine fin ?_));exact k9.out):G:=h ⟨k⟩
set_option maxRecDepth 20000 in
set_option maxHeartbeats 0 in
theorem rapS:RapS:=by
 intro A c l w hA hn _
 obtain⟨N,hN⟩:∃ N:Nat,N=701:=⟨_,rfl⟩
 have ak:∀ w',Bel w.heap.size w w'->Does prog 247 [.slice A l.length c] w' (ZCm (Zde l) N):=fun w' hw=>by
  rw[hN]
  exact Zoj A c l w' (hA.up hw) hn
 have hok:=fun q:Nat=>ZkI (Zae l) (1850+(q:Int)) (ZcY l) l 0
 change ∀ q:Nat,(Zde l q).length<=l.length/\∀ e∈Zde l q,ZlO e at hok
 rw[<- ZAQ]
 unfold capD
 rw[<- hN]
 generalize Zde l=Y at *
 obtain⟨M,y⟩:∃ M,capJ Y N N 0 none=M:=⟨_,rfl⟩
 rw[y]
 refine Zaa func191 rfl rfl rfl rfl ?_
 repeat (first|refine walk ?_|(refine jg ?_;(try intro F);(first|(apply Zad (h:=fun w' hw _=>ak w' hw);rfl;rintro v O' ⟨b,H,S,rfl,ao,hH,rfl⟩)|(refine bx ?_;intro bk));refine fin ?_))
 rename_i b2
 obtain⟨Q,ab⟩:∃ Q,bk=Q:=⟨_,rfl⟩
 rw[ab]
 clear ab bk
 refine Zah [(2,.pointer (some ⟨b2,0,none⟩)),(4,.slice (some ⟨b,0,none⟩) N N),(5,.pointer (some ⟨Q,0,none⟩))] [.row (.slice (some ⟨b,0,none⟩) N N) 252 1 N (H.flatMap EvH.enc),.fact S (Zfo H),.blk b2 [.int .i64 0,.int .i64 0,.int .i64 0] 91] (fun g:CapG=>[(6,.bool g.o.isSome),(7,.int .i64 g.k)]) (fun g=>[.blk Q (evC g.o) 91])
  (fun g=>g.k<=N/\capJ Y N (N - g.k) g.k g.o=M) (fun g=>N - g.k) ⟨0,none⟩ SFA SOA ⟨Nat.zero_le _,y⟩ ?_
 clear y
 rintro⟨k,o⟩ ⟨hk,hi⟩
 dsimp only at hk hi ⊢
 repeat (refine walk ?_)
 refine Zaf rfl (fun hc=>?_) (fun hc=>?_)
 ·simp only[decide_eq_true_eq,Int.ofNat_lt]at hc
  obtain⟨⟨s,T,z⟩,ag,K⟩:=hH k hc
  dsimp only at K
  have t:=hok k
  rw[<- K]at t
  have u:∀ w',Zfo H w'->RdSl w' s T Zac.enc 3 z:=fun w' j=>j _ (List.mem_of_getElem? ag)
  have hx0:(H.flatMap EvH.enc)[k*1]?=some (.slice s z.length T):=ZaD EvH.len H k _ 0 _ ag rfl
  rw[show N - k=(N - k - 1)+1 by omega,capJ,<- K]at hi
  have ap:(z.length:Int)<=1000000:=by omega
  repeat (first|(apply RL_pu;rfl;exact Zvq)|refine walk1 ?_)
  refine Zah [(2,.pointer (some ⟨b2,0,none⟩)),(4,.slice (some ⟨b,0,none⟩) N N),(5,.pointer (some ⟨Q,0,none⟩)),(7,.int .i64 k)] [.row (.slice (some ⟨b,0,none⟩) N N) 252 1 N (H.flatMap EvH.enc),.fact S (Zfo H),.blk b2 [.int .i64 0,.int .i64 0,.int .i64 0] 91] (fun g:CapG=>[(6,.bool g.o.isSome),(8,.int .i64 g.k)]) (fun g=>[.blk Q (evC g.o) 91])
   (fun g=>g.k<=z.length/\capJ Y N (N - k - 1) (k+1) (capI (ZmA Y N k) (z.drop g.k) g.o)=M) (fun g=>z.length - g.k) ⟨0,o⟩ SFA SOA ⟨Nat.zero_le _,hi⟩ ?_
  clear hi o
  rintro⟨i,o⟩ ⟨hil,hi⟩
  dsimp only at hil hi ⊢
  repeat (first|(apply RL_pu;rfl;exact Zvq)|refine walk1 ?_)
  refine Zaf rfl (fun r=>?_) (fun r=>?_)
  ·simp only[decide_eq_true_eq,Int.ofNat_lt]at r
   rw[Zag r,capI]at hi
   have af:=List.getElem?_eq_getElem r
   have aa:=t.2 _ (List.getElem_mem r)
   generalize z[i]=e at *
   have al:∀ w',Zfo H w'->s≠none:=fun w' j=>((u w' j).rd i e af).1
   have ac:∀ w',Zfo H w'->Zat w' ((adr s).add (i*3)) (Zac.enc e):=fun w' j=>((u w' j).rd i e af).2
   have hc0:=fun w' j=>Zia e s T z w' (u w' j) (by omega) aa t.2
   have X:=fun b w'=>Zmk e b w'
   have W:∀ q,q<N->∃ h:EvH,(H.flatMap EvH.enc)[q*1]?=some (.slice h.A (Y q).length h.c)/\∀ w',Zfo H w'->Does prog 248 [.agg e.enc.toArray,.slice h.A (Y q).length h.c] w' (fun v O=>v = .bool (ZcB e (Y q))/\O=[]):=fun q hq=>by
    obtain⟨h,h1,U⟩:=hH q hq
    refine⟨h,?_,fun w' j=>?_⟩
    ·rw[<- U];exact ZaD EvH.len H q h 0 _ h1 rfl
    ·rw[<- U]
     have L:=hok q
     rw[<- U]at L
     exact Zia e h.A h.c h.l w' (j h (List.mem_of_getElem? h1)) (by omega) aa L.2
   have ai:ZmA Y N k e=(ZcB e z||(decide (0<k)&&ZcB e (Y (k - 1)))||(decide (k+1<N)&&ZcB e (Y (k+1)))):=by rw[K];rfl
   obtain⟨q2,L,aj⟩:∃ q2,q2<N/\(k+1<N->q2=k+1):=by
    by_cases h:k+1<N
    ·exact⟨k+1,h,fun _=>rfl⟩
    ·exact⟨k,hc,fun j=>absurd j h⟩
   obtain⟨A1,am,m1,E,hx1,hc1,ad⟩:∃ (A:Option Addr) (c m:Nat) (cb:Bool),(H.flatMap EvH.enc)[((k:Int) - 1).toNat*1]?=some (.slice A m c)/\(∀ w',Zfo H w'->Does prog 248 [.agg e.enc.toArray,.slice A m c] w' (fun v O=>v = .bool cb/\O=[]))/\ZcB e (Y (k - 1))=cb:=by
    obtain⟨h,h1,U⟩:=W (k - 1) (by omega)
    exact⟨h.A,h.c,_,_,by rw[show((k:Int) - 1).toNat=k - 1 by omega];exact h1,U,rfl⟩
   obtain⟨A2,an,m2,I,hx2,hc2e,ae⟩:∃ (A:Option Addr) (c m:Nat) (cb:Bool),(k+1<N->(H.flatMap EvH.enc)[((k:Int)+1).toNat*1]?=some (.slice A m c))/\(∀ w',Zfo H w'->Does prog 248 [.agg e.enc.toArray,.slice A m c] w' (fun v O=>v = .bool cb/\O=[]))/\ZcB e (Y q2)=cb:=by
    obtain⟨h,h1,U⟩:=W q2 L
    exact⟨h.A,h.c,_,_,fun j=>by rw[show((k:Int)+1).toNat=q2 by rw[aj j];omega];exact h1,U,rfl⟩
   clear W
   obtain⟨D1,bd1⟩:∃ D,decide ((0:Int)<(k:Int))=D:=⟨_,rfl⟩
   obtain⟨D2,bd2⟩:∃ D,decide ((k:Int)+1<(N:Int))=D:=⟨_,rfl⟩
   obtain⟨f,Z⟩:∃ f,ZcB e z=f:=⟨_,rfl⟩
   have R:ZmA Y N k e=(f||(D1&&E)||(D2&&I)):=by
    rw[ai,Z,ad,show decide (0<k)=D1 by rw[<- bd1];exact decide_eq_decide.2 (by omega),show decide (k+1<N)=D2 by rw[<- bd2];exact decide_eq_decide.2 (by omega)]
    cases D2 with
    | false=>rfl
    | true=>rw[<- aj (by have:=of_decide_eq_true bd2;omega),ae]
   rw[R]at hi
   rw[Z]at hc0
   clear ai R Z ad ae
   have hd:((f||(D1&&E)||(D2&&I))=true/\(f=true\/(f=false/\D1=true/\E=true)\/(f=false/\D1=true/\E=false/\D2=true/\I=true)\/(f=false/\D1=false/\D2=true/\I=true)))\/((f||(D1&&E)||(D2&&I))=false/\((f=false/\D1=true/\E=false/\D2=true/\I=false)\/(f=false/\D1=true/\E=false/\D2=false)\/(f=false/\D1=false/\D2=true/\I=false)\/(f=false/\D1=false/\D2=false))):=by
    cases f <;> cases E <;> cases I <;> cases D1 <;> cases D2 <;> simp
   obtain⟨ey,er,en⟩:=e
   simp only[Zac.enc]at ac hc0 hc1 hc2e X aa
   obtain⟨nb,d⟩:∃ nb,(f||(D1&&E)||(D2&&I))=nb:=⟨_,rfl⟩
   rw[d]at hi
   repeat refine ZAa ?_
   apply RL_pu
   ·rfl
   ·exact ZcU rfl (by(focus repeat' constructor)) hx0
   refine walk1 ?_
   apply RL_pu
   ·rfl
   ·apply ZaG
    ·rfl
    ·rfl
    ·omega
    ·omega
    ·intro w' _ hO
     exact al w' (Zbj (S:=S) (hO.of (A := .fact S (Zfo H)) cS_))
   apply RL_pu
   ·rfl
   ·apply ZgA (cs:=[.int .i64 ey,.int .i64 er,.int .i64 en])
    ·rfl
    ·rfl
    ·intro w' _ hO
     exact ac w' (Zbj (S:=S) (hO.of (A := .fact S (Zfo H)) cS_))
   repeat (first|refine ZAa ?_|(refine jn ?_;(try intro F);((refine bx ?_;intro bk));refine fin ?_))
   refine Zb4 (fun fr' O'=>Sub [(10,.bool nb),(6,.bool o.isSome),(8,.int .i64 i),(9,.pointer (some ⟨bk,0,none⟩)),(2,.pointer (some ⟨b2,0,none⟩)),(4,.slice (some ⟨b,0,none⟩) N N),(5,.pointer (some ⟨Q,0,none⟩)),(7,.int .i64 k)] fr'/\SubO [.blk bk [.int .i64 ey,.int .i64 er,.int .i64 en] 91,.blk Q (evC o) 91,.row (.slice (some ⟨b,0,none⟩) N N) 252 1 N (H.flatMap EvH.enc),.fact S (Zfo H),.blk b2 [.int .i64 0,.int .i64 0,.int .i64 0] 91] O') ?_ ?_
   ·clear hi X
    rcases hd with⟨hn1,hd⟩|⟨hn1,hd⟩
    ·rw[hn1]at d
     subst d
     clear hn1
     rcases hd with rfl|⟨rfl,rfl,rfl⟩|⟨rfl,rfl,rfl,rfl,rfl⟩|⟨rfl,rfl,rfl,rfl⟩
     all_goals
      try have d1:(0:Int)<(k:Int):=of_decide_eq_true bd1
      try have d2:(k:Int)+1<(N:Int):=of_decide_eq_true bd2
      repeat (refine ZxD ?_)
      exact⟨rfl,SFA,SOA⟩
    ·rw[hn1]at d
     subst d
     clear hn1
     rcases hd with⟨rfl,rfl,rfl,rfl,rfl⟩|⟨rfl,rfl,rfl,rfl⟩|⟨rfl,rfl,rfl,rfl⟩|⟨rfl,rfl,rfl⟩
     all_goals
      try have d1:(0:Int)<(k:Int):=of_decide_eq_true bd1
      try have d2:(k:Int)+1<(N:Int):=of_decide_eq_true bd2
      repeat (refine ZxD ?_)
      exact⟨rfl,SFA,SOA⟩
   clear hd d hc0 hc1 hc2e hx1 hx2 hx0 bd1 bd2
   rintro fr' O' ⟨hf,hO⟩
   apply thenQ_n
   refine ZcG hf hO ?_
   clear hf hO fr' O'
   cases nb with
   | false =>
    rw[Bool.false_and,if_neg (by decide)]at hi
    repeat (first|refine und ?_|refine walk ?_)
    exact⟨⟨i+1,o⟩,OA,⟨OA,hi⟩,SFA,SOA⟩
   | true =>
    rw[Bool.true_and]at hi
    cases o with
    | none =>
     simp only[befE,if_true]at hi
     simp only[evC,Option.isSome,Zac.enc,dEv0]
     repeat (first|refine und ?_|refine walk ?_)
     exact⟨⟨i+1,some ⟨ey,er,en⟩⟩,OA,⟨OA,hi⟩,SFA,SOA⟩
    | some x =>
     have J:=X x
     obtain⟨xy,xr,xn⟩:=x
     simp only[evC,Option.isSome,Zac.enc]at J ⊢
     obtain⟨lt,ah⟩:∃ lt,ltE ⟨ey,er,en⟩ ⟨xy,xr,xn⟩=lt:=⟨_,rfl⟩
     rw[show befE ⟨ey,er,en⟩ (some ⟨xy,xr,xn⟩)=lt from ah]at hi
     simp only[ah]at J
     cases lt with
     | false =>
      rw[if_neg (by decide)]at hi
      repeat (first|refine walk ?_|(refine jg ?_;(try intro F);((refine Zab (fun w' hw=>J w') ?_));refine fin ?_))
      exact⟨⟨i+1,some ⟨xy,xr,xn⟩⟩,OA,⟨OA,hi⟩,SFA,SOA⟩
     | true =>
      rw[if_pos rfl]at hi
      repeat (first|refine walk ?_|(refine jg ?_;(try intro F);((refine Zab (fun w' hw=>J w') ?_));refine fin ?_))
      exact⟨⟨i+1,some ⟨ey,er,en⟩⟩,OA,⟨OA,hi⟩,SFA,SOA⟩
  ·simp only[decide_eq_false_iff_not,Int.ofNat_lt]at r
   rw[List.drop_eq_nil_of_le (by omega),capI]at hi
   repeat (refine walk ?_)
   exact⟨⟨k+1,o⟩,OA,⟨OA,by dsimp only;rw[show N - (k+1)=N - k - 1 by omega];exact hi⟩,SFA,SOA⟩
 ·simp only[decide_eq_false_iff_not,Int.ofNat_lt]at hc
  obtain rfl:k=N:=by omega
  rw[Nat.sub_self,capJ]at hi
  subst hi
  cases o with
  | none =>
   simp only[evC,apV,Zac.enc,dEv0,Option.isSome]
   repeat (refine walk ?_)
   exact rtC
  | some e =>
   simp only[evC,apV,Zac.enc,Option.isSome]
   repeat (refine walk ?_)
   exact rtC
end Go.Proofs.YtpipekfmecikmaaGreatDoor
namespace Go.Proofs.YtpipekfmecikmaaGreatDoor
open Go Go.RowKit Go.Wk Tryz
theorem ZgT (L n y:Int):∀ (l:List DRule) (i:Nat),farI L n y l i=false↔∃ (j:Nat) (r:DRule) (e:Zac),l[j]?=some r/\onR L r ((i+j:Nat):Int) y=some e/\e.nominal<n+259200/\n - 259200<e.nominal
 | [],i=>by simp[farI]
 | r::l,i=>by
  have b:=ZgT L n y l (i+1)
  have c:(∃ (j:Nat) (r':DRule) (e:Zac),(r::l)[j]?=some r'/\onR L r' ((i+j:Nat):Int) y=some e/\e.nominal<n+259200/\n - 259200<e.nominal)↔(∃ e,onR L r (i:Int) y=some e/\e.nominal<n+259200/\n - 259200<e.nominal)\/(∃ (j:Nat) (r':DRule) (e:Zac),l[j]?=some r'/\onR L r' ((i+1+j:Nat):Int) y=some e/\e.nominal<n+259200/\n - 259200<e.nominal):=by
   constructor
   ·rintro⟨j,r',e,h1,h2,h3⟩
    cases j with
    | zero=>simp only[List.getElem?_cons_zero,Option.some.injEq]at h1;subst h1;exact .inl ⟨e,h2,h3⟩
    | succ j=>exact .inr ⟨j,r',e,by simpa using h1,by rw[show i+1+j=i+(j+1) by omega];exact h2,h3⟩
   ·rintro(⟨e,h⟩|⟨j,r',e,h1,h2,h3⟩)
    ·exact⟨0,r,e,rfl,h⟩
    ·exact⟨j+1,r',e,by simpa using h1,by rw[show i+(j+1)=i+1+j by omega];exact h2,h3⟩
  rw[c,farI]
  cases he:onR L r (i:Int) y with
  | none=>simpa using b
  | some e =>
   dsimp only
   by_cases a:e.nominal<n+259200/\n - 259200<e.nominal
   ·rw[if_pos a]
    exact⟨fun _ => .inl ⟨e,rfl,a⟩,fun _=>rfl⟩
   ·rw[if_neg a,b]
    constructor
    ·exact .inr
    ·rintro(⟨e',h1,h2⟩|h)
     ·cases h1;exact absurd h2 a
     ·exact h
theorem Zj9 (L n:Int)(l:List DRule):∀ (k:Nat) (y:Int),farY L n l y k=false↔∃ q:Nat,q<k/\farI L n (y+q) l 0=false
 | 0,y=>by simp[farY]
 | k+1,y=>by
  rw[farY,Bool.and_eq_false_iff,Zj9 L n l k (y+1)]
  constructor
  ·rintro(h|⟨q,hq,h⟩)
   ·exact⟨0,by omega,by simpa using h⟩
   ·exact⟨q+1,by omega,by rw[show y+((q+1:Nat):Int)=y+1+q by omega];exact h⟩
  ·rintro⟨q,hq,h⟩
   cases q with
   | zero=>left;simpa using h
   | succ q=>exact .inr ⟨q,by omega,by rw[show y+1+(q:Int)=y+((q+1:Nat):Int) by omega];exact h⟩
theorem Zka (least nominal:Int)(r:DRule)(i:Int):∀ (k:Nat) (y:Int) (e:Zac),evIn least nominal r i y k=some e->∃ q:Nat,onR least r i (y+q)=some e/\nominal<e.nominal
 | 0,_,_,h=>by cases h
 | k+1,y,e,h=>by
  rw[evIn]at h
  have b:=Zka least nominal r i k (y+1) e
  have lift:(∃ q:Nat,onR least r i (y+1+q)=some e/\nominal<e.nominal)->∃ q:Nat,onR least r i (y+q)=some e/\nominal<e.nominal:=by
   rintro⟨q,hq⟩
   exact⟨q+1,by rw[show y+((q+1:Nat):Int)=y+1+q by omega];exact hq⟩
  cases he:onR least r i y with
  | none=>rw[he]at h;exact lift (b h)
  | some e' =>
   rw[he]at h
   dsimp only at h
   by_cases a:nominal<e'.nominal
   ·rw[if_pos a]at h
    cases h
    exact⟨0,by simpa using he,a⟩
   ·rw[if_neg a]at h
    exact lift (b h)
theorem ZiO (least nominal:Int)(r:DRule)(i:Int):∀ (k:Nat) (y:Int) (q:Nat) (e:Zac),q<k->onR least r i (y+q)=some e->nominal<e.nominal->∃ a,evIn least nominal r i y k=some a/\a.nominal<=e.nominal
 | 0,_,_,_,h,_,_=>absurd h (by omega)
 | k+1,y,q,e,h,h1,h2=>by
  rw[evIn]
  cases he:onR least r i y with
  | none =>
   cases q with
   | zero=>rw[show y+((0:Nat):Int)=y by omega,he]at h1;cases h1
   | succ q=>exact ZiO least nominal r i k (y+1) q e (by omega) (by rw[show y+1+(q:Int)=y+((q+1:Nat):Int) by omega];exact h1) h2
  | some a =>
   dsimp only
   by_cases b:nominal<a.nominal
   ·rw[if_pos b]
    refine⟨a,rfl,?_⟩
    cases q with
    | zero=>rw[show y+((0:Nat):Int)=y by omega,he]at h1;cases h1;exact Int.le_refl _
    | succ q=>exact Int.le_of_lt (Zfc he h1 (by omega))
   ·rw[if_neg b]
    cases q with
    | zero=>rw[show y+((0:Nat):Int)=y by omega,he]at h1;cases h1;exact absurd h2 b
    | succ q=>exact ZiO least nominal r i k (y+1) q e (by omega) (by rw[show y+1+(q:Int)=y+((q+1:Nat):Int) by omega];exact h1) h2
theorem Zgt (least a c:Int):∀ (l:List DRule) (i:Nat) (b:Option Zac) (e:Zac),ZaY least a c l i b=some e->b=some e\/∃ (j:Nat) (r:DRule),l[j]?=some r/\evIn least a r ((i+j:Nat):Int) (max (max r.from_ (-2000000000)) (c - 2)) 20=some e
 | [],_,_,_,h => .inl h
 | r::l,i,b,e,h=>by
  rw[ZaY]at h
  rcases Zgt least a c l (i+1) _ e h with h1|⟨j,r',h1,h2⟩
  ·cases he:evIn least a r i (max (max r.from_ (-2000000000)) (c - 2)) 20 with
   | none=>rw[he]at h1;exact .inl h1
   | some e' =>
    rw[he]at h1
    have d:∀ x,e'=x->∃ (j:Nat) (r':DRule),(r::l)[j]?=some r'/\evIn least a r' ((i+j:Nat):Int) (max (max r'.from_ (-2000000000)) (c - 2)) 20=some x:=fun x f=>⟨0,r,rfl,by rw[<- f];exact he⟩
    cases b with
    | none=>cases h1;exact .inr (d _ rfl)
    | some b =>
     dsimp only at h1
     split at h1
     ·cases h1;exact .inr (d _ rfl)
     ·exact .inl h1
  ·exact .inr ⟨j+1,r',by simpa using h1,by rw[show i+(j+1)=i+1+j by omega];exact h2⟩
theorem ZcZ (least nominal c:Int):∀ (l:List DRule) (i:Nat) (b:Zac),∃ e,ZaY least nominal c l i (some b)=some e/\e.nominal<=b.nominal
 | [],_,b=>⟨b,rfl,Int.le_refl _⟩
 | r::l,i,b=>by
  rw[ZaY]
  cases he:evIn least nominal r i (max (max r.from_ (-2000000000)) (c - 2)) 20 with
  | none=>exact ZcZ least nominal c l (i+1) b
  | some e' =>
   dsimp only
   split
   ·rename_i a
    obtain⟨e,d,f⟩:=ZcZ least nominal c l (i+1) e'
    have:e'.nominal<=b.nominal:=by
     unfold ordE at a
     split at a
     ·omega
     ·split at a
      ·omega
      ·omega
    exact⟨e,d,by omega⟩
   ·exact ZcZ least nominal c l (i+1) b
theorem Zhv (least nominal d:Int):∀ (l:List DRule) (i:Nat) (b:Option Zac) (j:Nat) (r:DRule) (a:Zac),l[j]?=some r->evIn least nominal r ((i+j:Nat):Int) (max (max r.from_ (-2000000000)) (d - 2)) 20=some a->∃ e,ZaY least nominal d l i b=some e/\e.nominal<=a.nominal
 | [],_,_,_,_,_,h,_=>by simp at h
 | r0::l,i,b,0,r,a,h,h2=>by
  simp only[List.getElem?_cons_zero,Option.some.injEq]at h
  subst h
  rw[ZaY,show evIn least nominal r0 (i:Int) (max (max r0.from_ (-2000000000)) (d - 2)) 20=some a from h2]
  cases b with
  | none=>exact ZcZ least nominal d l (i+1) a
  | some b =>
   dsimp only
   split
   ·exact ZcZ least nominal d l (i+1) a
   ·rename_i c
    obtain⟨e,g1,g2⟩:=ZcZ least nominal d l (i+1) b
    refine⟨e,g1,?_⟩
    unfold ordE at c
    split at c
    ·omega
    ·split at c <;> omega
 | r0::l,i,b,j+1,r,a,h,h2=>by
  rw[ZaY]
  exact Zhv least nominal d l (i+1) _ j r a (by simpa using h) (by rw[show i+1+j=i+(j+1) by omega];exact h2)
theorem farS:FarS:=by
 intro l n v
 have i:=ZcY l
 have w:=ZdA (t:=n) (by omega) (by omega)
 have x:=ZdA (t:=n - 259200) (by omega) (by omega)
 have m:Zay (n - 259200)<=Zay n+1:=Zcv (by omega)
 have o:Zay n<=Zay (n - 259200)+1:=Zcv (by omega)
 have f:farR l n=false↔∃ (y:Int) (j:Nat) (r:DRule) (e:Zac),Zay n - 1<=y/\y<=Zay n+1/\l[j]?=some r/\onR (Zae l) r (j:Int) y=some e/\e.nominal<n+259200/\n - 259200<e.nominal:=by
  unfold farR
  rw[Zj9]
  constructor
  ·rintro⟨q,hq,h⟩
   obtain⟨j,r,e,g1,g2,g3⟩:=(ZgT _ _ _ _ _).1 h
   rw[Nat.zero_add]at g2
   exact⟨_,j,r,e,by omega,by omega,g1,g2,g3⟩
  ·rintro⟨y,j,r,e,a1,a2,g1,g2,g3⟩
   refine⟨(y - (Zay n - 1)).toNat,by omega,(ZgT _ _ _ _ _).2 ⟨j,r,e,g1,?_,g3⟩⟩
   rw[Nat.zero_add,show Zay n - 1+((y - (Zay n - 1)).toNat:Int)=y by omega]
   exact g2
 have g:farD l n=false↔∃ e,ZbC l (n - 259200)=some e/\e.nominal<n+259200:=by
  unfold farD
  cases h:ZbC l (n - 259200) with
  | none=>simp
  | some e =>
   simp only[decide_eq_false_iff_not,Option.some.injEq,exists_eq_left']
   omega
 have b:farD l n=false↔farR l n=false:=by
  rw[f,g]
  constructor
  ·rintro⟨e,he,hlt⟩
   unfold ZbC at he
   rcases Zgt _ _ _ _ _ _ _ he with h|⟨j,r,g1,g2⟩
   ·cases h
   rw[Nat.zero_add]at g2
   obtain⟨q,g3,g4⟩:=Zka _ _ _ _ _ _ _ g2
   have a:=Zf9 i g3
   generalize max (max r.from_ (-2000000000)) (Zay (n - 259200) - 2)+(q:Int)=y at *
   have s:y<=Zay n+1:=Zcv (by omega)
   have u:Zay n<=y+1:=Zcv (by omega)
   exact⟨y,j,r,e,by omega,by omega,g1,g3,hlt,g4⟩
  ·rintro⟨y,j,r,e,a1,a2,g1,g2,g3,g4⟩
   obtain⟨_,_,A,_⟩:=ZaT g2
   have k:max (max r.from_ (-2000000000)) (Zay (n - 259200) - 2)<=y:=by omega
   obtain⟨c,k1,k2⟩:=ZiO (Zae l) (n - 259200) r (j:Int) 20 (max (max r.from_ (-2000000000)) (Zay (n - 259200) - 2)) (y - max (max r.from_ (-2000000000)) (Zay (n - 259200) - 2)).toNat e (by omega) (by rw[show max (max r.from_ (-2000000000)) (Zay (n - 259200) - 2)+((y - max (max r.from_ (-2000000000)) (Zay (n - 259200) - 2)).toNat:Int)=y by omega];exact g2) g4
   obtain⟨d,p,z⟩:=Zhv (Zae l) (n - 259200) (Zay (n - 259200)) l 0 none j r c g1 (by rw[Nat.zero_add];exact k1)
   exact⟨d,p,by omega⟩
 cases ha:farD l n <;> cases a:farR l n
 ·rfl
 ·rw[b.1 ha]at a;cases a
 ·rw[b.2 a]at ha;cases ha
 ·rfl
attribute [local irreducible] W RL Does Zaq Zai retQ Calls Pu Stp RD Qy Ay Zaj
theorem ZBF:ZBa:=fun Ar Az Al As e f d cs a z Ae c w g h j k b l i=>Zoi Ar Az Al As e f d cs a z Ae c w g h j k b l i
theorem ZBI {w:World}{Ar Az Al As:Option Addr}{c d b cs:Nat}{a:DSource}(h:Zdc w Ar Az Al As c d b cs a):Does prog 85 [srcV Ar Az Al As c d b cs a] w (fun v O=>v=ptV (accD a)/\O=[]) :=
 Zol Ar Az Al As c d b cs a w rapS farS ZBF h.A h.S h.V h.Z
theorem ZmY (s:DSource):∀ (f:Nat) (a:List ByteArray) (x:ByteArray),(ZaI s f a x).2≠11->ZaI s f a x=ZeS s f x
 | 0,_,_,h=>absurd rfl h
 | f+1,a,x,h=>by
  rw[ZaI]at h ⊢
  rw[ZeS]
  cases hz:ZaK x s.zones 0 with
  | some i=>rfl
  | none =>
   rw[hz]at h
   dsimp only at h ⊢
   cases hl:ZaO x s.links 0 with
   | none=>rfl
   | some i =>
    rw[hl]at h
    dsimp only at h ⊢
    by_cases b:memB x a=true
    ·rw[if_pos b]at h;exact absurd rfl h
    ·rw[if_neg b]at h ⊢
     exact ZmY s f _ _ h
theorem ZmZ (s:DSource):∀ (f:Nat) (a:List ByteArray) (x:ByteArray),(ZaI s f a x).2=11->ZaI s f a x=(0,11)
 | 0,_,_,_=>rfl
 | f+1,a,x,h=>by
  rw[ZaI]at h ⊢
  cases hz:ZaK x s.zones 0 with
  | some i=>rw[hz]at h;cases h
  | none =>
   rw[hz]at h
   dsimp only at h ⊢
   cases hl:ZaO x s.links 0 with
   | none=>rw[hl]at h;cases h
   | some i =>
    rw[hl]at h
    dsimp only at h ⊢
    by_cases b:memB x a=true
    ·rw[if_pos b]
    ·rw[if_neg b]at h ⊢
     exact ZmZ s f _ _ h
theorem ZtU (s:DSource):∀ (f:Nat) (x:ByteArray),(ZeS s f x).2=11->ZeS s f x=(0,11)
 | 0,_,_=>rfl
 | f+1,x,h=>by
  rw[ZeS]at h ⊢
  cases hz:ZaK x s.zones 0 with
  | some i=>rw[hz]at h;cases h
  | none =>
   rw[hz]at h
   dsimp only at h ⊢
   cases hl:ZaO x s.links 0 with
   | none=>rw[hl]at h;cases h
   | some i =>
    rw[hl]at h
    exact ZtU s f _ h
theorem ZoL (s:DSource)(x:ByteArray):ZeS s (s.links.length+1) x=ZaI s (s.links.length+1) [] x:=by
 by_cases h:(ZaI s (s.links.length+1) [] x).2=11
 ·rw[ZmZ s _ _ _ h,ZtU s _ _ ((Ziy s x).1 h)]
 ·exact(ZmY s _ _ _ h).symm
theorem ZmX (s:DSource):∀ (f:Nat) (a:List ByteArray) (x:ByteArray),(ZaI s f a x).2=0->(ZaI s f a x).1<s.zones.length
 | 0,_,_,h=>by cases h
 | f+1,a,x,h=>by
  rw[ZaI]at h ⊢
  cases hz:ZaK x s.zones 0 with
  | some i =>
   have:=(Zm1 x s.zones 0 i hz).2
   dsimp only
   omega
  | none =>
   rw[hz]at h
   dsimp only at h ⊢
   cases hl:ZaO x s.links 0 with
   | none=>rw[hl]at h;cases h
   | some i =>
    rw[hl]at h
    dsimp only at h ⊢
    by_cases b:memB x a=true
    ·rw[if_pos b]at h;cases h
    ·rw[if_neg b]at h ⊢
     exact ZmX s f _ _ h
theorem Zwe {a:DSource}{b:ByteArray}(h:(ZbV a b).2=0):accD a=none/\∃ i:Nat,ZbV a b=((i:Int),0)/\i<a.zones.length/\ZaI a (a.links.length+1) [] b=(i,0):=by
 unfold ZbV at h ⊢
 cases hac:accD a with
 | some x =>
  obtain⟨p,e⟩:=x
  rw[hac]at h
  exact absurd h (ZuD hac)
 | none =>
  rw[hac]at h
  dsimp only at h ⊢
  exact⟨rfl,_,by rw[h],ZmX a _ _ _ h,Prod.ext rfl h⟩
section
variable (Ar Az Al As:Option Addr)(cr cz cl cs:Nat)(a:DSource)(name:ByteArray)(t:Int)(w:World)
theorem ZAt {w:World}{Ar Az Al As:Option Addr}{d f c cs:Nat}{a:DSource}(h:Zdc w Ar Az Al As d f c cs a)(b:accD a=none):MnOk a:=ZAu b fun z i e g=>(h.Z z i e g).fmt
end
theorem ZqL {G:Prop}(h:G:=by(apply Zap;rfl;rfl;rfl)):G:=h
theorem Zyg {G:Prop}(h:G:=by first|(apply Qy_y;rfl;exact ZqL)|exact QyA):G:=h
theorem Zu1 {G:Prop}(h:G:=by repeat (first|exact QF.nil|(apply QF.mk;rfl;rfl;decide +kernel;exact Zyg))):G:=h
set_option maxHeartbeats 0 in
theorem ZkY (Ar Az Al As:Option Addr)(D E z cs:Nat)(a:DSource)(l:List DEra)(k:Nat)(e:DEra)(t:Int)(w:World)(Y:Zam w Ar Az Al As D E z cs a)(T:a.rules.length<=1000000)(j:Zei a.rules l k e)(hf:e.format.size<=1000000000)(ht : -39000000000000000<=t/\t<=1000000000000000000) :
  Does prog 54 [srcV Ar Az Al As D E z cs a,.agg e.enc.toArray,.int .i64 t] w (fun v O=>v = .agg (ZeM e (ZaU a.rules e t)).enc.toArray/\O=[]):=by
 have g:=j.st_bd (j.state t)
 have ho:=j.off
 have hk:=j.kind
 have m:=fun w' (u:Bel w.heap.size w w')=>Zih Ar Az Al As D E z cs a e.set w' (Y.up u) T
 have f:=fun(X:e.kind=2) (A3:Option Addr) (q:Nat) w' hR=>Zrt A3 q (ofB a.rules e.set) e.off t w' hR (Nat.le_trans (List.length_filter_le _ _) T) (j.set X) (by omega) ht
 have b:ZaU a.rules e t=if e.kind=0 then (0,ByteArray.empty) else if e.kind=1 then (e.save,ByteArray.empty) else atS (ofB a.rules e.set) e.off t:=rfl
 have d:=fun w'=>Ze8 e.format (ZaU a.rules e t).2 e.off (ZaU a.rules e t).1 w' hf (by omega) (by unfold I64;omega) (by unfold I64;omega)
 unfold xpV at d
 have c:∀ w',Does prog 91 [.string e.format,.int .i64 e.off,.agg #[.int .i64 (ZaU a.rules e t).1,.string (ZaU a.rules e t).2]] w' (fun v O=>(∃ r,v = .tuple #[.string (ZuE e (ZaU a.rules e t).1 (ZaU a.rules e t).2),.int .i64 r])/\O=[]):=fun w' =>
  (d w').mono fun v O U=>⟨⟨_,U.1⟩,U.2⟩
 clear d j
 unfold ZgC at m
 unfold ZeM
 generalize atS (ofB a.rules e.set) e.off t=s at *
 generalize ofB a.rules e.set=R at *
 generalize ZaU a.rules e t=x at *
 generalize ZuE e x.1 x.2=ab at *
 obtain⟨off,y,H,p,W,⟨ui,uy,um,⟨K,L,M⟩,⟨I,J⟩⟩⟩:=e
 obtain⟨s1,s2⟩:=s
 dsimp only at *
 simp only[Zak.enc,stV]at f ⊢
 show Does _ _ [_,.agg #[.int .i64 off,.int .i64 y,.int .i64 H,.string p,.string W,.bool ui,.int .i64 uy,.int .i64 um,.int .i64 K,.int .i64 L,.int .i64 M,.int .i64 I,.int .i64 J],_] w _
 refine Zaa func54 rfl rfl rfl rfl ?_
 by_cases Q:y=0
 ·subst Q
  rw[if_pos rfl]at b
  subst b
  dsimp only at c g
  repeat (first|(apply RL_pu;rfl;exact ZqL)|refine walk1 ?_|(refine jg ?_;(try intro F);(first|(apply Zad (h:=fun w' _ _=>c w');rfl;rintro v O' ⟨⟨r,rfl⟩,rfl⟩)|(refine bx ?_;intro N));first|refine⟨_,EndsA,Zu1,?_⟩|refine fin ?_))
  exact ret_1 _ [] (.cellB rfl cS_ rfl rfl) .nil ⟨rfl,rfl⟩
 rw[if_neg Q]at b
 by_cases S:y=1
 ·subst S
  rw[if_pos rfl]at b
  subst b
  dsimp only at c g
  repeat (first|(apply RL_pu;rfl;exact ZqL)|refine walk1 ?_|(refine jg ?_;(try intro F);(first|(apply Zad (h:=fun w' _ _=>c w');rfl;rintro v O' ⟨⟨r,rfl⟩,rfl⟩)|(refine bx ?_;intro N));first|refine⟨_,EndsA,Zu1,?_⟩|refine fin ?_))
  exact ret_1 _ [] (.cellB rfl cS_ rfl rfl) .nil ⟨rfl,rfl⟩
 ·rw[if_neg S]at b
  obtain rfl:y=2:=by omega
  subst b
  replace f:=f rfl
  dsimp only at c g
  repeat (first|(apply RL_pu;rfl;exact ZqL)|(apply RD_Q;rfl;rfl;decide +kernel;rfl;rfl;exact Zyg)|refine walk1 ?_|(refine jg ?_;(try intro F);(first|(apply Zad (h:=fun w' u _=>m w' u);rfl;rintro v O' ⟨A3,q,rfl,rfl⟩)|(refine ZaH (fun w' u Z=>f A3 q w' (ZaJ DRule.len (Z.of (A := .row (.slice A3 R.length q) 68 11 R.length (R.flatMap DRule.enc)) cS_))) ?_)|(apply Zad (h:=fun w' _ _=>c w');rfl;rintro v O' ⟨⟨r,rfl⟩,rfl⟩)|(refine bx ?_;intro N)|(refine stA ?_));first|refine⟨_,EndsA,Zu1,?_⟩|refine fin ?_))
  exact ret_1 _ [] (.cellB rfl cS_ rfl rfl) .nil ⟨rfl,rfl⟩
theorem ZqK {G:Prop}(h:G:=by(apply Zav;rfl;rfl;exact b1)):G:=h
set_option maxHeartbeats 0 in
theorem Zrq (A:Option Addr)(c:Nat)(l:List DRule)(n:Int)(w:World)(hA:RdSl w A c DRule.enc 11 l)(hn:l.length<=1000000)(hR:∀ r∈l,r.from_<=4611686018427387904/\-4611686018427387904<=r.to)(ht : -4611686018427387904<=n/\n<=4611686018427387904) :
  Does prog 109 [.slice A l.length c,.int .i64 n] w (fun v O=>v = .tuple #[evV (raGo (Zae l) n (Zay n) l 0 none),.bool (raGo (Zae l) n (Zay n) l 0 none).isSome]/\O=[]):=by
 have X:=Zet n
 have Z:=fun w'=>ZgL n ht w'
 have t:=fun(i:Nat) (y:Int) (r:DRule) (s:l[i]?=some r) w' (hw:Bel w.heap.size w w')=>Zf2 A c l i y r w' (hA.up hw) s
 generalize Zae l=L at *
 generalize Zay n=yr at *
 obtain⟨R,x⟩:∃ R,raGo L n yr l 0 none=R:=⟨_,rfl⟩
 rw[x]
 refine Zaa func109 rfl rfl rfl rfl ?_
 repeat (first|refine walk ?_|(refine jn ?_;(try intro F);((refine bx ?_;intro j));refine fin ?_))
 generalize j=b6
 rename_i S
 refine Zah [(0,.slice A l.length c),(1,.int .i64 n),(4,.pointer (some ⟨S,0,none⟩)),(6,.pointer (some ⟨b6,0,none⟩))] [.blk S [.int .i64 0,.int .i64 0,.int .i64 0] 91]
  (fun g:BG=>[(8,.int .i64 g.k),(7,.bool g.b.isSome)]) (fun g=>[.blk b6 (evC g.b) 91]) (fun g=>g.k<=l.length/\raGo L n yr (l.drop g.k) g.k g.b=R) (fun g=>l.length - g.k) ⟨0,none⟩ SFA SOA ⟨Nat.zero_le _,x⟩ ?_
 clear x
 rintro⟨k,b⟩ ⟨hk,s⟩
 dsimp only at hk s ⊢
 repeat (first|refine walk ?_|(refine jn ?_;(try intro F);((refine bx ?_;intro j));refine fin ?_))
 refine Zaf rfl (fun I=>?_) (fun I=>?_)
 ·simp only[decide_eq_true_eq,Int.ofNat_lt]at I
  have D:=List.getElem?_eq_getElem I
  rw[Zag I,raGo]at s
  obtain⟨hna,hca⟩:=hA.rd k _ D
  have M:=hR _ (List.getElem_mem I)
  have J:=fun y=>t k y _ D
  generalize l[k]=r at *
  have E:=fun w'=>ZjE r yr true M.1 M.2 X w'
  have hnb : -2000000000<=(ZcL r yr).1/\(ZcL r yr).1<=4611686018427387904/\(ZcL r yr).2<=2000000002:=by
   unfold ZcL lastY
   dsimp only
   split <;> omega
  change ∀ w',Does _ _ _ w' (fun v O=>v = .tuple #[.int .i64 (ZcL r yr).1,.int .i64 (ZcL r yr).2]/\O=[]) at E
  generalize ZcL r yr=N at *
  obtain⟨Q,e⟩:=N
  dsimp only at s E hnb
  obtain⟨B1,u⟩:∃ B1,raI L n r k Q (e+1 - Q).toNat b=B1:=⟨_,rfl⟩
  rw[u]at s
  clear D t hR
  have K:∀ y w',Bel w.heap.size w w'->Does prog 89 [.slice A l.length c,.int .i64 k,.int .i64 y] w' (fun v O=>v = .tuple #[evV (onR L r k y),.bool (onR L r k y).isSome]/\O=[]):=J
  clear J
  have W:∀ y m b,raI L n r k y (m+1) b=raI L n r k (y+1) m (upA n b (onR L r k y)):=fun y m b=>rfl
  generalize onR L r (k:Int)=on at *
  obtain⟨nm,fr,to,mo,⟨dk,dw,dd⟩,⟨cs,cb⟩,sv,le⟩:=r
  change Zat w _ [.string nm,.int .i64 fr,.int .i64 to,.int .i64 mo,.int .i64 dk,.int .i64 dw,.int .i64 dd,.int .i64 cs,.int .i64 cb,.int .i64 sv,.string le]at hca
  repeat (first|(apply RD_Q;rfl;rfl;decide +kernel;rfl;rfl;exact QyI)|refine walk1 ?_|(refine jg ?_;(try intro F);(first|(refine Zab (fun w' _=>Z w') ?_)|(refine Zab (fun w' _=>E w') ?_));first|refine⟨_,EndsA,QFI,?_⟩|refine fin ?_)|(refine jn ?_;(try intro F);(first|(refine bx ?_;intro j)|(apply Zan;exact PuA));refine⟨_,EndsA,QFI,?_⟩))
  refine Zah [(0,.slice A l.length c),(1,.int .i64 n),(4,.pointer (some ⟨S,0,none⟩)),(6,.pointer (some ⟨b6,0,none⟩)),(8,.int .i64 k),(10,.int .i64 e)] [.blk S [.int .i64 0,.int .i64 0,.int .i64 0] 91]
   (fun g:RnG=>[(11,.int .i64 g.y),(7,.bool g.b.isSome)]) (fun g=>[.blk b6 (evC g.b) 91]) (fun g=>Q<=g.y/\(g.y<=e+1\/g.y=Q)/\raI L n _ k g.y (e+1 - g.y).toNat g.b=B1) (fun g=>(e+1 - g.y).toNat) ⟨Q,b⟩ SFA SOA ⟨Int.le_refl _,.inr rfl,u⟩ ?_
  clear u
  rintro⟨y,b⟩ ⟨hy0,hy1,d⟩
  dsimp only at hy0 hy1 d ⊢
  repeat (first|refine walk ?_|(refine jn ?_;(try intro F);((refine bx ?_;intro j));refine fin ?_))
  refine Zaf rfl (fun z=>?_) (fun z=>?_)
  ·have Y:=of_decide_eq_true z
   rw[show(e+1 - y).toNat=(e+1 - (y+1)).toNat+1 by omega,W]at d
   have H:=K y
   generalize on y=o at *
   have U:=fun p q w'=>ZjF p q w'
   rcases o with _|⟨xy,xr,xn⟩
   ·simp only[evV,Zac.enc,dEv0,Option.isSome]at H
    repeat (first|refine und ?_|refine walk ?_|(refine jg ?_;(try intro F);(first|(refine Zab H ?_)|(refine bx ?_;intro j));refine fin ?_))
    exact⟨⟨y+1,b⟩,OA,⟨by dsimp only;omega,.inl (by dsimp only;omega),d⟩,SFA,SOA⟩
   ·simp only[evV,Zac.enc,Option.isSome]at H
    by_cases T:n<xn
    ·have b1:decide (n<xn)=true:=dT_ T
     rw[ZxJ T]at d
     rcases b with _|⟨by_,br,bn⟩
     ·replace d:raI L n _ k (y+1) (e+1 - (y+1)).toNat (some ⟨xy,xr,xn⟩)=B1:=d
      simp only[evC,Zac.enc,dEv0,Option.isSome]
      repeat (first|refine und ?_|(apply RL_pu;rfl;exact ZqK)|refine walk1 ?_|(refine jg ?_;(try intro F);(first|(refine Zab H ?_)|(refine bx ?_;intro j));first|refine⟨_,EndsA,QFRhK0,?_⟩|refine fin ?_))
      exact⟨⟨y+1,some ⟨xy,xr,xn⟩⟩,OA,⟨by dsimp only;omega,.inl (by dsimp only;omega),d⟩,SFA,SOA⟩
     ·simp only[evC,Zac.enc,Option.isSome]
      have f:=fun w'=>U ⟨xy,xr,xn⟩ ⟨by_,br,bn⟩ w'
      cases hq:ltE ⟨xy,xr,xn⟩ ⟨by_,br,bn⟩ with
      | true =>
       rw[ZB3 hq]at d
       rw[hq]at f
       simp only[Zac.enc]at f
       repeat (first|(apply RL_pu;rfl;exact ZqK)|refine walk1 ?_|(refine jg ?_;(try intro F);(first|(refine Zab H ?_)|(refine Zab (fun w' _=>f w') ?_)|(refine bx ?_;intro j));first|refine⟨_,EndsA,QFRhK0,?_⟩|refine fin ?_))
       exact⟨⟨y+1,some ⟨xy,xr,xn⟩⟩,OA,⟨by dsimp only;omega,.inl (by dsimp only;omega),d⟩,SFA,SOA⟩
      | false =>
       rw[Zue hq]at d
       rw[hq]at f
       simp only[Zac.enc]at f
       repeat (first|(apply RL_pu;rfl;exact ZqK)|refine walk1 ?_|(refine jg ?_;(try intro F);(first|(refine Zab H ?_)|(refine Zab (fun w' _=>f w') ?_)|(refine bx ?_;intro j));first|refine⟨_,EndsA,QFRhK0,?_⟩|refine fin ?_))
       exact⟨⟨y+1,some ⟨by_,br,bn⟩⟩,OA,⟨by dsimp only;omega,.inl (by dsimp only;omega),d⟩,SFA,SOA⟩
    ·have b1:decide (n<xn)=false:=dF_ T
     rw[ZxI T]at d
     repeat (first|refine und ?_|(apply RL_pu;rfl;exact ZqK)|refine walk1 ?_|(refine jg ?_;(try intro F);(first|(refine Zab H ?_)|(refine bx ?_;intro j));first|refine⟨_,EndsA,QFRhK0,?_⟩|refine fin ?_))
     exact⟨⟨y+1,b⟩,OA,⟨by dsimp only;omega,.inl (by dsimp only;omega),d⟩,SFA,SOA⟩
  ·have Y:=of_decide_eq_false z
   rw[show(e+1 - y).toNat=0 by omega]at d
   obtain rfl:b=B1:=d
   repeat (first|refine walk ?_|(refine jn ?_;(try intro F);((refine bx ?_;intro j));refine fin ?_))
   exact⟨⟨k+1,b⟩,OA,⟨OA,s⟩,SFA,SOA⟩
 ·simp only[decide_eq_false_iff_not,Int.ofNat_lt]at I
  rw[List.drop_eq_nil_of_le (by omega),raGo]at s
  subst s
  rcases b with _|⟨by_,br,bn⟩ <;> simp only[evV,evC,Zac.enc,dEv0,Option.isSome]
  ·repeat (first|refine walk ?_|(refine jn ?_;(try intro F);((refine bx ?_;intro j));refine fin ?_))
   exact rtC
  ·repeat (first|refine walk ?_|(refine jn ?_;(try intro F);((refine bx ?_;intro j));refine fin ?_))
   exact rtC
end Go.Proofs.YtpipekfmecikmaaGreatDoor
namespace Go.Proofs.YtpipekfmecikmaaGreatDoor
open Go Go.RowKit Go.Wk
def ZfM (l:List DRule)(off t:Int):Nat->Int->Option (Option Int)
 | 0,_=>none
 | k+1,n=>match ZbC l n with
  | none=>some none
  | some e=>if t<Zcc l e off then some (some (Zcc l e off)) else ZfM l off t k e.nominal
def evtD (l:List DRule)(off t:Int):Option (Option Int):=ZfM l off t 4 (t - 259200)
theorem Zt1 (a t:Int)(k:Nat)(n:Int):ZfM [] a t (k+1) n=some none:=rfl
def minO (fin:Int):Option Int->Int
 | some u=>if u<fin then u else fin
 | none=>fin
def Zc1 (fin:Int)(o:Option Int):Option Int:=if 36028797018963968<minO fin o then none else some (minO fin o)
def ZhA (rs:List DRule)(l:List DEra)(t:Int):Int:=match Zey rs l with
 | some r=>(Zdh r t).1.fin
 | none=>0
def eAt (rs:List DRule)(l:List DEra)(t:Int):DEra:=l.getD (Zb9 rs l t) dE0
def nxD (rs:List DRule)(l:List DEra)(t:Int):Option Int:=Zc1 (ZhA rs l t) ((evtD (ruEr rs (eAt rs l t)) (eAt rs l t).off t).getD none)
def FstI (l:List DRule)(off t:Int):Option Int->Prop
 | some u=>t<u/\(∃ e,EvOf l e/\Zcc l e off=u)/\∀ f,EvOf l f->t<Zcc l f off->u<=Zcc l f off
 | none=>∀ f,EvOf l f->Zcc l f off<=t
theorem ZAv (fin:Int)(o:Option Int):minO fin o<=fin/\∀ u,o=some u->minO fin o<=u:=by
 cases o with
 | none=>exact⟨Int.le_refl _,fun u a=>by cases a⟩
 | some v =>
  unfold minO
  dsimp only
  refine⟨by split <;> omega,fun u a=>?_⟩
  cases a
  split <;> omega
theorem Ztp (fin:Int)(o:Option Int):minO fin o=fin\/o=some (minO fin o):=by
 cases o with
 | none=>exact .inl rfl
 | some v =>
  unfold minO
  dsimp only
  split
  ·exact .inr rfl
  ·exact .inl rfl
section
variable {l:List DRule}(h:Zbb l)
include h
theorem Zbb.afterD_full {n:Int}(F : -39900000000000000<=n)(G:n<=39900000000000000){f:Zac}(m:EvOf l f)(s:n<f.nominal):∃ e,ZbC l n=some e/\e.nominal<=f.nominal:=by
 obtain⟨j,r,y,i,b⟩:=m
 have d:=h.rule r (List.mem_of_getElem? i)
 obtain⟨z,A⟩:=ZdA (t:=n) (by omega) (by omega)
 have a:=(Zbb.least h.rule).2
 obtain⟨B,C⟩:=Zf9 a b
 have w:Zay n<=y+1:=Zcv (by omega)
 have v:=ZhD b
 have u:=(ZaT b).2.2.1
 have o:=d.f0
 have p:=d.last.2.1
 have key:∃ (q:Nat) (g:Zac),q<20/\onR (Zae l) r (j:Int) (max (max r.from_ (-2000000000)) (Zay n - 2)+q)=some g/\n<g.nominal/\g.nominal<=f.nominal:=by
  by_cases I:y - max (max r.from_ (-2000000000)) (Zay n - 2)<20
  ·refine⟨(y - max (max r.from_ (-2000000000)) (Zay n - 2)).toNat,f,by omega,?_,s,Int.le_refl _⟩
   rw[show max (max r.from_ (-2000000000)) (Zay n - 2)+((y - max (max r.from_ (-2000000000)) (Zay n - 2)).toNat:Int)=y by omega]
   exact b
  ·obtain⟨g,c⟩:=d.onY (Zae l) (j:Int) (y:=max (max r.from_ (-2000000000)) (Zay n - 2)+10) (by omega) (by omega)
   refine⟨10,g,by omega,c,?_,Int.le_of_lt (Zfc c b (by omega))⟩
   refine Int.not_le.1 fun H=>?_
   obtain⟨D,E⟩:=Zf9 a c
   have:max (max r.from_ (-2000000000)) (Zay n - 2)+10<=Zay n+1:=Zcv (by omega)
   omega
 obtain⟨q,g,g1,g2,g3,g4⟩:=key
 obtain⟨k,k1,k2⟩:=Zfg (Zae l) n r (j:Int) 20 _ q g g1 g2 g3
 obtain⟨e,x,J⟩:=Zgu (Zae l) n (Zay n) l 0 none j r k i (by rw[Nat.zero_add];exact k1)
 exact⟨e,x,by omega⟩
theorem Zbb.inst_near {a:Int}(d : -54000<=a/\a<=54000)(e:Zac):e.nominal - 64800<=Zcc l e a/\Zcc l e a<=e.nominal+64800:=by
 have b:=(h.sv (h.bef e.nominal)).1
 have c:=Zbb.least h.rule
 unfold Zcc
 split
 ·omega
 ·split <;> omega
end
section
variable {l:List DRule}(h:Zbb l){off t:Int}(ho : -54000<=off/\off<=54000)
include h ho
theorem Zbb.evt_round {n:Int}(m : -39900000000000000<=n)(o:n<=39900000000000000)(p:∀ f,EvOf l f->t<Zcc l f off->n<f.nominal) :
  (ZbC l n=none/\FstI l off t none)\/∃ e,ZbC l n=some e/\EvOf l e/\n<e.nominal/\((t<Zcc l e off/\FstI l off t (some (Zcc l e off)))\/(Zcc l e off<=t/\∀ f,EvOf l f->t<Zcc l f off->e.nominal<f.nominal)):=by
 have near:=h.inst_near ho
 cases hb:ZbC l n with
 | none =>
  refine .inl ⟨rfl,fun f a=>Int.not_lt.1 fun c=>?_⟩
  obtain⟨e,g,_⟩:=h.afterD_full m o a (p f a c)
  rw[hb]at g
  cases g
 | some e =>
  obtain⟨i,q⟩:=Zja hb
  have d:∀ f,EvOf l f->t<Zcc l f off->e.nominal<=f.nominal:=fun f a c=>by
   obtain⟨s,g,j⟩:=h.afterD_full m o a (p f a c)
   rw[hb]at g
   cases g
   exact j
  refine .inr ⟨e,rfl,i,q,?_⟩
  by_cases k:t<Zcc l e off
  ·refine .inl ⟨k,k,⟨e,i,rfl⟩,fun f a c=>?_⟩
   have r:=d f a c
   by_cases b:f=e
   ·subst b
    exact Int.le_refl _
   ·have u:=h.uniq a i b
    have:=near f
    have:=near e
    omega
  ·refine .inr ⟨by omega,fun f a c=>?_⟩
   have r:=d f a c
   by_cases b:f=e
   ·subst b
    exact absurd c k
   ·have:=h.uniq a i b
    omega
theorem Zbb.evt (g : -37000000000000000<=t)(i:t<=37000000000000000):∃ o,evtD l off t=some o/\FstI l off t o:=by
 have near:=h.inst_near ho
 have I1:∀ f,EvOf l f->t<Zcc l f off->t - 259200<f.nominal:=fun f _ a=>by have:=near f;omega
 unfold evtD
 rcases h.evt_round ho (t:=t) (n:=t - 259200) (by omega) (by omega) I1 with⟨a1,a2⟩|⟨e1,a1,a2,a3,⟨a4,a5⟩|⟨a4,a5⟩⟩
 ·exact⟨none,by rw[ZfM,a1],a2⟩
 ·exact⟨_,by rw[ZfM,a1];dsimp only;rw[if_pos a4],a5⟩
 have b:=near e1
 rw[ZfM,a1]
 dsimp only
 rw[if_neg (by omega)]
 rcases h.evt_round ho (t:=t) (n:=e1.nominal) (by omega) (by omega) a5 with⟨b1,b2⟩|⟨e2,b1,b2,b3,⟨b4,b5⟩|⟨b4,b5⟩⟩
 ·exact⟨none,by rw[ZfM,b1],b2⟩
 ·exact⟨_,by rw[ZfM,b1];dsimp only;rw[if_pos b4],b5⟩
 have c:=near e2
 have d:=h.uniq b2 a2 (fun a=>by rw[a]at b3;omega)
 rw[ZfM,b1]
 dsimp only
 rw[if_neg (by omega)]
 rcases h.evt_round ho (t:=t) (n:=e2.nominal) (by omega) (by omega) b5 with⟨c1,c2⟩|⟨e3,c1,c2,c3,⟨c4,c5⟩|⟨c4,c5⟩⟩
 ·exact⟨none,by rw[ZfM,c1],c2⟩
 ·exact⟨_,by rw[ZfM,c1];dsimp only;rw[if_pos c4],c5⟩
 exfalso
 have e:=h.uniq c2 b2 (fun a=>by rw[a]at c3;omega)
 have:=near e3
 omega
