/- Parts of the proof. -/
import Derived.Test.YtpipekfmecikmaaGreatDoorW25
import Derived.Test.YtpipekfmecikmaaGreatDoorW38
import Derived.Test.YtpipekfmecikmaaGreatDoorW30
import Derived.Test.YtpipekfmecikmaaGreatDoorW16
import Derived.Test.YtpipekfmecikmaaGreatDoorW35
import Derived.Test.YtpipekfmecikmaaGreatDoorW27
import Derived.Test.YtpipekfmecikmaaGreatDoorW29
import Derived.Test.YtpipekfmecikmaaGreatDoorW34
set_option maxHeartbeats 4000000
set_option linter.unusedVariables false
set_option linter.unusedSimpArgs false
namespace Go.Proofs.YtpipekfmecikmaaGreatDoor
open Go Go.RowKit Go.Wk
attribute [local irreducible] W RL Does Zat Zaj retQ Calls Pu Stp RD Qy Ay Zak
theorem ZwC {α:Type}(enc:α->List Value){sz:Nat}(b:∀ a,(enc a).length=sz)(j:0<sz)(d:α)(N:Nat):(madeCells (enc d).toArray (N*sz)).toList=(List.replicate N d).flatMap enc:=by
 have c:=Zbg b (List.replicate N d)
 rw[List.length_replicate]at c
 apply List.ext_getElem?
 intro i
 by_cases h:i<N*sz
 ·have k:i / sz<N:=Nat.div_lt_of_lt_mul (by rw[Nat.mul_comm];exact h)
  have e:i % sz<(enc d).length:=by rw[b];exact Nat.mod_lt _ j
  have g:=ZaC b (List.replicate N d) (i / sz) d (i % sz) ((enc d)[i % sz]) (by rw[List.getElem?_replicate,if_pos k]) (List.getElem?_eq_getElem e)
  rw[Nat.mul_comm,Nat.div_add_mod]at g
  rw[g]
  have f:i % (enc d).length<(enc d).length:=by rw[b];rw[b]at e;exact e
  simp only[madeCells,Array.getElem?_toList,Array.getElem?_map,List.size_toArray]
  rw[Array.getElem?_eq_getElem (by simpa using h)]
  simp only[Array.getElem_range,Option.map_some,Option.some.injEq]
  rw[getElem!_pos _ _ (by simpa using f),List.getElem_toArray]
  congr 1
  rw[b]
 ·rw[List.getElem?_eq_none (l:=(madeCells (enc d).toArray (N*sz)).toList) (by rw[Array.length_toList,size_madeCells];omega),List.getElem?_eq_none (by rw[c];omega)]
structure EvH where
 A:Option Addr
 c:Nat
 l:List Zac
def EvH.v (h:EvH):Value := .slice h.A h.l.length h.c
def EvH.enc (h:EvH):List Value:=[h.v]
def EvH.row (h:EvH):It:=Zlb h.A h.c h.l
theorem EvH.len (h:EvH):h.enc.length=1:=rfl
def nilV:Value := .slice none 0 0
def hNil:EvH:=⟨none,0,[]⟩
def Zm9:List Value:=List.replicate 701 nilV
theorem z701:(madeCells ([.slice none 0 0]:List Value).toArray (701*1)).toList=Zm9:=by
 have:=ZwC EvH.enc EvH.len (by decide) hNil 701
 rw[show EvH.enc hNil=[.slice none 0 0] from rfl]at this
 rw[this]
 have h:∀ n,(List.replicate n hNil).flatMap EvH.enc=List.replicate n nilV:=fun n=>by
  induction n with
  | zero=>rfl
  | succ n ih=>rw[List.replicate_succ,List.flatMap_cons,ih];rfl
 exact h 701
structure XG where
 k:Nat
 A:Option Addr
 c:Nat
 m:Nat
 ys:List Value
 acc:List Zac
 xs:List Value
 hr:List EvH
def Za6 (hr:List EvH)(v:Value)(k:Nat):List Value:=hr.reverse.map EvH.v++v::List.replicate k nilV
theorem Zl6 (a:List EvH)(v c:Value)(k:Nat){j:Nat}(b:a.length=j):(Za6 a v k).set j c=Za6 a c k:=by
 unfold Za6
 rw[List.set_append_right _ _ (by simp[b]),show j - (a.reverse.map EvH.v).length=0 by simp[b],List.set_cons_zero]
theorem Zl8 (a:List EvH)(v:Value)(k:Nat){j:Nat}(b:a.length=j):(Za6 a v k)[j]?=some v:=by
 unfold Za6
 rw[List.getElem?_append_right (by simp[b]),show j - (a.reverse.map EvH.v).length=0 by simp[b],List.getElem?_cons_zero]
theorem Zl7 (a:List EvH)(v:Value)(k:Nat):(Za6 a v k).length=a.length+1+k:=by simp[Za6];omega
theorem ZkP (h:EvH)(a:List EvH)(k:Nat):Za6 a h.v (k+1)=Za6 (h::a) nilV k:=by
 simp[Za6,List.replicate_succ]
theorem Zp6:∀ l:List EvH,l.flatMap EvH.enc=l.map EvH.v
 | []=>rfl
 | h::l=>by rw[List.flatMap_cons,Zp6 l];rfl
def ZCn (Y:Nat->List Zac)(N:Nat)(v:Value)(O:List It):Prop:=∃ (b:Nat) (hr:List EvH),v = .slice (some ⟨b,0,none⟩) N N/\hr.length=N/\(∀ q,q<N->∃ h:EvH,hr.reverse[q]?=some h/\h.l=Y q) /\
 O = .row (.slice (some ⟨b,0,none⟩) N N) 252 1 N (hr.reverse.flatMap EvH.enc)::hr.map EvH.row
attribute [local irreducible] Zm9 Za6
theorem Zvd {G:Prop}(h:G:=by(first|(apply ZaG;rfl;rfl;omega;omega;(intro w' _ hO;nofun))|(apply Zb9;rfl;(focus repeat' constructor);exact hxk))):G:=h
theorem ZxX {G:Prop}(h:G:=by first|(apply Qy_y;rfl;exact Zvd)|exact QyA):G:=h
theorem ZBJ {G:Prop}(h:G:=by repeat (first|exact QF.nil|(apply QF.mk;rfl;rfl;decide +kernel;exact ZxX))):G:=h
set_option maxHeartbeats 2000000 in
theorem Zrs (A:Option Addr)(c:Nat)(l:List DRule)(w:World)(Z:RdSl w A c DRule.enc 11 l)(hn:l.length<=1000000) :
  Does Tryz.prog 247 [.slice A l.length c] w (ZCn (Zc1 l) 701):=by
 have u:=fun(i:Nat) (y:Int) (r:DRule) (s:l[i]?=some r) w' (hw:Bel w.heap.size w w')=>Zhq A c l i y r w' (Z.up hw) s
 have E:Zm9=Za6 [] nilV 700:=by
  unfold Zm9 Za6
  rw[List.reverse_nil,List.map_nil,List.nil_append,<- List.replicate_succ]
 have R:∀ q:Nat,Zc1 l q=ZcA (Zag l) (1850+(q:Int)) l 0:=fun q=>rfl
 generalize Zc1 l=Y at *
 generalize Zag l=L at *
 refine Zaa Tryz.func247 rfl rfl rfl rfl ?_
 repeat (first|refine walk ?_|(refine jn ?_;(try intro F);(first|(apply Zuv (N:=701) (z:=[.slice none 0 0]);rfl;rfl;decide;decide;decide;exact z701;intro b)|(refine bx ?_;intro f)|(refine stA ?_)|(apply Zad;exact PuA));refine fin ?_)|(apply RD_W;rfl;intro f))
 obtain⟨M,hM⟩:∃ M:Nat,M=700:=⟨_,rfl⟩
 rw[<- hM]at E
 rw[show(701:Nat)=M+1 by omega]
 refine Zai [(0,.slice A l.length c),(3,.slice (some ⟨b,0,none⟩) (M+1) (M+1))] [] (fun g:XG=>[(4,.int .i64 g.k)]) (fun g => .row (.slice (some ⟨b,0,none⟩) (M+1) (M+1)) 252 1 (M+1) g.xs::g.hr.map EvH.row)
  (fun g=>g.k<=M+1/\g.hr.length=g.k/\(g.k<M+1->g.xs=Za6 g.hr nilV (M - g.k))/\(g.k=M+1->g.xs=g.hr.reverse.map EvH.v)/\∀ q,q<g.k->∃ h,g.hr.reverse[q]?=some h/\h.l=Y q) (fun g=>M+1 - g.k) ⟨0,none,0,0,[],[],Zm9,[]⟩ SFA STA ⟨Nat.zero_le _,rfl,fun _=>E,fun h=>absurd h (by dsimp only;omega),fun q K=>absurd K (Nat.not_lt_zero _)⟩ ?_
 clear E
 rintro⟨k,A1,c1,m,ys,acc,xs,hr⟩ ⟨hk,hrl,hx,hx2,hH⟩
 dsimp only at hk hrl hx hx2 hH ⊢
 clear A1 c1 m ys acc
 repeat (first|refine walk ?_|(refine jn ?_;(try intro F);(first|(refine bx ?_;intro f)|(refine stA ?_)|(apply Zad;exact PuA));refine fin ?_)|(apply RD_W;rfl;intro f))
 refine Zaf rfl (fun D=>?_) (fun D=>?_)
 ·simp only[decide_eq_true_eq,Int.ofNat_lt]at D
  have hx:=hx D
  obtain⟨N2,H⟩:∃ N2,M - k=N2:=⟨_,rfl⟩
  rw[H]at hx
  repeat (first|refine walk ?_|(refine jn ?_;(try intro F);(first|(refine bx ?_;intro f)|(refine stA ?_)|(apply Zad;exact PuA));refine fin ?_)|(apply RD_W;rfl;intro f))
  refine Zdq 91 3 ?_
  refine Zai [(0,.slice A l.length c),(3,.slice (some ⟨b,0,none⟩) (M+1) (M+1)),(4,.int .i64 k)] [] (fun g:XG=>[(5,.int .i64 g.k)]) (fun g => .row (.slice g.A g.m g.c) 91 3 g.m g.ys :: .row (.slice (some ⟨b,0,none⟩) (M+1) (M+1)) 252 1 (M+1) g.xs::hr.map EvH.row)
   (fun g=>g.k<=l.length/\g.m=g.acc.length/\g.ys=g.acc.flatMap Zac.enc/\g.m<=g.k/\g.xs=Za6 hr (.slice g.A g.m g.c) N2/\g.acc++ZcA L (1850+k) (l.drop g.k) g.k=Y k) (fun g=>l.length - g.k) ⟨0,none,0,0,[],[],xs,[]⟩ SFA STA ⟨Nat.zero_le _,rfl,rfl,Nat.le_refl _,hx,(R k).symm⟩ ?_
  clear hx2 hx
  rintro⟨i,A1,c1,m,ys,acc,xs,hr0⟩ ⟨hil,hm,hy,hmi,hx,s⟩
  dsimp only at hil hm hy hmi hx s ⊢
  clear hr0
  repeat (first|refine walk ?_|(refine jn ?_;(try intro F);(first|(refine bx ?_;intro f)|(refine stA ?_)|(apply Zad;exact PuA));refine fin ?_)|(apply RD_W;rfl;intro f))
  refine Zaf rfl (fun j=>?_) (fun j=>?_)
  ·simp only[decide_eq_true_eq,Int.ofNat_lt]at j
   have t:=u i (1850+(k:Int)) _ (List.getElem?_eq_getElem j)
   rw[Zah j,ZcA]at s
   generalize onR L l[i] i (1850+(k:Int))=o at *
   have hxk:xs[k*1]?=some (.slice A1 m c1):=by rw[hx];exact Zl8 hr _ N2 (by omega)
   have x:∀ A' c',lay xs (k*1) [.slice A' (m+1) c']=Za6 hr (.slice A' (m+1) c') N2:=fun A' c'=>by rw[hx];exact Zl6 hr _ _ N2 (by omega)
   have hxl:xs.length=M+1:=by rw[hx,Zl7];omega
   cases o with
   | none =>
    simp only[evV,Zac.enc,dEv0,Option.isSome,Option.toList,List.nil_append]at t s
    repeat (first|refine walk ?_|(refine jg ?_;(try intro F);(first|(refine Zab t ?_)|(refine bx ?_;intro f)|(refine stA ?_));refine fin ?_)|(refine jn ?_;(try intro F);(first|(refine bx ?_;intro f)|(refine stA ?_)|(apply Zad;exact PuA));refine fin ?_)|(apply RD_W;rfl;intro f))
    exact⟨⟨i+1,A1,c1,m,ys,acc,xs,[]⟩,OA,⟨OA,hm,hy,OA,hx,s⟩,SFA,STA⟩
   | some e =>
    obtain⟨U,T,S⟩:=e
    simp only[evV,Zac.enc,Option.isSome,Option.toList]at t s
    repeat (first|(apply RL_pu;rfl;exact Zvd)|(refine js ?_;(first|(refine Zab t ?_)|(apply ZaF;rfl;rfl;(intro A' c';(focus repeat' constructor));(intro w' _ hO;exact ZbD (hO.of (by repeat' constructor)));rfl;rfl;(simp only[maxLen];omega);omega;intro A' c' I j J)|(apply ZgG;rfl;rfl;(focus repeat' constructor);rfl;rfl;rfl;omega;decide;exact x _ _)|(refine bx ?_;intro f)))|(apply RD_Q;rfl;rfl;decide +kernel;rfl;rfl;exact ZxX)|refine walk1 ?_|(refine Zdc ?_;intro F;(refine Zab t ?_);refine⟨_,EndsA,SubO.right _ _,?_⟩)|(refine RD_Lw ?_;intro F;(first|(refine Zab t ?_)|(apply ZaF;rfl;rfl;(intro A' c';(focus repeat' constructor));(intro w' _ hO;exact ZbD (hO.of (by repeat' constructor)));rfl;rfl;(simp only[maxLen];omega);omega;intro A' c' I j J)|(apply ZgG;rfl;rfl;(focus repeat' constructor);rfl;rfl;rfl;omega;decide;exact x _ _)|(refine bx ?_;intro f)|(refine stA ?_)|(apply Zad;first|exact Zvd|exact PuA));refine⟨_,EndsA,ZBJ,?_⟩)|(apply RD_W;rfl;intro f))
    exact⟨⟨i+1,A',c',m+1,ys++[.int .i64 U,.int .i64 T,.int .i64 S],acc++[⟨U,T,S⟩],Za6 hr (.slice A' (m+1) c') N2,[]⟩,OA,⟨OA,by simp[hm],by rw[hy];simp[Zac.enc],OA,rfl,by rw[<- s];simp⟩,SFA,STA⟩
  ·simp only[decide_eq_false_iff_not,Int.ofNat_lt]at j
   rw[List.drop_eq_nil_of_le (by omega),ZcA,List.append_nil]at s
   repeat (first|refine walk ?_|(refine jn ?_;(try intro F);(first|(refine bx ?_;intro f)|(refine stA ?_)|(apply Zad;exact PuA));refine fin ?_)|(apply RD_W;rfl;intro f))
   refine⟨⟨k+1,none,0,0,[],[],xs,⟨A1,c1,acc⟩::hr⟩,OA,⟨OA,by simp[hrl],fun h=>?_,fun h=>?_,fun q K=>?_⟩,SFA,?_⟩
   ·dsimp only at h ⊢
    obtain⟨N3,rfl⟩:∃ N3,N2=N3+1:=⟨N2 - 1,by omega⟩
    rw[hx,hm,show M - (k+1)=N3 by omega]
    exact ZkP ⟨A1,c1,acc⟩ hr N3
   ·dsimp only at h ⊢
    obtain rfl:N2=0:=by omega
    rw[hx,hm]
    unfold Za6
    simp[EvH.v]
   ·dsimp only at K ⊢
    rw[List.reverse_cons]
    by_cases Q:q<k
    ·obtain⟨h,W,X⟩:=hH q Q
     exact⟨h,by rw[List.getElem?_append_left (by simp;omega)];exact W,X⟩
    ·obtain rfl:q=k:=by omega
     exact⟨⟨A1,c1,acc⟩,by rw[List.getElem?_append_right (by simp;omega)];simp[hrl],s⟩
   ·subst hm hy
    dsimp only
    rw[List.map_cons,show EvH.row ⟨A1,c1,acc⟩ = .row (.slice A1 acc.length c1) 91 3 acc.length (acc.flatMap Zac.enc) from rfl]
    exact STA
 ·simp only[decide_eq_false_iff_not,Int.ofNat_lt]at D
  obtain rfl:k=M+1:=by omega
  have hx:=hx2 rfl
  repeat (first|refine walk ?_|(refine jn ?_;(try intro F);(first|(refine bx ?_;intro f)|(refine stA ?_)|(apply Zad;exact PuA));refine fin ?_)|(apply RD_W;rfl;intro f))
  exact ret_1 _ (.row (.slice (some ⟨b,0,none⟩) (M+1) (M+1)) 252 1 (M+1) xs::hr.map EvH.row) (.tmp rfl) (.cons .here (by rw[show(List.map EvH.row hr).append []=List.map EvH.row hr from List.append_nil _];exact .refl _)) ⟨b,hr,rfl,hrl,hH,by rw[Zp6,<- hx]⟩
end Go.Proofs.YtpipekfmecikmaaGreatDoor
namespace Go.Proofs.YtpipekfmecikmaaGreatDoor
open Go Go.RowKit Go.Wk
attribute [local irreducible] W RL Does Zat Zaj retQ Calls Pu Stp RD Qy Ay Zak
def ZeJ (H:List EvH)(w:World):Prop:=∀ h∈H,RdSl w h.A h.c Zac.enc 3 h.l
def ZBw (Y:Nat->List Zac)(N:Nat)(v:Value)(O:List It):Prop:=∃ (b:Nat) (H:List EvH) (S:Nat->Prop),v = .slice (some ⟨b,0,none⟩) N N/\H.length=N/\(∀ q,q<N->∃ h:EvH,H[q]?=some h/\h.l=Y q) /\
 O=[.row (.slice (some ⟨b,0,none⟩) N N) 252 1 N (H.flatMap EvH.enc),.fact S (ZeJ H)]
theorem Zoh (A:Option Addr)(c:Nat)(l:List DRule)(w:World)(h:RdSl w A c DRule.enc 11 l)(n:l.length<=1000000) :
  Does Tryz.prog 247 [.slice A l.length c] w (ZBw (Zc1 l) 701) :=
 (Zrs A c l w h n).monoH fun v O a w' j i=>by
  obtain⟨b,d,rfl,m,e,rfl⟩:=j
  refine⟨_,⟨b,d.reverse,foot (d.map EvH.row),rfl,by rw[List.length_reverse];exact m,e,rfl⟩,?_⟩
  have f:Zaz a (d.map EvH.row++[.row (.slice (some ⟨b,0,none⟩) 701 701) 252 1 701 (d.reverse.flatMap EvH.enc)]) w':=i.perm (List.perm_append_comm (l₁:=[_]))
  have g:=f.fact (p:=ZeJ d.reverse) (fun o k q e=>ZaP Zac.len (k (EvH.row q) (List.mem_map.2 ⟨q,List.mem_reverse.1 e,rfl⟩)))
  exact g.perm (List.perm_append_comm (l₁:=[_]) (l₂:=[_]))
structure CapG where
 k:Nat
 o:Option Zac
theorem ZnB {G:Prop}(h:G:=by(first|(apply ZaG;rfl;rfl;omega;omega;(intro w' _ hO;first|exact Option.some_ne_none _|exact hnn w' (ZbN (S:=S) (hO.of (A := .fact S (ZeJ H)) (by repeat' constructor)))))|(apply Zb9;rfl;(focus repeat' constructor);first|exact hx0|exact hx1|exact hx2 (by omega)))):G:=h
theorem Zvc {G:Prop}(h:G:=by(first|exact ZnB|(apply Zay;rfl;rfl;exact bd1)|(apply Zaw;rfl;rfl;exact bd2))):G:=h
theorem ZxW {G:Prop}(h:G:=by first|(apply Qy_y;rfl;exact Zvc)|exact QyA):G:=h
theorem Zkx {G:Prop}(h:G:=by repeat (first|exact QF.nil|(apply QF.mk;rfl;rfl;decide +kernel;exact ZxW))):G:=h
theorem Zxl {G G':Prop}(k:G')(h:Hold G'->G:=by intro k9;(first|refine und ?_|(apply RL_pu;rfl;exact Zvc)|(apply RD_Q;rfl;rfl;decide +kernel;rfl;rfl;exact ZxW)|refine walk1 ?_|(refine jg ?_;(try intro F);(first|(refine ZaH (fun w' hw hO=>hc0 w' (ZbN (S:=S) (hO.of (A := .fact S (ZeJ H)) (by repeat' constructor)))) ?_)|(refine ZaH (fun w' hw hO=>hc1 w' (ZbN (S:=S) (hO.of (A := .fact S (ZeJ H)) (by repeat' constructor)))) ?_)|(refine ZaH (fun w' hw hO=>hc2e w' (ZbN (S:=S) (hO.of (A := .fact S (ZeJ H)) (by repeat' constructor)))) ?_)|(refine stA ?_));first|refine⟨_,EndsA,Zkx,?_⟩|refine fin ?_)|(refine jn ?_;(try intro F);(first|(refine stA ?_)|(apply Zad;first|exact Zvc|exact PuA));first|refine⟨_,EndsA,Zkx,?_⟩|refine fin ?_));exact k9.out):G:=h ⟨k⟩
set_option maxRecDepth 20000 in
set_option maxHeartbeats 4000000 in
theorem rapS:RapS:=by
 intro A c l w hA hn _
 obtain⟨N,hN⟩:∃ N:Nat,N=701:=⟨_,rfl⟩
 have hex:∀ w',Bel w.heap.size w w'->Does Tryz.prog 247 [.slice A l.length c] w' (ZBw (Zc1 l) N):=fun w' hw=>by
  rw[hN]
  exact Zoh A c l w' (hA.up hw) hn
 have hok:=fun q:Nat=>ZkH (Zag l) (1850+(q:Int)) (ZcJ l) l 0
 change ∀ q:Nat,(Zc1 l q).length<=l.length/\∀ e∈Zc1 l q,ZlI e at hok
 rw[<- ZAf]
 unfold capD
 rw[<- hN]
 generalize Zc1 l=Y at *
 obtain⟨R,E⟩:∃ R,capJ Y N N 0 none=R:=⟨_,rfl⟩
 rw[E]
 refine Zaa Tryz.func191 rfl rfl rfl rfl ?_
 repeat (first|refine walk ?_|(refine jg ?_;(try intro F);(first|(apply Zae (h:=fun w' hw _=>hex w' hw);rfl;rintro v O' ⟨b,H,S,rfl,hHl,hH,rfl⟩)|(refine bx ?_;intro f)|(refine stA ?_));refine fin ?_)|(refine jn ?_;(try intro F);(first|(refine bx ?_;intro f)|(refine stA ?_)|(apply Zad;exact PuA));refine fin ?_)|(apply RD_W;rfl;intro f))
 rename_i b2
 obtain⟨T,hb5⟩:∃ T,f=T:=⟨_,rfl⟩
 rw[hb5]
 clear hb5 f
 refine Zai [(2,.pointer (some ⟨b2,0,none⟩)),(4,.slice (some ⟨b,0,none⟩) N N),(5,.pointer (some ⟨T,0,none⟩))] [.row (.slice (some ⟨b,0,none⟩) N N) 252 1 N (H.flatMap EvH.enc),.fact S (ZeJ H),.blk b2 [.int .i64 0,.int .i64 0,.int .i64 0] 91] (fun g:CapG=>[(6,.bool g.o.isSome),(7,.int .i64 g.k)]) (fun g=>[.blk T (evC g.o) 91])
  (fun g=>g.k<=N/\capJ Y N (N - g.k) g.k g.o=R) (fun g=>N - g.k) ⟨0,none⟩ SFA SOA ⟨Nat.zero_le _,E⟩ ?_
 clear E
 rintro⟨k,o⟩ ⟨hk,hi⟩
 dsimp only at hk hi ⊢
 repeat (first|refine walk ?_|(refine jn ?_;(try intro F);(first|(refine bx ?_;intro f)|(refine stA ?_)|(apply Zad;exact PuA));refine fin ?_)|(apply RD_W;rfl;intro f))
 refine Zaf rfl (fun hc=>?_) (fun hc=>?_)
 ·simp only[decide_eq_true_eq,Int.ofNat_lt]at hc
  obtain⟨⟨u,W,I⟩,hg0,M⟩:=hH k hc
  dsimp only at M
  have y:=hok k
  rw[<- M]at y
  have z:∀ w',ZeJ H w'->RdSl w' u W Zac.enc 3 I:=fun w' s=>s _ (List.mem_of_getElem? hg0)
  have hx0:(H.flatMap EvH.enc)[k*1]?=some (.slice u I.length W):=ZaC EvH.len H k _ 0 _ hg0 rfl
  rw[show N - k=(N - k - 1)+1 by omega,capJ,<- M]at hi
  have hlN:(I.length:Int)<=1000000:=by omega
  repeat (first|(apply RL_pu;rfl;exact ZnB)|(apply RD_Q;rfl;rfl;decide +kernel;rfl;rfl;exact QyRgC0)|refine walk1 ?_|(refine jn ?_;(try intro F);(first|(refine bx ?_;intro f)|(refine stA ?_)|(apply Zad;first|exact ZnB|exact PuA));first|refine⟨_,EndsA,QFRgC0,?_⟩|refine fin ?_)|(apply RD_W;rfl;intro f))
  refine Zai [(2,.pointer (some ⟨b2,0,none⟩)),(4,.slice (some ⟨b,0,none⟩) N N),(5,.pointer (some ⟨T,0,none⟩)),(7,.int .i64 k)] [.row (.slice (some ⟨b,0,none⟩) N N) 252 1 N (H.flatMap EvH.enc),.fact S (ZeJ H),.blk b2 [.int .i64 0,.int .i64 0,.int .i64 0] 91] (fun g:CapG=>[(6,.bool g.o.isSome),(8,.int .i64 g.k)]) (fun g=>[.blk T (evC g.o) 91])
   (fun g=>g.k<=I.length/\capJ Y N (N - k - 1) (k+1) (capI (Zmp Y N k) (I.drop g.k) g.o)=R) (fun g=>I.length - g.k) ⟨0,o⟩ SFA SOA ⟨Nat.zero_le _,hi⟩ ?_
  clear hi o
  rintro⟨i,o⟩ ⟨hil,hi⟩
  dsimp only at hil hi ⊢
  repeat (first|(apply RL_pu;rfl;exact ZnB)|(apply RD_Q;rfl;rfl;decide +kernel;rfl;rfl;exact QyRgC0)|refine walk1 ?_|(refine jn ?_;(try intro F);(first|(refine bx ?_;intro f)|(refine stA ?_)|(apply Zad;first|exact ZnB|exact PuA));first|refine⟨_,EndsA,QFRgC0,?_⟩|refine fin ?_)|(apply RD_W;rfl;intro f))
  refine Zaf rfl (fun t=>?_) (fun t=>?_)
  ·simp only[decide_eq_true_eq,Int.ofNat_lt]at t
   rw[Zah t,capI]at hi
   have hei:=List.getElem?_eq_getElem t
   have heo:=y.2 _ (List.getElem_mem t)
   generalize I[i]=e at *
   have hnn:∀ w',ZeJ H w'->u≠none:=fun w' s=>((z w' s).rd i e hei).1
   have hce:∀ w',ZeJ H w'->Zau w' ((adr u).add (i*3)) (Zac.enc e):=fun w' s=>((z w' s).rd i e hei).2
   have hc0:=fun w' s=>Zh2 e u W I w' (z w' s) (by omega) heo y.2
   have hbf:=fun b w'=>Zmd e b w'
   have Z:∀ q,q<N->∃ h:EvH,(H.flatMap EvH.enc)[q*1]?=some (.slice h.A (Y q).length h.c)/\∀ w',ZeJ H w'->Does Tryz.prog 248 [.agg e.enc.toArray,.slice h.A (Y q).length h.c] w' (fun v O=>v = .bool (Zct e (Y q))/\O=[]):=fun q hq=>by
    obtain⟨h,h1,X⟩:=hH q hq
    refine⟨h,?_,fun w' s=>?_⟩
    ·rw[<- X];exact ZaC EvH.len H q h 0 _ h1 rfl
    ·rw[<- X]
     have Q:=hok q
     rw[<- X]at Q
     exact Zh2 e h.A h.c h.l w' (s h (List.mem_of_getElem? h1)) (by omega) heo Q.2
   have hnb:Zmp Y N k e=(Zct e I||(decide (0<k)&&Zct e (Y (k - 1)))||(decide (k+1<N)&&Zct e (Y (k+1)))):=by rw[M];rfl
   obtain⟨q2,Q,hq3⟩:∃ q2,q2<N/\(k+1<N->q2=k+1):=by
    by_cases h:k+1<N
    ·exact⟨k+1,h,fun _=>rfl⟩
    ·exact⟨k,hc,fun s=>absurd s h⟩
   obtain⟨A1,c1',m1,J,hx1,hc1,he1⟩:∃ (A:Option Addr) (c m:Nat) (cb:Bool),(H.flatMap EvH.enc)[((k:Int) - 1).toNat*1]?=some (.slice A m c)/\(∀ w',ZeJ H w'->Does Tryz.prog 248 [.agg e.enc.toArray,.slice A m c] w' (fun v O=>v = .bool cb/\O=[]))/\Zct e (Y (k - 1))=cb:=by
    obtain⟨h,h1,X⟩:=Z (k - 1) (by omega)
    exact⟨h.A,h.c,_,_,by rw[show((k:Int) - 1).toNat=k - 1 by omega];exact h1,X,rfl⟩
   obtain⟨A2,c2',m2,K,hx2,hc2e,he2⟩:∃ (A:Option Addr) (c m:Nat) (cb:Bool),(k+1<N->(H.flatMap EvH.enc)[((k:Int)+1).toNat*1]?=some (.slice A m c))/\(∀ w',ZeJ H w'->Does Tryz.prog 248 [.agg e.enc.toArray,.slice A m c] w' (fun v O=>v = .bool cb/\O=[]))/\Zct e (Y q2)=cb:=by
    obtain⟨h,h1,X⟩:=Z q2 Q
    exact⟨h.A,h.c,_,_,fun s=>by rw[show((k:Int)+1).toNat=q2 by rw[hq3 s];omega];exact h1,X,rfl⟩
   clear Z
   obtain⟨D1,bd1⟩:∃ D,decide ((0:Int)<(k:Int))=D:=⟨_,rfl⟩
   obtain⟨D2,bd2⟩:∃ D,decide ((k:Int)+1<(N:Int))=D:=⟨_,rfl⟩
   obtain⟨r,he0⟩:∃ r,Zct e I=r:=⟨_,rfl⟩
   have U:Zmp Y N k e=(r||(D1&&J)||(D2&&K)):=by
    rw[hnb,he0,he1,show decide (0<k)=D1 by rw[<- bd1];exact decide_eq_decide.2 (by omega),show decide (k+1<N)=D2 by rw[<- bd2];exact decide_eq_decide.2 (by omega)]
    cases D2 with
    | false=>rfl
    | true=>rw[<- hq3 (by have:=of_decide_eq_true bd2;omega),he2]
   rw[U]at hi
   rw[he0]at hc0
   clear hnb U he0 he1 he2
   have hd:((r||(D1&&J)||(D2&&K))=true/\(r=true\/(r=false/\D1=true/\J=true)\/(r=false/\D1=true/\J=false/\D2=true/\K=true)\/(r=false/\D1=false/\D2=true/\K=true)))\/((r||(D1&&J)||(D2&&K))=false/\((r=false/\D1=true/\J=false/\D2=true/\K=false)\/(r=false/\D1=true/\J=false/\D2=false)\/(r=false/\D1=false/\D2=true/\K=false)\/(r=false/\D1=false/\D2=false))):=by
    cases r <;> cases J <;> cases K <;> cases D1 <;> cases D2 <;> simp
   obtain⟨ey,er,en⟩:=e
   simp only[Zac.enc]at hce hc0 hc1 hc2e hbf heo
   obtain⟨nb,j⟩:∃ nb,(r||(D1&&J)||(D2&&K))=nb:=⟨_,rfl⟩
   rw[j]at hi
   repeat refine ZzA ?_
   apply RL_pu
   ·rfl
   ·exact Zb9 rfl (by(focus repeat' constructor)) hx0
   refine walk1 ?_
   apply RL_pu
   ·rfl
   ·apply ZaG
    ·rfl
    ·rfl
    ·omega
    ·omega
    ·intro w' _ hO
     exact hnn w' (ZbN (S:=S) (hO.of (A := .fact S (ZeJ H)) (by repeat' constructor)))
   apply RL_pu
   ·rfl
   ·apply Zhz (cs:=[.int .i64 ey,.int .i64 er,.int .i64 en])
    ·rfl
    ·rfl
    ·intro w' _ hO
     exact hce w' (ZbN (S:=S) (hO.of (A := .fact S (ZeJ H)) (by repeat' constructor)))
   repeat (first|refine ZzA ?_|(refine jn ?_;(try intro F);(first|(refine bx ?_;intro f)|(refine stA ?_)|(apply Zad;exact PuA));refine fin ?_)|(apply RD_W;rfl;intro f))
   refine Zb6 (fun fr' O'=>Sub [(10,.bool nb),(6,.bool o.isSome),(8,.int .i64 i),(9,.pointer (some ⟨f,0,none⟩)),(2,.pointer (some ⟨b2,0,none⟩)),(4,.slice (some ⟨b,0,none⟩) N N),(5,.pointer (some ⟨T,0,none⟩)),(7,.int .i64 k)] fr'/\SubO [.blk f [.int .i64 ey,.int .i64 er,.int .i64 en] 91,.blk T (evC o) 91,.row (.slice (some ⟨b,0,none⟩) N N) 252 1 N (H.flatMap EvH.enc),.fact S (ZeJ H),.blk b2 [.int .i64 0,.int .i64 0,.int .i64 0] 91] O') ?_ ?_
   ·clear hi hbf
    rcases hd with⟨hn1,hd⟩|⟨hn1,hd⟩
    ·rw[hn1]at j
     subst j
     clear hn1
     rcases hd with rfl|⟨rfl,rfl,rfl⟩|⟨rfl,rfl,rfl,rfl,rfl⟩|⟨rfl,rfl,rfl,rfl⟩
     all_goals
      try have d1:(0:Int)<(k:Int):=of_decide_eq_true bd1
      try have d2:(k:Int)+1<(N:Int):=of_decide_eq_true bd2
      repeat (first|refine Zxl ?_|(refine jg ?_;(try intro F);(refine bx ?_;intro f);first|refine⟨_,EndsA,Zkx,?_⟩|refine fin ?_)|(refine jn ?_;(try intro F);(refine bx ?_;intro f);first|refine⟨_,EndsA,Zkx,?_⟩|refine fin ?_)|(apply RD_W;rfl;intro f))
      exact⟨rfl,SFA,SOA⟩
    ·rw[hn1]at j
     subst j
     clear hn1
     rcases hd with⟨rfl,rfl,rfl,rfl,rfl⟩|⟨rfl,rfl,rfl,rfl⟩|⟨rfl,rfl,rfl,rfl⟩|⟨rfl,rfl,rfl⟩
     all_goals
      try have d1:(0:Int)<(k:Int):=of_decide_eq_true bd1
      try have d2:(k:Int)+1<(N:Int):=of_decide_eq_true bd2
      repeat (first|refine Zxl ?_|(refine jg ?_;(try intro F);(refine bx ?_;intro f);first|refine⟨_,EndsA,Zkx,?_⟩|refine fin ?_)|(refine jn ?_;(try intro F);(refine bx ?_;intro f);first|refine⟨_,EndsA,Zkx,?_⟩|refine fin ?_)|(apply RD_W;rfl;intro f))
      exact⟨rfl,SFA,SOA⟩
   clear hd j hc0 hc1 hc2e hx1 hx2 hx0 bd1 bd2
   rintro fr' O' ⟨hf,hO⟩
   apply thenQ_n
   refine ZcV hf hO ?_
   clear hf hO fr' O'
   cases nb with
   | false =>
    rw[Bool.false_and,if_neg (by decide)]at hi
    repeat (first|refine und ?_|refine walk ?_|(refine jn ?_;(try intro F);(first|(refine bx ?_;intro f)|(refine stA ?_)|(apply Zad;exact PuA));refine fin ?_)|(apply RD_W;rfl;intro f))
    exact⟨⟨i+1,o⟩,OA,⟨OA,hi⟩,SFA,SOA⟩
   | true =>
    rw[Bool.true_and]at hi
    cases o with
    | none =>
     simp only[befE,if_true]at hi
     simp only[evC,Option.isSome,Zac.enc,dEv0]
     repeat (first|refine und ?_|refine walk ?_|(refine jn ?_;(try intro F);(first|(refine bx ?_;intro f)|(refine stA ?_)|(apply Zad;exact PuA));refine fin ?_)|(apply RD_W;rfl;intro f))
     exact⟨⟨i+1,some ⟨ey,er,en⟩⟩,OA,⟨OA,hi⟩,SFA,SOA⟩
    | some x =>
     have L:=hbf x
     obtain⟨xy,xr,xn⟩:=x
     simp only[evC,Option.isSome,Zac.enc]at L ⊢
     obtain⟨lt,hlt⟩:∃ lt,ltE ⟨ey,er,en⟩ ⟨xy,xr,xn⟩=lt:=⟨_,rfl⟩
     rw[show befE ⟨ey,er,en⟩ (some ⟨xy,xr,xn⟩)=lt from hlt]at hi
     simp only[hlt]at L
     cases lt with
     | false =>
      rw[if_neg (by decide)]at hi
      repeat (first|refine und ?_|refine walk ?_|(refine jg ?_;(try intro F);(first|(refine Zab (fun w' hw=>L w') ?_)|(refine bx ?_;intro f)|(refine stA ?_));refine fin ?_)|(refine jn ?_;(try intro F);(first|(refine bx ?_;intro f)|(refine stA ?_)|(apply Zad;exact PuA));refine fin ?_)|(apply RD_W;rfl;intro f))
      exact⟨⟨i+1,some ⟨xy,xr,xn⟩⟩,OA,⟨OA,hi⟩,SFA,SOA⟩
     | true =>
      rw[if_pos rfl]at hi
      repeat (first|refine und ?_|refine walk ?_|(refine jg ?_;(try intro F);(first|(refine Zab (fun w' hw=>L w') ?_)|(refine bx ?_;intro f)|(refine stA ?_));refine fin ?_)|(refine jn ?_;(try intro F);(first|(refine bx ?_;intro f)|(refine stA ?_)|(apply Zad;exact PuA));refine fin ?_)|(apply RD_W;rfl;intro f))
      exact⟨⟨i+1,some ⟨ey,er,en⟩⟩,OA,⟨OA,hi⟩,SFA,SOA⟩
  ·simp only[decide_eq_false_iff_not,Int.ofNat_lt]at t
   rw[List.drop_eq_nil_of_le (by omega),capI]at hi
   repeat (first|refine walk ?_|(refine jn ?_;(try intro F);(first|(refine bx ?_;intro f)|(refine stA ?_)|(apply Zad;exact PuA));refine fin ?_)|(apply RD_W;rfl;intro f))
   exact⟨⟨k+1,o⟩,OA,⟨OA,by dsimp only;rw[show N - (k+1)=N - k - 1 by omega];exact hi⟩,SFA,SOA⟩
 ·simp only[decide_eq_false_iff_not,Int.ofNat_lt]at hc
  obtain rfl:k=N:=by omega
  rw[Nat.sub_self,capJ]at hi
  subst hi
  cases o with
  | none =>
   simp only[evC,apV,Zac.enc,dEv0,Option.isSome]
   repeat (first|refine walk ?_|(refine jn ?_;(try intro F);(first|(refine bx ?_;intro f)|(refine stA ?_)|(apply Zad;exact PuA));refine fin ?_)|(apply RD_W;rfl;intro f))
   exact rtC
  | some e =>
   simp only[evC,apV,Zac.enc,Option.isSome]
   repeat (first|refine walk ?_|(refine jn ?_;(try intro F);(first|(refine bx ?_;intro f)|(refine stA ?_)|(apply Zad;exact PuA));refine fin ?_)|(apply RD_W;rfl;intro f))
   exact rtC
end Go.Proofs.YtpipekfmecikmaaGreatDoor
namespace Go.Proofs.YtpipekfmecikmaaGreatDoor
open Go Go.RowKit Go.Wk
theorem Zgy (L n y:Int):∀ (l:List DRule) (i:Nat),farI L n y l i=false↔∃ (j:Nat) (r:DRule) (e:Zac),l[j]?=some r/\onR L r ((i+j:Nat):Int) y=some e/\e.nominal<n+259200/\n - 259200<e.nominal
 | [],i=>by simp[farI]
 | r::l,i=>by
  have b:=Zgy L n y l (i+1)
  have c:(∃ (j:Nat) (r':DRule) (e:Zac),(r::l)[j]?=some r'/\onR L r' ((i+j:Nat):Int) y=some e/\e.nominal<n+259200/\n - 259200<e.nominal)↔(∃ e,onR L r (i:Int) y=some e/\e.nominal<n+259200/\n - 259200<e.nominal)\/(∃ (j:Nat) (r':DRule) (e:Zac),l[j]?=some r'/\onR L r' ((i+1+j:Nat):Int) y=some e/\e.nominal<n+259200/\n - 259200<e.nominal):=by
   constructor
   ·rintro⟨j,r',e,h1,h2,h3⟩
    cases j with
    | zero=>simp only[List.getElem?_cons_zero,Option.some.injEq]at h1;subst h1;exact .inl ⟨e,h2,h3⟩
    | succ j=>exact .inr ⟨j,r',e,by simpa using h1,by rw[show i+1+j=i+(j+1) by omega];exact h2,h3⟩
   ·rintro(⟨e,h⟩|⟨j,r',e,h1,h2,h3⟩)
    ·exact⟨0,r,e,rfl,h⟩
    ·exact⟨j+1,r',e,by simpa using h1,by rw[show i+(j+1)=i+1+j by omega];exact h2,h3⟩
  rw[c,farI]
  cases he:onR L r (i:Int) y with
  | none=>simpa using b
  | some e =>
   dsimp only
   by_cases a:e.nominal<n+259200/\n - 259200<e.nominal
   ·rw[if_pos a]
    exact⟨fun _ => .inl ⟨e,rfl,a⟩,fun _=>rfl⟩
   ·rw[if_neg a,b]
    constructor
    ·exact .inr
    ·rintro(⟨e',h1,h2⟩|h)
     ·cases h1;exact absurd h2 a
     ·exact h
theorem Zj9 (L n:Int)(l:List DRule):∀ (k:Nat) (y:Int),farY L n l y k=false↔∃ q:Nat,q<k/\farI L n (y+q) l 0=false
 | 0,y=>by simp[farY]
 | k+1,y=>by
  rw[farY,Bool.and_eq_false_iff,Zj9 L n l k (y+1)]
  constructor
  ·rintro(h|⟨q,hq,h⟩)
   ·exact⟨0,by omega,by simpa using h⟩
   ·exact⟨q+1,by omega,by rw[show y+((q+1:Nat):Int)=y+1+q by omega];exact h⟩
  ·rintro⟨q,hq,h⟩
   cases q with
   | zero=>left;simpa using h
   | succ q=>exact .inr ⟨q,by omega,by rw[show y+1+(q:Int)=y+((q+1:Nat):Int) by omega];exact h⟩
theorem Zka (least nominal:Int)(r:DRule)(i:Int):∀ (k:Nat) (y:Int) (e:Zac),evIn least nominal r i y k=some e->∃ q:Nat,onR least r i (y+q)=some e/\nominal<e.nominal
 | 0,_,_,h=>by cases h
 | k+1,y,e,h=>by
  rw[evIn]at h
  have b:=Zka least nominal r i k (y+1) e
  have lift:(∃ q:Nat,onR least r i (y+1+q)=some e/\nominal<e.nominal)->∃ q:Nat,onR least r i (y+q)=some e/\nominal<e.nominal:=by
   rintro⟨q,hq⟩
   exact⟨q+1,by rw[show y+((q+1:Nat):Int)=y+1+q by omega];exact hq⟩
  cases he:onR least r i y with
  | none=>rw[he]at h;exact lift (b h)
  | some e' =>
   rw[he]at h
   dsimp only at h
   by_cases a:nominal<e'.nominal
   ·rw[if_pos a]at h
    cases h
    exact⟨0,by simpa using he,a⟩
   ·rw[if_neg a]at h
    exact lift (b h)
theorem ZiK (least nominal:Int)(r:DRule)(i:Int):∀ (k:Nat) (y:Int) (q:Nat) (e:Zac),q<k->onR least r i (y+q)=some e->nominal<e.nominal->∃ a,evIn least nominal r i y k=some a/\a.nominal<=e.nominal
 | 0,_,_,_,h,_,_=>absurd h (by omega)
 | k+1,y,q,e,h,h1,h2=>by
  rw[evIn]
  cases he:onR least r i y with
  | none =>
   cases q with
   | zero=>rw[show y+((0:Nat):Int)=y by omega,he]at h1;cases h1
   | succ q=>exact ZiK least nominal r i k (y+1) q e (by omega) (by rw[show y+1+(q:Int)=y+((q+1:Nat):Int) by omega];exact h1) h2
  | some a =>
   dsimp only
   by_cases b:nominal<a.nominal
   ·rw[if_pos b]
    refine⟨a,rfl,?_⟩
    cases q with
    | zero=>rw[show y+((0:Nat):Int)=y by omega,he]at h1;cases h1;exact Int.le_refl _
    | succ q=>exact Int.le_of_lt (ZkV he h1 (by omega))
   ·rw[if_neg b]
    cases q with
    | zero=>rw[show y+((0:Nat):Int)=y by omega,he]at h1;cases h1;exact absurd h2 b
    | succ q=>exact ZiK least nominal r i k (y+1) q e (by omega) (by rw[show y+1+(q:Int)=y+((q+1:Nat):Int) by omega];exact h1) h2
theorem Zf3 (least a c:Int):∀ (l:List DRule) (i:Nat) (b:Option Zac) (e:Zac),Zby least a c l i b=some e->b=some e\/∃ (j:Nat) (r:DRule),l[j]?=some r/\evIn least a r ((i+j:Nat):Int) (max (max r.from_ (-2000000000)) (c - 2)) 20=some e
 | [],_,_,_,h => .inl h
 | r::l,i,b,e,h=>by
  rw[Zby]at h
  rcases Zf3 least a c l (i+1) _ e h with h1|⟨j,r',h1,h2⟩
  ·cases he:evIn least a r i (max (max r.from_ (-2000000000)) (c - 2)) 20 with
   | none=>rw[he]at h1;exact .inl h1
   | some e' =>
    rw[he]at h1
    have d:∀ x,e'=x->∃ (j:Nat) (r':DRule),(r::l)[j]?=some r'/\evIn least a r' ((i+j:Nat):Int) (max (max r'.from_ (-2000000000)) (c - 2)) 20=some x:=fun x f=>⟨0,r,rfl,by rw[<- f];exact he⟩
    cases b with
    | none=>cases h1;exact .inr (d _ rfl)
    | some b =>
     dsimp only at h1
     split at h1
     ·cases h1;exact .inr (d _ rfl)
     ·exact .inl h1
  ·exact .inr ⟨j+1,r',by simpa using h1,by rw[show i+(j+1)=i+1+j by omega];exact h2⟩
theorem ZcK (least nominal c:Int):∀ (l:List DRule) (i:Nat) (b:Zac),∃ e,Zby least nominal c l i (some b)=some e/\e.nominal<=b.nominal
 | [],_,b=>⟨b,rfl,Int.le_refl _⟩
 | r::l,i,b=>by
  rw[Zby]
  cases he:evIn least nominal r i (max (max r.from_ (-2000000000)) (c - 2)) 20 with
  | none=>exact ZcK least nominal c l (i+1) b
  | some e' =>
   dsimp only
   split
   ·rename_i a
    obtain⟨e,d,f⟩:=ZcK least nominal c l (i+1) e'
    have:e'.nominal<=b.nominal:=by
     unfold ordE at a
     split at a
     ·omega
     ·split at a
      ·omega
      ·omega
    exact⟨e,d,by omega⟩
   ·exact ZcK least nominal c l (i+1) b
theorem Zhc (least nominal d:Int):∀ (l:List DRule) (i:Nat) (b:Option Zac) (j:Nat) (r:DRule) (a:Zac),l[j]?=some r->evIn least nominal r ((i+j:Nat):Int) (max (max r.from_ (-2000000000)) (d - 2)) 20=some a->∃ e,Zby least nominal d l i b=some e/\e.nominal<=a.nominal
 | [],_,_,_,_,_,h,_=>by simp at h
 | r0::l,i,b,0,r,a,h,h2=>by
  simp only[List.getElem?_cons_zero,Option.some.injEq]at h
  subst h
  rw[Zby,show evIn least nominal r0 (i:Int) (max (max r0.from_ (-2000000000)) (d - 2)) 20=some a from h2]
  cases b with
  | none=>exact ZcK least nominal d l (i+1) a
  | some b =>
   dsimp only
   split
   ·exact ZcK least nominal d l (i+1) a
   ·rename_i c
    obtain⟨e,g1,g2⟩:=ZcK least nominal d l (i+1) b
    refine⟨e,g1,?_⟩
    unfold ordE at c
    split at c
    ·omega
    ·split at c <;> omega
 | r0::l,i,b,j+1,r,a,h,h2=>by
  rw[Zby]
  exact Zhc least nominal d l (i+1) _ j r a (by simpa using h) (by rw[show i+1+j=i+(j+1) by omega];exact h2)
theorem farS:FarS:=by
 intro l n v
 have i:=ZcJ l
 have w:=Zge (t:=n) (by omega) (by omega)
 have x:=Zge (t:=n - 259200) (by omega) (by omega)
 have m:ZaE (n - 259200)<=ZaE n+1:=Zdt (by omega)
 have o:ZaE n<=ZaE (n - 259200)+1:=Zdt (by omega)
 have f:farR l n=false↔∃ (y:Int) (j:Nat) (r:DRule) (e:Zac),ZaE n - 1<=y/\y<=ZaE n+1/\l[j]?=some r/\onR (Zag l) r (j:Int) y=some e/\e.nominal<n+259200/\n - 259200<e.nominal:=by
  unfold farR
  rw[Zj9]
  constructor
  ·rintro⟨q,hq,h⟩
   obtain⟨j,r,e,g1,g2,g3⟩:=(Zgy _ _ _ _ _).1 h
   rw[Nat.zero_add]at g2
   exact⟨_,j,r,e,by omega,by omega,g1,g2,g3⟩
  ·rintro⟨y,j,r,e,a1,a2,g1,g2,g3⟩
   refine⟨(y - (ZaE n - 1)).toNat,by omega,(Zgy _ _ _ _ _).2 ⟨j,r,e,g1,?_,g3⟩⟩
   rw[Nat.zero_add,show ZaE n - 1+((y - (ZaE n - 1)).toNat:Int)=y by omega]
   exact g2
 have g:farD l n=false↔∃ e,ZeF l (n - 259200)=some e/\e.nominal<n+259200:=by
  unfold farD
  cases h:ZeF l (n - 259200) with
  | none=>simp
  | some e =>
   simp only[decide_eq_false_iff_not,Option.some.injEq,exists_eq_left']
   omega
 have b:farD l n=false↔farR l n=false:=by
  rw[f,g]
  constructor
  ·rintro⟨e,he,hlt⟩
   unfold ZeF at he
   rcases Zf3 _ _ _ _ _ _ _ he with h|⟨j,r,g1,g2⟩
   ·cases h
   rw[Nat.zero_add]at g2
   obtain⟨q,g3,g4⟩:=Zka _ _ _ _ _ _ _ g2
   have a:=ZpY i g3
   generalize max (max r.from_ (-2000000000)) (ZaE (n - 259200) - 2)+(q:Int)=y at *
   have s:y<=ZaE n+1:=Zdt (by omega)
   have u:ZaE n<=y+1:=Zdt (by omega)
   exact⟨y,j,r,e,by omega,by omega,g1,g3,hlt,g4⟩
  ·rintro⟨y,j,r,e,a1,a2,g1,g2,g3,g4⟩
   obtain⟨_,_,A,_⟩:=ZbJ g2
   have k:max (max r.from_ (-2000000000)) (ZaE (n - 259200) - 2)<=y:=by omega
   obtain⟨c,k1,k2⟩:=ZiK (Zag l) (n - 259200) r (j:Int) 20 (max (max r.from_ (-2000000000)) (ZaE (n - 259200) - 2)) (y - max (max r.from_ (-2000000000)) (ZaE (n - 259200) - 2)).toNat e (by omega) (by rw[show max (max r.from_ (-2000000000)) (ZaE (n - 259200) - 2)+((y - max (max r.from_ (-2000000000)) (ZaE (n - 259200) - 2)).toNat:Int)=y by omega];exact g2) g4
   obtain⟨d,p,z⟩:=Zhc (Zag l) (n - 259200) (ZaE (n - 259200)) l 0 none j r c g1 (by rw[Nat.zero_add];exact k1)
   exact⟨d,p,by omega⟩
 cases ha:farD l n <;> cases a:farR l n
 ·rfl
 ·rw[b.1 ha]at a;cases a
 ·rw[b.2 a]at ha;cases ha
 ·rfl
attribute [local irreducible] W RL Does Zat Zaj retQ Calls Pu Stp RD Qy Ay Zak
theorem ZAQ:ZAx:=fun Ar Az Al As e f d cs a z Ae c w g h j k b l i=>Zog Ar Az Al As e f d cs a z Ae c w g h j k b l i
theorem ZAT {w:World}{Ar Az Al As:Option Addr}{c d b cs:Nat}{a:DSource}(h:Zcb w Ar Az Al As c d b cs a):Does Tryz.prog 85 [srcV Ar Az Al As c d b cs a] w (fun v O=>v=ptV (accD a)/\O=[]) :=
 Zok Ar Az Al As c d b cs a w rapS farS ZAQ h.A h.S h.V h.Z
end Go.Proofs.YtpipekfmecikmaaGreatDoor
