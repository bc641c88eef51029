/- Parts of the proof. -/
import Derived.Test.YtpipekfmecikmaaGreatDoorV23
import Derived.Test.YtpipekfmecikmaaGreatDoorV35
import Derived.Test.YtpipekfmecikmaaGreatDoorV26
import Derived.Test.YtpipekfmecikmaaGreatDoorV15
import Derived.Test.YtpipekfmecikmaaGreatDoorV31
import Derived.Test.YtpipekfmecikmaaGreatDoorV24
import Derived.Test.YtpipekfmecikmaaGreatDoorV25
import Derived.Test.YtpipekfmecikmaaGreatDoorV30
set_option maxHeartbeats 4000000
set_option linter.unusedVariables false
set_option linter.unusedSimpArgs false
namespace Go.Proofs.YtpipekfmecikmaaGreatDoor
open Go Go.RowKit Go.Wk
attribute [local irreducible] W RL Does Zat Zaj retQ Calls Pu Stp RD Qy Ay Zak
theorem Zvd {α:Type}(enc:α->List Value){sz:Nat}(hlen:∀ a,(enc a).length=sz)(h0:0<sz)(d:α)(N:Nat):(madeCells (enc d).toArray (N*sz)).toList=(List.replicate N d).flatMap enc:=by
 have hfl:=ZbA hlen (List.replicate N d)
 rw[List.length_replicate]at hfl
 apply List.ext_getElem?
 intro i
 by_cases hi:i<N*sz
 ·have hk:i / sz<N:=Nat.div_lt_of_lt_mul (by rw[Nat.mul_comm];exact hi)
  have hj:i % sz<(enc d).length:=by rw[hlen];exact Nat.mod_lt _ h0
  have h1:=Zao hlen (List.replicate N d) (i / sz) d (i % sz) ((enc d)[i % sz]) (by rw[List.getElem?_replicate,if_pos hk]) (List.getElem?_eq_getElem hj)
  rw[Nat.mul_comm,Nat.div_add_mod]at h1
  rw[h1]
  have hj2:i % (enc d).length<(enc d).length:=by rw[hlen];rw[hlen]at hj;exact hj
  simp only[madeCells,Array.getElem?_toList,Array.getElem?_map,List.size_toArray]
  rw[Array.getElem?_eq_getElem (by simpa using hi)]
  simp only[Array.getElem_range,Option.map_some,Option.some.injEq]
  rw[getElem!_pos _ _ (by simpa using hj2),List.getElem_toArray]
  congr 1
  rw[hlen]
 ·rw[List.getElem?_eq_none (l:=(madeCells (enc d).toArray (N*sz)).toList) (by rw[Array.length_toList,size_madeCells];omega),List.getElem?_eq_none (by rw[hfl];omega)]
structure EvH where
 A:Option Addr
 c:Nat
 l:List Zad
def EvH.v (h:EvH):Value := .slice h.A h.l.length h.c
def EvH.enc (h:EvH):List Value:=[h.v]
def EvH.row (h:EvH):It:=Zku h.A h.c h.l
theorem EvH.len (h:EvH):h.enc.length=1:=rfl
def nilV:Value := .slice none 0 0
def hNil:EvH:=⟨none,0,[]⟩
def Zma:List Value:=List.replicate 701 nilV
theorem z701:(madeCells ([.slice none 0 0]:List Value).toArray (701*1)).toList=Zma:=by
 have:=Zvd EvH.enc EvH.len (by decide) hNil 701
 rw[show EvH.enc hNil=[.slice none 0 0] from rfl]at this
 rw[this]
 have h:∀ n,(List.replicate n hNil).flatMap EvH.enc=List.replicate n nilV:=fun n=>by
  induction n with
  | zero=>rfl
  | succ n ih=>rw[List.replicate_succ,List.flatMap_cons,ih];rfl
 exact h 701
structure XG where
 k:Nat
 A:Option Addr
 c:Nat
 m:Nat
 ys:List Value
 acc:List Zad
 xs:List Value
 hr:List EvH
def Za7 (hr:List EvH)(v:Value)(k:Nat):List Value:=hr.reverse.map EvH.v++v::List.replicate k nilV
theorem Zlh (hr:List EvH)(v v':Value)(k:Nat){j:Nat}(hj:hr.length=j):(Za7 hr v k).set j v'=Za7 hr v' k:=by
 unfold Za7
 rw[List.set_append_right _ _ (by simp[hj]),show j - (hr.reverse.map EvH.v).length=0 by simp[hj],List.set_cons_zero]
theorem Zlj (hr:List EvH)(v:Value)(k:Nat){j:Nat}(hj:hr.length=j):(Za7 hr v k)[j]?=some v:=by
 unfold Za7
 rw[List.getElem?_append_right (by simp[hj]),show j - (hr.reverse.map EvH.v).length=0 by simp[hj],List.getElem?_cons_zero]
theorem Zli (hr:List EvH)(v:Value)(k:Nat):(Za7 hr v k).length=hr.length+1+k:=by simp[Za7];omega
theorem Zj9 (h:EvH)(hr:List EvH)(k:Nat):Za7 hr h.v (k+1)=Za7 (h::hr) nilV k:=by
 simp[Za7,List.replicate_succ]
theorem Zo2:∀ l:List EvH,l.flatMap EvH.enc=l.map EvH.v
 | []=>rfl
 | h::l=>by rw[List.flatMap_cons,Zo2 l];rfl
def ZAy (Y:Nat->List Zad)(N:Nat)(v:Value)(O:List It):Prop:=∃ (b:Nat) (hr:List EvH),v = .slice (some ⟨b,0,none⟩) N N/\hr.length=N/\(∀ q,q<N->∃ h:EvH,hr.reverse[q]?=some h/\h.l=Y q) /\
 O = .row (.slice (some ⟨b,0,none⟩) N N) 252 1 N (hr.reverse.flatMap EvH.enc)::hr.map EvH.row
attribute [local irreducible] Zma Za7
theorem ZtK {G:Prop}(h:G:=by(first|(apply Zap;rfl;rfl;omega;omega;(intro w' _ hO;nofun))|(apply ZbW;rfl;(focus repeat' constructor);exact hxk))):G:=h
theorem Zwm {G:Prop}(h:G:=by first|(apply Qy_y;rfl;exact ZtK)|exact QyA):G:=h
theorem ZzY {G:Prop}(h:G:=by repeat (first|exact QF.nil|(apply QF.mk;rfl;rfl;decide +kernel;exact Zwm))):G:=h
set_option maxHeartbeats 2000000 in
theorem Zql (A:Option Addr)(c:Nat)(l:List DRule)(w:World)(hA:RdSl w A c DRule.enc 11 l)(hn:l.length<=1000000) :
  Does Tryz.prog 247 [.slice A l.length c] w (ZAy (ZcQ l) 701):=by
 have hons:=fun(i:Nat) (y:Int) (r:DRule) (hi:l[i]?=some r) w' (hw:Bel w.heap.size w w')=>Zkc A c l i y r w' (hA.up hw) hi
 have h0:Zma=Za7 [] nilV 700:=by
  unfold Zma Za7
  rw[List.reverse_nil,List.map_nil,List.nil_append,<- List.replicate_succ]
 have hyE:∀ q:Nat,ZcQ l q=Zcx (Zah l) (1850+(q:Int)) l 0:=fun q=>rfl
 generalize ZcQ l=Y at *
 generalize Zah l=L at *
 refine Zaa Tryz.func247 rfl rfl rfl rfl ?_
 repeat (first|refine walk ?_|(refine jn ?_;(try intro F);(first|(apply Zs5 (N:=701) (z:=[.slice none 0 0]);rfl;rfl;decide;decide;decide;exact z701;intro b)|(refine bx ?_;intro bk)|(refine stA ?_)|(apply Zac;exact PuA));refine fin ?_)|(apply RD_W;rfl;intro bk))
 obtain⟨M,hM⟩:∃ M:Nat,M=700:=⟨_,rfl⟩
 rw[<- hM]at h0
 rw[show(701:Nat)=M+1 by omega]
 refine Zai [(0,.slice A l.length c),(3,.slice (some ⟨b,0,none⟩) (M+1) (M+1))] [] (fun g:XG=>[(4,.int .i64 g.k)]) (fun g => .row (.slice (some ⟨b,0,none⟩) (M+1) (M+1)) 252 1 (M+1) g.xs::g.hr.map EvH.row)
  (fun g=>g.k<=M+1/\g.hr.length=g.k/\(g.k<M+1->g.xs=Za7 g.hr nilV (M - g.k))/\(g.k=M+1->g.xs=g.hr.reverse.map EvH.v)/\∀ q,q<g.k->∃ h,g.hr.reverse[q]?=some h/\h.l=Y q) (fun g=>M+1 - g.k) ⟨0,none,0,0,[],[],Zma,[]⟩ SFA STA ⟨Nat.zero_le _,rfl,fun _=>h0,fun h=>absurd h (by dsimp only;omega),fun q hq=>absurd hq (Nat.not_lt_zero _)⟩ ?_
 clear h0
 rintro⟨k,A1,c1,m,ys,acc,xs,hr⟩ ⟨hk,hrl,hx,hx2,hH⟩
 dsimp only at hk hrl hx hx2 hH ⊢
 clear A1 c1 m ys acc
 repeat (first|refine walk ?_|(refine jn ?_;(try intro F);(first|(refine bx ?_;intro bk)|(refine stA ?_)|(apply Zac;exact PuA));refine fin ?_)|(apply RD_W;rfl;intro bk))
 refine Zaf rfl (fun hc=>?_) (fun hc=>?_)
 ·simp only[decide_eq_true_eq,Int.ofNat_lt]at hc
  have hx:=hx hc
  obtain⟨N2,hN2⟩:∃ N2,M - k=N2:=⟨_,rfl⟩
  rw[hN2]at hx
  repeat (first|refine walk ?_|(refine jn ?_;(try intro F);(first|(refine bx ?_;intro bk)|(refine stA ?_)|(apply Zac;exact PuA));refine fin ?_)|(apply RD_W;rfl;intro bk))
  refine ZdN 91 3 ?_
  refine Zai [(0,.slice A l.length c),(3,.slice (some ⟨b,0,none⟩) (M+1) (M+1)),(4,.int .i64 k)] [] (fun g:XG=>[(5,.int .i64 g.k)]) (fun g => .row (.slice g.A g.m g.c) 91 3 g.m g.ys :: .row (.slice (some ⟨b,0,none⟩) (M+1) (M+1)) 252 1 (M+1) g.xs::hr.map EvH.row)
   (fun g=>g.k<=l.length/\g.m=g.acc.length/\g.ys=g.acc.flatMap Zad.enc/\g.m<=g.k/\g.xs=Za7 hr (.slice g.A g.m g.c) N2/\g.acc++Zcx L (1850+k) (l.drop g.k) g.k=Y k) (fun g=>l.length - g.k) ⟨0,none,0,0,[],[],xs,[]⟩ SFA STA ⟨Nat.zero_le _,rfl,rfl,Nat.le_refl _,hx,(hyE k).symm⟩ ?_
  clear hx2 hx
  rintro⟨i,A1,c1,m,ys,acc,xs,hr0⟩ ⟨hil,hm,hy,hmi,hx,hi⟩
  dsimp only at hil hm hy hmi hx hi ⊢
  clear hr0
  repeat (first|refine walk ?_|(refine jn ?_;(try intro F);(first|(refine bx ?_;intro bk)|(refine stA ?_)|(apply Zac;exact PuA));refine fin ?_)|(apply RD_W;rfl;intro bk))
  refine Zaf rfl (fun hc2=>?_) (fun hc2=>?_)
  ·simp only[decide_eq_true_eq,Int.ofNat_lt]at hc2
   have ho:=hons i (1850+(k:Int)) _ (List.getElem?_eq_getElem hc2)
   rw[Zag hc2,Zcx]at hi
   generalize onR L l[i] i (1850+(k:Int))=o at *
   have hxk:xs[k*1]?=some (.slice A1 m c1):=by rw[hx];exact Zlj hr _ N2 (by omega)
   have hst:∀ A' c',lay xs (k*1) [.slice A' (m+1) c']=Za7 hr (.slice A' (m+1) c') N2:=fun A' c'=>by rw[hx];exact Zlh hr _ _ N2 (by omega)
   have hxl:xs.length=M+1:=by rw[hx,Zli];omega
   cases o with
   | none =>
    simp only[evV,Zad.enc,dEv0,Option.isSome,Option.toList,List.nil_append]at ho hi
    repeat (first|refine walk ?_|(refine jg ?_;(try intro F);(first|(refine Zab ho ?_)|(refine bx ?_;intro bk)|(refine stA ?_));refine fin ?_)|(refine jn ?_;(try intro F);(first|(refine bx ?_;intro bk)|(refine stA ?_)|(apply Zac;exact PuA));refine fin ?_)|(apply RD_W;rfl;intro bk))
    exact⟨⟨i+1,A1,c1,m,ys,acc,xs,[]⟩,OA,⟨OA,hm,hy,OA,hx,hi⟩,SFA,STA⟩
   | some e =>
    obtain⟨ey,er,en⟩:=e
    simp only[evV,Zad.enc,Option.isSome,Option.toList]at ho hi
    repeat (first|(apply RL_pu;rfl;exact ZtK)|(refine js ?_;(first|(refine Zab ho ?_)|(apply ZaT;rfl;rfl;(intro A' c';(focus repeat' constructor));(intro w' _ hO;exact Zcu (hO.of (by repeat' constructor)));rfl;rfl;(simp only[maxLen];omega);omega;intro A' c' hc1 hc2 hc3)|(apply Zgh;rfl;rfl;(focus repeat' constructor);rfl;rfl;rfl;omega;decide;exact hst _ _)|(refine bx ?_;intro bk)))|(apply RD_Q;rfl;rfl;decide +kernel;rfl;rfl;exact Zwm)|refine walk1 ?_|(refine Zdo ?_;intro F;(refine Zab ho ?_);refine⟨_,EndsA,SubO.right _ _,?_⟩)|(refine RD_Lw ?_;intro F;(first|(refine Zab ho ?_)|(apply ZaT;rfl;rfl;(intro A' c';(focus repeat' constructor));(intro w' _ hO;exact Zcu (hO.of (by repeat' constructor)));rfl;rfl;(simp only[maxLen];omega);omega;intro A' c' hc1 hc2 hc3)|(apply Zgh;rfl;rfl;(focus repeat' constructor);rfl;rfl;rfl;omega;decide;exact hst _ _)|(refine bx ?_;intro bk)|(refine stA ?_)|(apply Zac;first|exact ZtK|exact PuA));refine⟨_,EndsA,ZzY,?_⟩)|(apply RD_W;rfl;intro bk))
    exact⟨⟨i+1,A',c',m+1,ys++[.int .i64 ey,.int .i64 er,.int .i64 en],acc++[⟨ey,er,en⟩],Za7 hr (.slice A' (m+1) c') N2,[]⟩,OA,⟨OA,by simp[hm],by rw[hy];simp[Zad.enc],OA,rfl,by rw[<- hi];simp⟩,SFA,STA⟩
  ·simp only[decide_eq_false_iff_not,Int.ofNat_lt]at hc2
   rw[List.drop_eq_nil_of_le (by omega),Zcx,List.append_nil]at hi
   repeat (first|refine walk ?_|(refine jn ?_;(try intro F);(first|(refine bx ?_;intro bk)|(refine stA ?_)|(apply Zac;exact PuA));refine fin ?_)|(apply RD_W;rfl;intro bk))
   refine⟨⟨k+1,none,0,0,[],[],xs,⟨A1,c1,acc⟩::hr⟩,OA,⟨OA,by simp[hrl],fun h=>?_,fun h=>?_,fun q hq=>?_⟩,SFA,?_⟩
   ·dsimp only at h ⊢
    obtain⟨N3,rfl⟩:∃ N3,N2=N3+1:=⟨N2 - 1,by omega⟩
    rw[hx,hm,show M - (k+1)=N3 by omega]
    exact Zj9 ⟨A1,c1,acc⟩ hr N3
   ·dsimp only at h ⊢
    obtain rfl:N2=0:=by omega
    rw[hx,hm]
    unfold Za7
    simp[EvH.v]
   ·dsimp only at hq ⊢
    rw[List.reverse_cons]
    by_cases hqk:q<k
    ·obtain⟨h,h1,h2⟩:=hH q hqk
     exact⟨h,by rw[List.getElem?_append_left (by simp;omega)];exact h1,h2⟩
    ·obtain rfl:q=k:=by omega
     exact⟨⟨A1,c1,acc⟩,by rw[List.getElem?_append_right (by simp;omega)];simp[hrl],hi⟩
   ·subst hm hy
    dsimp only
    rw[List.map_cons,show EvH.row ⟨A1,c1,acc⟩ = .row (.slice A1 acc.length c1) 91 3 acc.length (acc.flatMap Zad.enc) from rfl]
    exact STA
 ·simp only[decide_eq_false_iff_not,Int.ofNat_lt]at hc
  obtain rfl:k=M+1:=by omega
  have hx:=hx2 rfl
  repeat (first|refine walk ?_|(refine jn ?_;(try intro F);(first|(refine bx ?_;intro bk)|(refine stA ?_)|(apply Zac;exact PuA));refine fin ?_)|(apply RD_W;rfl;intro bk))
  exact ret_1 _ (.row (.slice (some ⟨b,0,none⟩) (M+1) (M+1)) 252 1 (M+1) xs::hr.map EvH.row) (.tmp rfl) (.cons .here (by rw[show(List.map EvH.row hr).append []=List.map EvH.row hr from List.append_nil _];exact .refl _)) ⟨b,hr,rfl,hrl,hH,by rw[Zo2,<- hx]⟩
end Go.Proofs.YtpipekfmecikmaaGreatDoor
namespace Go.Proofs.YtpipekfmecikmaaGreatDoor
open Go Go.RowKit Go.Wk
attribute [local irreducible] W RL Does Zat Zaj retQ Calls Pu Stp RD Qy Ay Zak
def Zey (H:List EvH)(w:World):Prop:=∀ h∈H,RdSl w h.A h.c Zad.enc 3 h.l
def ZzP (Y:Nat->List Zad)(N:Nat)(v:Value)(O:List It):Prop:=∃ (b:Nat) (H:List EvH) (S:Nat->Prop),v = .slice (some ⟨b,0,none⟩) N N/\H.length=N/\(∀ q,q<N->∃ h:EvH,H[q]?=some h/\h.l=Y q) /\
 O=[.row (.slice (some ⟨b,0,none⟩) N N) 252 1 N (H.flatMap EvH.enc),.fact S (Zey H)]
theorem Znc (A:Option Addr)(c:Nat)(l:List DRule)(w:World)(hA:RdSl w A c DRule.enc 11 l)(hn:l.length<=1000000) :
  Does Tryz.prog 247 [.slice A l.length c] w (ZzP (ZcQ l) 701) :=
 (Zql A c l w hA hn).monoH fun v O base w' hR hH=>by
  obtain⟨b,hr,rfl,hl,hq,rfl⟩:=hR
  refine⟨_,⟨b,hr.reverse,foot (hr.map EvH.row),rfl,by rw[List.length_reverse];exact hl,hq,rfl⟩,?_⟩
  have h1:ZaA base (hr.map EvH.row++[.row (.slice (some ⟨b,0,none⟩) 701 701) 252 1 701 (hr.reverse.flatMap EvH.enc)]) w':=hH.perm (List.perm_append_comm (l₁:=[_]))
  have h2:=h1.fact (p:=Zey hr.reverse) (fun w2 hi q hq=>ZaX Zad.len (hi (EvH.row q) (List.mem_map.2 ⟨q,List.mem_reverse.1 hq,rfl⟩)))
  exact h2.perm (List.perm_append_comm (l₁:=[_]) (l₂:=[_]))
structure CapG where
 k:Nat
 o:Option Zad
theorem Zmy {G:Prop}(h:G:=by(first|(apply Zap;rfl;rfl;omega;omega;(intro w' _ hO;first|exact Option.some_ne_none _|exact hnn w' (Zen (S:=S) (hO.of (A := .fact S (Zey H)) (by repeat' constructor)))))|(apply ZbW;rfl;(focus repeat' constructor);first|exact hx0|exact hx1|exact hx2 (by omega)))):G:=h
theorem ZtJ {G:Prop}(h:G:=by(first|exact Zmy|(apply Zaw;rfl;rfl;exact bd1)|(apply Zaz;rfl;rfl;exact bd2))):G:=h
theorem Zwl {G:Prop}(h:G:=by first|(apply Qy_y;rfl;exact ZtJ)|exact QyA):G:=h
theorem ZjT {G:Prop}(h:G:=by repeat (first|exact QF.nil|(apply QF.mk;rfl;rfl;decide +kernel;exact Zwl))):G:=h
theorem ZvU {G G':Prop}(k:G')(h:Hold G'->G:=by intro k9;(first|refine und ?_|(apply RL_pu;rfl;exact ZtJ)|(apply RD_Q;rfl;rfl;decide +kernel;rfl;rfl;exact Zwl)|refine walk1 ?_|(refine jg ?_;(try intro F);(first|(refine ZaM (fun w' hw hO=>hc0 w' (Zen (S:=S) (hO.of (A := .fact S (Zey H)) (by repeat' constructor)))) ?_)|(refine ZaM (fun w' hw hO=>hc1 w' (Zen (S:=S) (hO.of (A := .fact S (Zey H)) (by repeat' constructor)))) ?_)|(refine ZaM (fun w' hw hO=>hc2e w' (Zen (S:=S) (hO.of (A := .fact S (Zey H)) (by repeat' constructor)))) ?_)|(refine stA ?_));first|refine⟨_,EndsA,ZjT,?_⟩|refine fin ?_)|(refine jn ?_;(try intro F);(first|(refine stA ?_)|(apply Zac;first|exact ZtJ|exact PuA));first|refine⟨_,EndsA,ZjT,?_⟩|refine fin ?_));exact k9.out):G:=h ⟨k⟩
set_option maxRecDepth 20000 in
set_option maxHeartbeats 4000000 in
theorem rapS:RapS:=by
 intro A c l w hA hn _
 obtain⟨N,hN⟩:∃ N:Nat,N=701:=⟨_,rfl⟩
 have hex:∀ w',Bel w.heap.size w w'->Does Tryz.prog 247 [.slice A l.length c] w' (ZzP (ZcQ l) N):=fun w' hw=>by
  rw[hN]
  exact Znc A c l w' (hA.up hw) hn
 have hok:=fun q:Nat=>Zj4 (Zah l) (1850+(q:Int)) (Zdi l) l 0
 change ∀ q:Nat,(ZcQ l q).length<=l.length/\∀ e∈ZcQ l q,ZkV e at hok
 rw[<- Zyx]
 unfold capD
 rw[<- hN]
 generalize ZcQ l=Y at *
 obtain⟨res,hres⟩:∃ res,capJ Y N N 0 none=res:=⟨_,rfl⟩
 rw[hres]
 refine Zaa Tryz.func191 rfl rfl rfl rfl ?_
 repeat (first|refine walk ?_|(refine jg ?_;(try intro F);(first|(apply Zae (h:=fun w' hw _=>hex w' hw);rfl;rintro v O' ⟨b,H,S,rfl,hHl,hH,rfl⟩)|(refine bx ?_;intro bk)|(refine stA ?_));refine fin ?_)|(refine jn ?_;(try intro F);(first|(refine bx ?_;intro bk)|(refine stA ?_)|(apply Zac;exact PuA));refine fin ?_)|(apply RD_W;rfl;intro bk))
 rename_i b2
 obtain⟨b5,hb5⟩:∃ b5,bk=b5:=⟨_,rfl⟩
 rw[hb5]
 clear hb5 bk
 refine Zai [(2,.pointer (some ⟨b2,0,none⟩)),(4,.slice (some ⟨b,0,none⟩) N N),(5,.pointer (some ⟨b5,0,none⟩))] [.row (.slice (some ⟨b,0,none⟩) N N) 252 1 N (H.flatMap EvH.enc),.fact S (Zey H),.blk b2 [.int .i64 0,.int .i64 0,.int .i64 0] 91] (fun g:CapG=>[(6,.bool g.o.isSome),(7,.int .i64 g.k)]) (fun g=>[.blk b5 (evC g.o) 91])
  (fun g=>g.k<=N/\capJ Y N (N - g.k) g.k g.o=res) (fun g=>N - g.k) ⟨0,none⟩ SFA SOA ⟨Nat.zero_le _,hres⟩ ?_
 clear hres
 rintro⟨k,o⟩ ⟨hk,hi⟩
 dsimp only at hk hi ⊢
 repeat (first|refine walk ?_|(refine jn ?_;(try intro F);(first|(refine bx ?_;intro bk)|(refine stA ?_)|(apply Zac;exact PuA));refine fin ?_)|(apply RD_W;rfl;intro bk))
 refine Zaf rfl (fun hc=>?_) (fun hc=>?_)
 ·simp only[decide_eq_true_eq,Int.ofNat_lt]at hc
  obtain⟨⟨hA0,cc0,l0⟩,hg0,hl0⟩:=hH k hc
  dsimp only at hl0
  have hok0:=hok k
  rw[<- hl0]at hok0
  have hrd0:∀ w',Zey H w'->RdSl w' hA0 cc0 Zad.enc 3 l0:=fun w' h'=>h' _ (List.mem_of_getElem? hg0)
  have hx0:(H.flatMap EvH.enc)[k*1]?=some (.slice hA0 l0.length cc0):=Zao EvH.len H k _ 0 _ hg0 rfl
  rw[show N - k=(N - k - 1)+1 by omega,capJ,<- hl0]at hi
  have hlN:(l0.length:Int)<=1000000:=by omega
  repeat (first|(apply RL_pu;rfl;exact Zmy)|(apply RD_Q;rfl;rfl;decide +kernel;rfl;rfl;exact QyRgC0)|refine walk1 ?_|(refine jn ?_;(try intro F);(first|(refine bx ?_;intro bk)|(refine stA ?_)|(apply Zac;first|exact Zmy|exact PuA));first|refine⟨_,EndsA,QFRgC0,?_⟩|refine fin ?_)|(apply RD_W;rfl;intro bk))
  refine Zai [(2,.pointer (some ⟨b2,0,none⟩)),(4,.slice (some ⟨b,0,none⟩) N N),(5,.pointer (some ⟨b5,0,none⟩)),(7,.int .i64 k)] [.row (.slice (some ⟨b,0,none⟩) N N) 252 1 N (H.flatMap EvH.enc),.fact S (Zey H),.blk b2 [.int .i64 0,.int .i64 0,.int .i64 0] 91] (fun g:CapG=>[(6,.bool g.o.isSome),(8,.int .i64 g.k)]) (fun g=>[.blk b5 (evC g.o) 91])
   (fun g=>g.k<=l0.length/\capJ Y N (N - k - 1) (k+1) (capI (Zlw Y N k) (l0.drop g.k) g.o)=res) (fun g=>l0.length - g.k) ⟨0,o⟩ SFA SOA ⟨Nat.zero_le _,hi⟩ ?_
  clear hi o
  rintro⟨i,o⟩ ⟨hil,hi⟩
  dsimp only at hil hi ⊢
  repeat (first|(apply RL_pu;rfl;exact Zmy)|(apply RD_Q;rfl;rfl;decide +kernel;rfl;rfl;exact QyRgC0)|refine walk1 ?_|(refine jn ?_;(try intro F);(first|(refine bx ?_;intro bk)|(refine stA ?_)|(apply Zac;first|exact Zmy|exact PuA));first|refine⟨_,EndsA,QFRgC0,?_⟩|refine fin ?_)|(apply RD_W;rfl;intro bk))
  refine Zaf rfl (fun hc2=>?_) (fun hc2=>?_)
  ·simp only[decide_eq_true_eq,Int.ofNat_lt]at hc2
   rw[Zag hc2,capI]at hi
   have hei:=List.getElem?_eq_getElem hc2
   have heo:=hok0.2 _ (List.getElem_mem hc2)
   generalize l0[i]=e at *
   have hnn:∀ w',Zey H w'->hA0≠none:=fun w' h'=>((hrd0 w' h').rd i e hei).1
   have hce:∀ w',Zey H w'->Zau w' ((adr hA0).add (i*3)) (Zad.enc e):=fun w' h'=>((hrd0 w' h').rd i e hei).2
   have hc0:=fun w' h'=>ZhE e hA0 cc0 l0 w' (hrd0 w' h') (by omega) heo hok0.2
   have hbf:=fun b w'=>Zlo e b w'
   have hEO:∀ q,q<N->∃ h:EvH,(H.flatMap EvH.enc)[q*1]?=some (.slice h.A (Y q).length h.c)/\∀ w',Zey H w'->Does Tryz.prog 248 [.agg e.enc.toArray,.slice h.A (Y q).length h.c] w' (fun v O=>v = .bool (Zcn e (Y q))/\O=[]):=fun q hq=>by
    obtain⟨h,h1,h2⟩:=hH q hq
    refine⟨h,?_,fun w' h'=>?_⟩
    ·rw[<- h2];exact Zao EvH.len H q h 0 _ h1 rfl
    ·rw[<- h2]
     have hq2:=hok q
     rw[<- h2]at hq2
     exact ZhE e h.A h.c h.l w' (h' h (List.mem_of_getElem? h1)) (by omega) heo hq2.2
   have hnb:Zlw Y N k e=(Zcn e l0||(decide (0<k)&&Zcn e (Y (k - 1)))||(decide (k+1<N)&&Zcn e (Y (k+1)))):=by rw[hl0];rfl
   obtain⟨q2,hq2,hq3⟩:∃ q2,q2<N/\(k+1<N->q2=k+1):=by
    by_cases h:k+1<N
    ·exact⟨k+1,h,fun _=>rfl⟩
    ·exact⟨k,hc,fun h'=>absurd h' h⟩
   obtain⟨A1,c1',m1,c1,hx1,hc1,he1⟩:∃ (A:Option Addr) (c m:Nat) (cb:Bool),(H.flatMap EvH.enc)[((k:Int) - 1).toNat*1]?=some (.slice A m c)/\(∀ w',Zey H w'->Does Tryz.prog 248 [.agg e.enc.toArray,.slice A m c] w' (fun v O=>v = .bool cb/\O=[]))/\Zcn e (Y (k - 1))=cb:=by
    obtain⟨h,h1,h2⟩:=hEO (k - 1) (by omega)
    exact⟨h.A,h.c,_,_,by rw[show((k:Int) - 1).toNat=k - 1 by omega];exact h1,h2,rfl⟩
   obtain⟨A2,c2',m2,c2,hx2,hc2e,he2⟩:∃ (A:Option Addr) (c m:Nat) (cb:Bool),(k+1<N->(H.flatMap EvH.enc)[((k:Int)+1).toNat*1]?=some (.slice A m c))/\(∀ w',Zey H w'->Does Tryz.prog 248 [.agg e.enc.toArray,.slice A m c] w' (fun v O=>v = .bool cb/\O=[]))/\Zcn e (Y q2)=cb:=by
    obtain⟨h,h1,h2⟩:=hEO q2 hq2
    exact⟨h.A,h.c,_,_,fun h'=>by rw[show((k:Int)+1).toNat=q2 by rw[hq3 h'];omega];exact h1,h2,rfl⟩
   clear hEO
   obtain⟨D1,bd1⟩:∃ D,decide ((0:Int)<(k:Int))=D:=⟨_,rfl⟩
   obtain⟨D2,bd2⟩:∃ D,decide ((k:Int)+1<(N:Int))=D:=⟨_,rfl⟩
   obtain⟨c0,he0⟩:∃ c0,Zcn e l0=c0:=⟨_,rfl⟩
   have hnb2:Zlw Y N k e=(c0||(D1&&c1)||(D2&&c2)):=by
    rw[hnb,he0,he1,show decide (0<k)=D1 by rw[<- bd1];exact decide_eq_decide.2 (by omega),show decide (k+1<N)=D2 by rw[<- bd2];exact decide_eq_decide.2 (by omega)]
    cases D2 with
    | false=>rfl
    | true=>rw[<- hq3 (by have:=of_decide_eq_true bd2;omega),he2]
   rw[hnb2]at hi
   rw[he0]at hc0
   clear hnb hnb2 he0 he1 he2
   have hd:((c0||(D1&&c1)||(D2&&c2))=true/\(c0=true\/(c0=false/\D1=true/\c1=true)\/(c0=false/\D1=true/\c1=false/\D2=true/\c2=true)\/(c0=false/\D1=false/\D2=true/\c2=true)))\/((c0||(D1&&c1)||(D2&&c2))=false/\((c0=false/\D1=true/\c1=false/\D2=true/\c2=false)\/(c0=false/\D1=true/\c1=false/\D2=false)\/(c0=false/\D1=false/\D2=true/\c2=false)\/(c0=false/\D1=false/\D2=false))):=by
    cases c0 <;> cases c1 <;> cases c2 <;> cases D1 <;> cases D2 <;> simp
   obtain⟨ey,er,en⟩:=e
   simp only[Zad.enc]at hce hc0 hc1 hc2e hbf heo
   obtain⟨nb,hnb3⟩:∃ nb,(c0||(D1&&c1)||(D2&&c2))=nb:=⟨_,rfl⟩
   rw[hnb3]at hi
   repeat refine ZuI ?_
   apply RL_pu
   ·rfl
   ·exact ZbW rfl (by(focus repeat' constructor)) hx0
   refine walk1 ?_
   apply RL_pu
   ·rfl
   ·apply Zap
    ·rfl
    ·rfl
    ·omega
    ·omega
    ·intro w' _ hO
     exact hnn w' (Zen (S:=S) (hO.of (A := .fact S (Zey H)) (by repeat' constructor)))
   apply RL_pu
   ·rfl
   ·apply Zhb (cs:=[.int .i64 ey,.int .i64 er,.int .i64 en])
    ·rfl
    ·rfl
    ·intro w' _ hO
     exact hce w' (Zen (S:=S) (hO.of (A := .fact S (Zey H)) (by repeat' constructor)))
   repeat (first|refine ZuI ?_|(refine jn ?_;(try intro F);(first|(refine bx ?_;intro bk)|(refine stA ?_)|(apply Zac;exact PuA));refine fin ?_)|(apply RD_W;rfl;intro bk))
   refine ZbZ (fun fr' O'=>Sub [(10,.bool nb),(6,.bool o.isSome),(8,.int .i64 i),(9,.pointer (some ⟨bk,0,none⟩)),(2,.pointer (some ⟨b2,0,none⟩)),(4,.slice (some ⟨b,0,none⟩) N N),(5,.pointer (some ⟨b5,0,none⟩)),(7,.int .i64 k)] fr'/\SubO [.blk bk [.int .i64 ey,.int .i64 er,.int .i64 en] 91,.blk b5 (evC o) 91,.row (.slice (some ⟨b,0,none⟩) N N) 252 1 N (H.flatMap EvH.enc),.fact S (Zey H),.blk b2 [.int .i64 0,.int .i64 0,.int .i64 0] 91] O') ?_ ?_
   ·clear hi hbf
    rcases hd with⟨hn1,hd⟩|⟨hn1,hd⟩
    ·rw[hn1]at hnb3
     subst hnb3
     clear hn1
     rcases hd with rfl|⟨rfl,rfl,rfl⟩|⟨rfl,rfl,rfl,rfl,rfl⟩|⟨rfl,rfl,rfl,rfl⟩
     all_goals
      try have d1:(0:Int)<(k:Int):=of_decide_eq_true bd1
      try have d2:(k:Int)+1<(N:Int):=of_decide_eq_true bd2
      repeat (first|refine ZvU ?_|(refine jg ?_;(try intro F);(refine bx ?_;intro bk);first|refine⟨_,EndsA,ZjT,?_⟩|refine fin ?_)|(refine jn ?_;(try intro F);(refine bx ?_;intro bk);first|refine⟨_,EndsA,ZjT,?_⟩|refine fin ?_)|(apply RD_W;rfl;intro bk))
      exact⟨rfl,SFA,SOA⟩
    ·rw[hn1]at hnb3
     subst hnb3
     clear hn1
     rcases hd with⟨rfl,rfl,rfl,rfl,rfl⟩|⟨rfl,rfl,rfl,rfl⟩|⟨rfl,rfl,rfl,rfl⟩|⟨rfl,rfl,rfl⟩
     all_goals
      try have d1:(0:Int)<(k:Int):=of_decide_eq_true bd1
      try have d2:(k:Int)+1<(N:Int):=of_decide_eq_true bd2
      repeat (first|refine ZvU ?_|(refine jg ?_;(try intro F);(refine bx ?_;intro bk);first|refine⟨_,EndsA,ZjT,?_⟩|refine fin ?_)|(refine jn ?_;(try intro F);(refine bx ?_;intro bk);first|refine⟨_,EndsA,ZjT,?_⟩|refine fin ?_)|(apply RD_W;rfl;intro bk))
      exact⟨rfl,SFA,SOA⟩
   clear hd hnb3 hc0 hc1 hc2e hx1 hx2 hx0 bd1 bd2
   rintro fr' O' ⟨hf,hO⟩
   apply thenQ_n
   refine ZcO hf hO ?_
   clear hf hO fr' O'
   cases nb with
   | false =>
    rw[Bool.false_and,if_neg (by decide)]at hi
    repeat (first|refine und ?_|refine walk ?_|(refine jn ?_;(try intro F);(first|(refine bx ?_;intro bk)|(refine stA ?_)|(apply Zac;exact PuA));refine fin ?_)|(apply RD_W;rfl;intro bk))
    exact⟨⟨i+1,o⟩,OA,⟨OA,hi⟩,SFA,SOA⟩
   | true =>
    rw[Bool.true_and]at hi
    cases o with
    | none =>
     simp only[befE,if_true]at hi
     simp only[evC,Option.isSome,Zad.enc,dEv0]
     repeat (first|refine und ?_|refine walk ?_|(refine jn ?_;(try intro F);(first|(refine bx ?_;intro bk)|(refine stA ?_)|(apply Zac;exact PuA));refine fin ?_)|(apply RD_W;rfl;intro bk))
     exact⟨⟨i+1,some ⟨ey,er,en⟩⟩,OA,⟨OA,hi⟩,SFA,SOA⟩
    | some x =>
     have hbx:=hbf x
     obtain⟨xy,xr,xn⟩:=x
     simp only[evC,Option.isSome,Zad.enc]at hbx ⊢
     obtain⟨lt,hlt⟩:∃ lt,ltE ⟨ey,er,en⟩ ⟨xy,xr,xn⟩=lt:=⟨_,rfl⟩
     rw[show befE ⟨ey,er,en⟩ (some ⟨xy,xr,xn⟩)=lt from hlt]at hi
     simp only[hlt]at hbx
     cases lt with
     | false =>
      rw[if_neg (by decide)]at hi
      repeat (first|refine und ?_|refine walk ?_|(refine jg ?_;(try intro F);(first|(refine Zab (fun w' hw=>hbx w') ?_)|(refine bx ?_;intro bk)|(refine stA ?_));refine fin ?_)|(refine jn ?_;(try intro F);(first|(refine bx ?_;intro bk)|(refine stA ?_)|(apply Zac;exact PuA));refine fin ?_)|(apply RD_W;rfl;intro bk))
      exact⟨⟨i+1,some ⟨xy,xr,xn⟩⟩,OA,⟨OA,hi⟩,SFA,SOA⟩
     | true =>
      rw[if_pos rfl]at hi
      repeat (first|refine und ?_|refine walk ?_|(refine jg ?_;(try intro F);(first|(refine Zab (fun w' hw=>hbx w') ?_)|(refine bx ?_;intro bk)|(refine stA ?_));refine fin ?_)|(refine jn ?_;(try intro F);(first|(refine bx ?_;intro bk)|(refine stA ?_)|(apply Zac;exact PuA));refine fin ?_)|(apply RD_W;rfl;intro bk))
      exact⟨⟨i+1,some ⟨ey,er,en⟩⟩,OA,⟨OA,hi⟩,SFA,SOA⟩
  ·simp only[decide_eq_false_iff_not,Int.ofNat_lt]at hc2
   rw[List.drop_eq_nil_of_le (by omega),capI]at hi
   repeat (first|refine walk ?_|(refine jn ?_;(try intro F);(first|(refine bx ?_;intro bk)|(refine stA ?_)|(apply Zac;exact PuA));refine fin ?_)|(apply RD_W;rfl;intro bk))
   exact⟨⟨k+1,o⟩,OA,⟨OA,by dsimp only;rw[show N - (k+1)=N - k - 1 by omega];exact hi⟩,SFA,SOA⟩
 ·simp only[decide_eq_false_iff_not,Int.ofNat_lt]at hc
  obtain rfl:k=N:=by omega
  rw[Nat.sub_self,capJ]at hi
  subst hi
  cases o with
  | none =>
   simp only[evC,apV,Zad.enc,dEv0,Option.isSome]
   repeat (first|refine walk ?_|(refine jn ?_;(try intro F);(first|(refine bx ?_;intro bk)|(refine stA ?_)|(apply Zac;exact PuA));refine fin ?_)|(apply RD_W;rfl;intro bk))
   exact rtC
  | some e =>
   simp only[evC,apV,Zad.enc,Option.isSome]
   repeat (first|refine walk ?_|(refine jn ?_;(try intro F);(first|(refine bx ?_;intro bk)|(refine stA ?_)|(apply Zac;exact PuA));refine fin ?_)|(apply RD_W;rfl;intro bk))
   exact rtC
end Go.Proofs.YtpipekfmecikmaaGreatDoor
namespace Go.Proofs.YtpipekfmecikmaaGreatDoor
open Go Go.RowKit Go.Wk
theorem Zga (L n y:Int):∀ (l:List DRule) (i:Nat),farI L n y l i=false↔∃ (j:Nat) (r:DRule) (e:Zad),l[j]?=some r/\onR L r ((i+j:Nat):Int) y=some e/\e.nominal<n+259200/\n - 259200<e.nominal
 | [],i=>by simp[farI]
 | r::l,i=>by
  have ih:=Zga L n y l (i+1)
  have hd:(∃ (j:Nat) (r':DRule) (e:Zad),(r::l)[j]?=some r'/\onR L r' ((i+j:Nat):Int) y=some e/\e.nominal<n+259200/\n - 259200<e.nominal)↔(∃ e,onR L r (i:Int) y=some e/\e.nominal<n+259200/\n - 259200<e.nominal)\/(∃ (j:Nat) (r':DRule) (e:Zad),l[j]?=some r'/\onR L r' ((i+1+j:Nat):Int) y=some e/\e.nominal<n+259200/\n - 259200<e.nominal):=by
   constructor
   ·rintro⟨j,r',e,h1,h2,h3⟩
    cases j with
    | zero=>simp only[List.getElem?_cons_zero,Option.some.injEq]at h1;subst h1;exact .inl ⟨e,h2,h3⟩
    | succ j=>exact .inr ⟨j,r',e,by simpa using h1,by rw[show i+1+j=i+(j+1) by omega];exact h2,h3⟩
   ·rintro(⟨e,h⟩|⟨j,r',e,h1,h2,h3⟩)
    ·exact⟨0,r,e,rfl,h⟩
    ·exact⟨j+1,r',e,by simpa using h1,by rw[show i+(j+1)=i+1+j by omega];exact h2,h3⟩
  rw[hd,farI]
  cases he:onR L r (i:Int) y with
  | none=>simpa using ih
  | some e =>
   dsimp only
   by_cases hc:e.nominal<n+259200/\n - 259200<e.nominal
   ·rw[if_pos hc]
    exact⟨fun _ => .inl ⟨e,rfl,hc⟩,fun _=>rfl⟩
   ·rw[if_neg hc,ih]
    constructor
    ·exact .inr
    ·rintro(⟨e',h1,h2⟩|h)
     ·cases h1;exact absurd h2 hc
     ·exact h
theorem Zjt (L n:Int)(l:List DRule):∀ (k:Nat) (y:Int),farY L n l y k=false↔∃ q:Nat,q<k/\farI L n (y+q) l 0=false
 | 0,y=>by simp[farY]
 | k+1,y=>by
  rw[farY,Bool.and_eq_false_iff,Zjt L n l k (y+1)]
  constructor
  ·rintro(h|⟨q,hq,h⟩)
   ·exact⟨0,by omega,by simpa using h⟩
   ·exact⟨q+1,by omega,by rw[show y+((q+1:Nat):Int)=y+1+q by omega];exact h⟩
  ·rintro⟨q,hq,h⟩
   cases q with
   | zero=>left;simpa using h
   | succ q=>exact .inr ⟨q,by omega,by rw[show y+1+(q:Int)=y+((q+1:Nat):Int) by omega];exact h⟩
theorem Zju (least nominal:Int)(r:DRule)(i:Int):∀ (k:Nat) (y:Int) (e:Zad),evIn least nominal r i y k=some e->∃ q:Nat,onR least r i (y+q)=some e/\nominal<e.nominal
 | 0,_,_,h=>by cases h
 | k+1,y,e,h=>by
  rw[evIn]at h
  have ih:=Zju least nominal r i k (y+1) e
  have lift:(∃ q:Nat,onR least r i (y+1+q)=some e/\nominal<e.nominal)->∃ q:Nat,onR least r i (y+q)=some e/\nominal<e.nominal:=by
   rintro⟨q,hq⟩
   exact⟨q+1,by rw[show y+((q+1:Nat):Int)=y+1+q by omega];exact hq⟩
  cases he:onR least r i y with
  | none=>rw[he]at h;exact lift (ih h)
  | some e' =>
   rw[he]at h
   dsimp only at h
   by_cases hc:nominal<e'.nominal
   ·rw[if_pos hc]at h
    cases h
    exact⟨0,by simpa using he,hc⟩
   ·rw[if_neg hc]at h
    exact lift (ih h)
theorem Zig (least nominal:Int)(r:DRule)(i:Int):∀ (k:Nat) (y:Int) (q:Nat) (e:Zad),q<k->onR least r i (y+q)=some e->nominal<e.nominal->∃ e',evIn least nominal r i y k=some e'/\e'.nominal<=e.nominal
 | 0,_,_,_,h,_,_=>absurd h (by omega)
 | k+1,y,q,e,h,h1,h2=>by
  rw[evIn]
  cases he:onR least r i y with
  | none =>
   cases q with
   | zero=>rw[show y+((0:Nat):Int)=y by omega,he]at h1;cases h1
   | succ q=>exact Zig least nominal r i k (y+1) q e (by omega) (by rw[show y+1+(q:Int)=y+((q+1:Nat):Int) by omega];exact h1) h2
  | some e' =>
   dsimp only
   by_cases hc:nominal<e'.nominal
   ·rw[if_pos hc]
    refine⟨e',rfl,?_⟩
    cases q with
    | zero=>rw[show y+((0:Nat):Int)=y by omega,he]at h1;cases h1;exact Int.le_refl _
    | succ q=>exact Int.le_of_lt (Zke he h1 (by omega))
   ·rw[if_neg hc]
    cases q with
    | zero=>rw[show y+((0:Nat):Int)=y by omega,he]at h1;cases h1;exact absurd h2 hc
    | succ q=>exact Zig least nominal r i k (y+1) q e (by omega) (by rw[show y+1+(q:Int)=y+((q+1:Nat):Int) by omega];exact h1) h2
theorem ZfL (least nominal yr:Int):∀ (l:List DRule) (i:Nat) (b:Option Zad) (e:Zad),Zbs least nominal yr l i b=some e->b=some e\/∃ (j:Nat) (r:DRule),l[j]?=some r/\evIn least nominal r ((i+j:Nat):Int) (max (max r.from_ (-2000000000)) (yr - 2)) 20=some e
 | [],_,_,_,h => .inl h
 | r::l,i,b,e,h=>by
  rw[Zbs]at h
  rcases ZfL least nominal yr l (i+1) _ e h with h1|⟨j,r',h1,h2⟩
  ·cases he:evIn least nominal r i (max (max r.from_ (-2000000000)) (yr - 2)) 20 with
   | none=>rw[he]at h1;exact .inl h1
   | some e' =>
    rw[he]at h1
    have hr:∀ x,e'=x->∃ (j:Nat) (r':DRule),(r::l)[j]?=some r'/\evIn least nominal r' ((i+j:Nat):Int) (max (max r'.from_ (-2000000000)) (yr - 2)) 20=some x:=fun x hx=>⟨0,r,rfl,by rw[<- hx];exact he⟩
    cases b with
    | none=>cases h1;exact .inr (hr _ rfl)
    | some b =>
     dsimp only at h1
     split at h1
     ·cases h1;exact .inr (hr _ rfl)
     ·exact .inl h1
  ·exact .inr ⟨j+1,r',by simpa using h1,by rw[show i+(j+1)=i+1+j by omega];exact h2⟩
theorem ZcC (least nominal yr:Int):∀ (l:List DRule) (i:Nat) (b:Zad),∃ e,Zbs least nominal yr l i (some b)=some e/\e.nominal<=b.nominal
 | [],_,b=>⟨b,rfl,Int.le_refl _⟩
 | r::l,i,b=>by
  rw[Zbs]
  cases he:evIn least nominal r i (max (max r.from_ (-2000000000)) (yr - 2)) 20 with
  | none=>exact ZcC least nominal yr l (i+1) b
  | some e' =>
   dsimp only
   split
   ·rename_i hlt
    obtain⟨e,h1,h2⟩:=ZcC least nominal yr l (i+1) e'
    have:e'.nominal<=b.nominal:=by
     unfold ordE at hlt
     split at hlt
     ·omega
     ·split at hlt
      ·omega
      ·omega
    exact⟨e,h1,by omega⟩
   ·exact ZcC least nominal yr l (i+1) b
theorem ZgJ (least nominal yr:Int):∀ (l:List DRule) (i:Nat) (b:Option Zad) (j:Nat) (r:DRule) (e':Zad),l[j]?=some r->evIn least nominal r ((i+j:Nat):Int) (max (max r.from_ (-2000000000)) (yr - 2)) 20=some e'->∃ e,Zbs least nominal yr l i b=some e/\e.nominal<=e'.nominal
 | [],_,_,_,_,_,h,_=>by simp at h
 | r0::l,i,b,0,r,e',h,h2=>by
  simp only[List.getElem?_cons_zero,Option.some.injEq]at h
  subst h
  rw[Zbs,show evIn least nominal r0 (i:Int) (max (max r0.from_ (-2000000000)) (yr - 2)) 20=some e' from h2]
  cases b with
  | none=>exact ZcC least nominal yr l (i+1) e'
  | some b =>
   dsimp only
   split
   ·exact ZcC least nominal yr l (i+1) e'
   ·rename_i hlt
    obtain⟨e,g1,g2⟩:=ZcC least nominal yr l (i+1) b
    refine⟨e,g1,?_⟩
    unfold ordE at hlt
    split at hlt
    ·omega
    ·split at hlt <;> omega
 | r0::l,i,b,j+1,r,e',h,h2=>by
  rw[Zbs]
  exact ZgJ least nominal yr l (i+1) _ j r e' (by simpa using h) (by rw[show i+1+j=i+(j+1) by omega];exact h2)
theorem farS:FarS:=by
 intro l n hn
 have hL:=Zdi l
 have hy:=ZfU (t:=n) (by omega) (by omega)
 have hz:=ZfU (t:=n - 259200) (by omega) (by omega)
 have hyz:ZaC (n - 259200)<=ZaC n+1:=Zc8 (by omega)
 have hzy:ZaC n<=ZaC (n - 259200)+1:=Zc8 (by omega)
 have h1:farR l n=false↔∃ (y:Int) (j:Nat) (r:DRule) (e:Zad),ZaC n - 1<=y/\y<=ZaC n+1/\l[j]?=some r/\onR (Zah l) r (j:Int) y=some e/\e.nominal<n+259200/\n - 259200<e.nominal:=by
  unfold farR
  rw[Zjt]
  constructor
  ·rintro⟨q,hq,h⟩
   obtain⟨j,r,e,g1,g2,g3⟩:=(Zga _ _ _ _ _).1 h
   rw[Nat.zero_add]at g2
   exact⟨_,j,r,e,by omega,by omega,g1,g2,g3⟩
  ·rintro⟨y,j,r,e,a1,a2,g1,g2,g3⟩
   refine⟨(y - (ZaC n - 1)).toNat,by omega,(Zga _ _ _ _ _).2 ⟨j,r,e,g1,?_,g3⟩⟩
   rw[Nat.zero_add,show ZaC n - 1+((y - (ZaC n - 1)).toNat:Int)=y by omega]
   exact g2
 have h2:farD l n=false↔∃ e,Zeu l (n - 259200)=some e/\e.nominal<n+259200:=by
  unfold farD
  cases h:Zeu l (n - 259200) with
  | none=>simp
  | some e =>
   simp only[decide_eq_false_iff_not,Option.some.injEq,exists_eq_left']
   omega
 have h3:farD l n=false↔farR l n=false:=by
  rw[h1,h2]
  constructor
  ·rintro⟨e,he,hlt⟩
   unfold Zeu at he
   rcases ZfL _ _ _ _ _ _ _ he with h|⟨j,r,g1,g2⟩
   ·cases h
   rw[Nat.zero_add]at g2
   obtain⟨q,g3,g4⟩:=Zju _ _ _ _ _ _ _ g2
   have hb:=ZoT hL g3
   generalize max (max r.from_ (-2000000000)) (ZaC (n - 259200) - 2)+(q:Int)=y at *
   have c1:y<=ZaC n+1:=Zc8 (by omega)
   have c2:ZaC n<=y+1:=Zc8 (by omega)
   exact⟨y,j,r,e,by omega,by omega,g1,g3,hlt,g4⟩
  ·rintro⟨y,j,r,e,a1,a2,g1,g2,g3,g4⟩
   obtain⟨_,_,s1,_⟩:=ZbO g2
   have hst:max (max r.from_ (-2000000000)) (ZaC (n - 259200) - 2)<=y:=by omega
   obtain⟨e',k1,k2⟩:=Zig (Zah l) (n - 259200) r (j:Int) 20 (max (max r.from_ (-2000000000)) (ZaC (n - 259200) - 2)) (y - max (max r.from_ (-2000000000)) (ZaC (n - 259200) - 2)).toNat e (by omega) (by rw[show max (max r.from_ (-2000000000)) (ZaC (n - 259200) - 2)+((y - max (max r.from_ (-2000000000)) (ZaC (n - 259200) - 2)).toNat:Int)=y by omega];exact g2) g4
   obtain⟨e2,k3,k4⟩:=ZgJ (Zah l) (n - 259200) (ZaC (n - 259200)) l 0 none j r e' g1 (by rw[Nat.zero_add];exact k1)
   exact⟨e2,k3,by omega⟩
 cases ha:farD l n <;> cases hb:farR l n
 ·rfl
 ·rw[h3.1 ha]at hb;cases hb
 ·rw[h3.2 hb]at ha;cases ha
 ·rfl
attribute [local irreducible] W RL Does Zat Zaj retQ Calls Pu Stp RD Qy Ay Zak
theorem Zzc:ZyQ:=fun Ar Az Al As cr cz cl cs a z Ae ce w hA hE hS hV hel hZ hH=>Znb Ar Az Al As cr cz cl cs a z Ae ce w hA hE hS hV hel hZ hH
theorem Zzf {w:World}{Ar Az Al As:Option Addr}{cr cz cl cs:Nat}{a:DSource}(h:Zb7 w Ar Az Al As cr cz cl cs a):Does Tryz.prog 85 [srcV Ar Az Al As cr cz cl cs a] w (fun v O=>v=ptV (accD a)/\O=[]) :=
 Znf Ar Az Al As cr cz cl cs a w rapS farS Zzc h.A h.S h.V h.Z
theorem Zeb (e:DEra)(save:Int)(letter:ByteArray)(w:World)(he:FtE e)(hl:letter.size<=1000000000)(hv : -1000000<=save/\save<=1000000) :
  Does Tryz.prog 47 [.agg e.enc.toArray,.int .i64 save,.string letter] w (fun v O=>v = .string (ZeX e save letter)/\O=[]):=by
 have h:=fun w'=>ZeC e.format letter e.off save w' he.f hl (by have:=he.o;unfold I64;omega) (by unfold I64;omega)
 unfold xpV at h
 have h2:∀ w',Does Tryz.prog 91 [.string e.format,.int .i64 e.off,.agg #[.int .i64 save,.string letter]] w' (fun v O=>(∃ er,v = .tuple #[.string (ZeX e save letter),.int .i64 er])/\O=[]):=fun w' =>
  (h w').mono fun v O hv=>⟨⟨_,hv.1⟩,hv.2⟩
 clear h
 generalize ZeX e save letter=res at *
 obtain⟨off,kd,esv,st,fm,⟨ui,uy,um,⟨ud1,ud2,ud3⟩,⟨uc1,uc2⟩⟩⟩:=e
 show Does _ _ [.agg #[.int .i64 off,.int .i64 kd,.int .i64 esv,.string st,.string fm,.bool ui,.int .i64 uy,.int .i64 um,.int .i64 ud1,.int .i64 ud2,.int .i64 ud3,.int .i64 uc1,.int .i64 uc2],_,_] w _
 refine Zaa Tryz.func47 rfl rfl rfl rfl ?_
 repeat (first|(refine js ?_;(first|(apply Zae (h:=fun w' _ _=>h2 w');rfl;rintro v O' ⟨⟨er,rfl⟩,rfl⟩)|(refine bx ?_;intro bk)))|refine walk ?_)
 exact rtA
theorem ZiF {G:Prop}(h:G:=by(apply Zan;rfl;rfl;exact b1)):G:=h
theorem Zta {G:Prop}(h:G:=by first|(apply Qy_y;rfl;exact ZiF)|exact QyA):G:=h
theorem Zpu {G:Prop}(h:G:=by repeat (first|exact QF.nil|(apply QF.mk;rfl;rfl;decide +kernel;exact Zta))):G:=h
theorem ZhG (e:DEra)(save:Int)(letter:ByteArray)(w:World)(he:FtE e)(hl:letter.size<=1000000000)(hv : -1000000<=save/\save<=1000000) :
  Does Tryz.prog 45 [.agg e.enc.toArray,.int .i64 save,.string letter] w (fun v O=>v = .agg (Zbi e save letter).enc.toArray/\O=[]):=by
 have ha:=fun w'=>Zeb e save letter w' he hl hv
 have ho:=he.o
 unfold Zbi
 generalize ZeX e save letter=res at *
 obtain⟨off,kd,esv,st,fm,⟨ui,uy,um,⟨ud1,ud2,ud3⟩,⟨uc1,uc2⟩⟩⟩:=e
 dsimp only at ho ⊢
 show Does _ _ [.agg #[.int .i64 off,.int .i64 kd,.int .i64 esv,.string st,.string fm,.bool ui,.int .i64 uy,.int .i64 um,.int .i64 ud1,.int .i64 ud2,.int .i64 ud3,.int .i64 uc1,.int .i64 uc2],_,_] w _
 refine Zaa Tryz.func45 rfl rfl rfl rfl ?_
 by_cases hc:save=0
 ·subst hc
  have b1:decide ((0:Int)=0)=true:=rfl
  rw[if_pos rfl]
  repeat (first|(apply RL_pu;rfl;exact ZiF)|(apply RD_Q;rfl;rfl;decide +kernel;rfl;rfl;exact Zta)|refine walk1 ?_|(refine jg ?_;(try intro F);(first|(refine Zab (fun w' _=>ha w') ?_)|(refine bx ?_;intro bk)|(refine stA ?_));first|refine⟨_,EndsA,Zpu,?_⟩|refine fin ?_)|(refine jn ?_;(try intro F);(first|(refine bx ?_;intro bk)|(refine stA ?_)|(apply Zac;first|exact ZiF|exact PuA));first|refine⟨_,EndsA,Zpu,?_⟩|refine fin ?_)|(apply RD_W;rfl;intro bk))
  exact ret_1 _ [] (.cellB rfl (by repeat' constructor) rfl rfl) .nil ⟨rfl,rfl⟩
 ·have b1:decide (save=0)=false:=decide_eq_false hc
  rw[if_neg hc]
  repeat (first|(apply RL_pu;rfl;exact ZiF)|(apply RD_Q;rfl;rfl;decide +kernel;rfl;rfl;exact Zta)|refine walk1 ?_|(refine jg ?_;(try intro F);(first|(refine Zab (fun w' _=>ha w') ?_)|(refine bx ?_;intro bk)|(refine stA ?_));first|refine⟨_,EndsA,Zpu,?_⟩|refine fin ?_)|(refine jn ?_;(try intro F);(first|(refine bx ?_;intro bk)|(refine stA ?_)|(apply Zac;first|exact ZiF|exact PuA));first|refine⟨_,EndsA,Zpu,?_⟩|refine fin ?_)|(apply RD_W;rfl;intro bk))
  exact ret_1 _ [] (.cellB rfl (by repeat' constructor) rfl rfl) .nil ⟨rfl,rfl⟩
def ZdZ (a:DSource)(zone:Int):Int:=match accD a with
 | some (_,e)=>e
 | none=>if zone<0\/(a.zones.length:Int)<=zone then 3 else 0
theorem Zxf {G:Prop}(h:G:=by(first|exact ZiF|(apply Zaz;rfl;rfl;exact b2))):G:=h
theorem Zxe {G:Prop}(h:G:=by(first|exact Zxf|(apply Zb6;rfl;rfl;exact b3))):G:=h
theorem Zb1 (Ar Az Al As:Option Addr)(cr cz cl cs:Nat)(a:DSource)(zone:Int)(w:World)(h:Zb7 w Ar Az Al As cr cz cl cs a) :
  Does Tryz.prog 43 [srcV Ar Az Al As cr cz cl cs a,.int .i64 zone] w (fun v O=>v = .int .i64 (ZdZ a zone)/\O=[]):=by
 have hck:=fun w' (hw:Bel w.heap.size w w')=>Zzf (h.up hw)
 have hlz:=h.A.zle
 unfold ZdZ
 cases hac:accD a with
 | some x =>
  obtain⟨⟨p1,p2,p3⟩,e⟩:=x
  have hne:=Zfi hac
  rw[hac]at hck
  change ∀ w',Bel w.heap.size w w'->Does _ _ _ w' (fun v O=>v = .tuple #[.agg #[.int .i64 p1,.int .i64 p2,.int .i64 p3],.int .i64 e]/\O=[]) at hck
  have b1:decide (e=0)=false:=decide_eq_false hne
  dsimp only
  refine Zaa Tryz.func43 rfl rfl rfl rfl ?_
  repeat (first|refine und ?_|(apply RL_pu;rfl;exact ZiF)|(refine js ?_;(first|(refine Zab hck ?_)|(refine bx ?_;intro bk)))|refine walk1 ?_)
  exact rtA
 | none =>
  rw[hac]at hck
  change ∀ w',Bel w.heap.size w w'->Does _ _ _ w' (fun v O=>v = .tuple #[.agg #[.int .i64 0,.int .i64 0,.int .i64 0],.int .i64 0]/\O=[]) at hck
  have b1:decide ((0:Int)=0)=true:=rfl
  dsimp only
  refine Zaa Tryz.func43 rfl rfl rfl rfl ?_
  by_cases h0:zone<0
  ·have b2:decide (zone<0)=true:=decide_eq_true h0
   rw[if_pos (.inl h0)]
   repeat (first|refine und ?_|(apply RL_pu;rfl;exact Zxf)|(refine js ?_;(first|(refine Zab hck ?_)|(refine bx ?_;intro bk)))|refine walk1 ?_)
   exact rtA
  have b2:decide (zone<0)=false:=decide_eq_false h0
  by_cases h1:(a.zones.length:Int)<=zone
  ·have b3:decide ((a.zones.length:Int)<=zone)=true:=decide_eq_true h1
   rw[if_pos (.inr h1)]
   repeat (first|refine und ?_|(apply RL_pu;rfl;exact Zxe)|(refine js ?_;(first|(refine Zab hck ?_)|(refine bx ?_;intro bk)))|refine walk1 ?_)
   exact rtA
  ·have b3:decide ((a.zones.length:Int)<=zone)=false:=decide_eq_false h1
   rw[if_neg (by omega)]
   repeat (first|refine und ?_|(apply RL_pu;rfl;exact Zxe)|(refine js ?_;(first|(refine Zab hck ?_)|(refine bx ?_;intro bk)))|refine walk1 ?_)
   exact rtA
def ZuD (e:DEra)(R:List DRule)(y:Int)(v:Value)(O:List It):Prop :=
 ∃ B d,v = .tuple #[.agg e.enc.toArray,.slice B R.length d,.int .i64 y]/\O=[.row (.slice B R.length d) 68 11 R.length (R.flatMap DRule.enc)]
def yr00 (l:List DEra):Int:=if 1<l.length then (l.getD (l.length - 2) dE0).til.year else 0
theorem ZpH {G:Prop}(h:G:=by(first|(apply Pu_indexAddr;rfl;rfl;omega;omega;first|exact hna|exact hna2|exact hna3)|(apply Pu_loadO1;rfl;first|exact hca 1 _ rfl|exact hu)|(apply Pu_loadON;rfl;exact hca2;rfl)|(apply Zaw;rfl;rfl;exact b1)|(apply Zan;rfl;rfl;exact b2))):G:=h
set_option maxHeartbeats 1000000 in
theorem ZcS (Ar Az Al As:Option Addr)(cr cz cl cs:Nat)(a:DSource)(k:Nat)(z:DZone)(e:DEra)(w:World)(hA:Zar w Ar Az Al As cr cz cl cs a)(hn:a.rules.length<=1000000)(hk:a.zones[k]?=some z)(he:z.eras[z.eras.length - 1]?=some e) :
  Does Tryz.prog 44 [srcV Ar Az Al As cr cz cl cs a,.int .i64 k] w (ZuD e (ZaJ a z.eras) (yr00 z.eras)):=by
 obtain⟨hna,cs1,⟨A,c,hE,rfl⟩,hca⟩:=hA.z k _ hk
 have hkl:k<a.zones.length:=(List.getElem?_eq_some_iff.1 hk).1
 have hlz:=hA.zle
 have hlc:=hA.zcap
 have hel:=hE.le
 have hec:=hE.cap
 have hl:0<z.eras.length:=by have:=(List.getElem?_eq_some_iff.1 he).1;omega
 have hof:=fun w' (hw:Bel w.heap.size w w')=>Zkf Ar Az Al As cr cz cl cs a e.set w' (hA.up hw) hn
 have hle:ZdD z.eras=e:=by
  unfold ZdD
  rw[List.getD_eq_getElem?_getD,he];rfl
 unfold ZaJ
 rw[hle]
 obtain⟨hna2,hca2⟩:=hE.rd _ _ he
 rw[show z.eras.length - 1=((z.eras.length:Int) - 1).toNat by omega]at hca2
 clear hle he
 simp only[maxLen]at hlc hec
 obtain⟨y,hy⟩:∃ y,yr00 z.eras=y:=⟨_,rfl⟩
 have hy2:1<z.eras.length->w.cell? ((((adr A).add (((z.eras.length:Int) - 2).toNat*13)).add 5).add 1)=some (.int .i64 y):=fun h1=>by
  obtain⟨f,hf⟩:∃ f,z.eras[z.eras.length - 2]?=some f:=⟨_,List.getElem?_eq_getElem (by omega)⟩
  obtain⟨_,hcf⟩:=hE.rd _ _ hf
  unfold yr00 at hy
  rw[if_pos h1,List.getD_eq_getElem?_getD,hf]at hy
  rw[show z.eras.length - 2=((z.eras.length:Int) - 2).toNat by omega]at hcf
  rw[Zbo]
  exact hcf 6 _ (by rw[<- hy];rfl)
 have hy3:¬ 1<z.eras.length->y=0:=fun h1=>by
  rw[<- hy]
  unfold yr00
  rw[if_neg h1]
 rw[hy]
 clear hy
 have hna3:=hna2
 unfold ZiP at hof
 generalize ofB a.rules e.set=R at *
 obtain⟨off,kd,esv,st,fm,⟨ui,uy,um,⟨ud1,ud2,ud3⟩,⟨uc1,uc2⟩⟩⟩:=e
 change Zau w _ [.int .i64 off,.int .i64 kd,.int .i64 esv,.string st,.string fm,.bool ui,.int .i64 uy,.int .i64 um,.int .i64 ud1,.int .i64 ud2,.int .i64 ud3,.int .i64 uc1,.int .i64 uc2]at hca2
 dsimp only at hof ⊢
 refine Zaa Tryz.func44 rfl rfl rfl rfl ?_
 by_cases h1:1<z.eras.length
 ·have b1:decide ((1:Int)<z.eras.length)=true:=decide_eq_true (by omega)
  have hu:=hy2 h1
  clear hy2 hy3
  by_cases h2:kd=2
  ·have b2:decide (kd=2)=true:=decide_eq_true h2
   rw[if_pos h2]
   repeat (first|(apply RL_pu;rfl;exact ZpH)|(refine js ?_;(first|(apply Zae (h:=fun w' hw _=>hof w' hw);rfl;rintro v O' ⟨B,d,rfl,rfl⟩)|(refine bx ?_;intro bk)))|refine walk1 ?_)
   exact Zck _ _ _ [.row (.slice B R.length d) 68 11 R.length (R.flatMap DRule.enc)] (.cellB rfl (by repeat' constructor) rfl rfl) (.tmp rfl) (.tmp rfl) SOA ⟨B,d,rfl,rfl⟩
  ·have b2:decide (kd=2)=false:=decide_eq_false h2
   rw[if_neg h2]
   refine ZdN 68 11 ?_
   repeat (first|(apply RL_pu;rfl;exact ZpH)|(refine js ?_;(first|(apply Zae (h:=fun w' hw _=>hof w' hw);rfl;rintro v O' ⟨B,d,rfl,rfl⟩)|(refine bx ?_;intro bk)))|refine walk1 ?_)
   exact Zck _ _ _ [.row (.slice none 0 0) 68 11 0 []] (.cellB rfl (by repeat' constructor) rfl rfl) (.tmp rfl) (.tmp rfl) SOA ⟨none,0,rfl,rfl⟩
 ·have b1:decide ((1:Int)<z.eras.length)=false:=decide_eq_false (by omega)
  obtain rfl:=hy3 h1
  clear hy2 hy3
  have hu:=trivial
  by_cases h2:kd=2
  ·have b2:decide (kd=2)=true:=decide_eq_true h2
   rw[if_pos h2]
   repeat (first|(apply RL_pu;rfl;exact ZpH)|(refine js ?_;(first|(apply Zae (h:=fun w' hw _=>hof w' hw);rfl;rintro v O' ⟨B,d,rfl,rfl⟩)|(refine bx ?_;intro bk)))|refine walk1 ?_)
   exact Zck _ _ _ [.row (.slice B R.length d) 68 11 R.length (R.flatMap DRule.enc)] (.cellB rfl (by repeat' constructor) rfl rfl) (.tmp rfl) (.tmp rfl) SOA ⟨B,d,rfl,rfl⟩
  ·have b2:decide (kd=2)=false:=decide_eq_false h2
   rw[if_neg h2]
   refine ZdN 68 11 ?_
   repeat (first|(apply RL_pu;rfl;exact ZpH)|(refine js ?_;(first|(apply Zae (h:=fun w' hw _=>hof w' hw);rfl;rintro v O' ⟨B,d,rfl,rfl⟩)|(refine bx ?_;intro bk)))|refine walk1 ?_)
   exact Zck _ _ _ [.row (.slice none 0 0) 68 11 0 []] (.cellB rfl (by repeat' constructor) rfl rfl) (.tmp rfl) (.tmp rfl) SOA ⟨none,0,rfl,rfl⟩
end Go.Proofs.YtpipekfmecikmaaGreatDoor
