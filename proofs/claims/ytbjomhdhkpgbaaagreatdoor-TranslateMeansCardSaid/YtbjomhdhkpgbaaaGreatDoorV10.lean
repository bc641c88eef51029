/- Parts of the proof. -/
import Derived.Test.YtbjomhdhkpgbaaaGreatDoorV09
import Derived.Test.YtbjomhdhkpgbaaaGreatDoorV06
import Derived.Test.YtbjomhdhkpgbaaaGreatDoorV08
set_option maxHeartbeats 4000000
set_option linter.unusedVariables false
set_option linter.unusedSimpArgs false
namespace Go.Proofs.YtbjomhdhkpgbaaaGreatDoor
open Go Go.RowKit Go.Wk
theorem ZBY {w:World}{A:Option Addr}:∀ (zs:List ZaO) (off:Nat),(∀ k z,zs[k]?=some z->A≠none/\∃ cs,Zoo w z cs/\Zam w ((adr A).add ((off+k)*2)) cs) ->
  ∃ Zs:List ZE,Zs.map ZE.z=zs/\(∀ k q,Zs[k]?=some q->A≠none/\Zam w ((adr A).add ((off+k)*2)) q.enc)/\ZaN Zs w
 | [],_,_=>⟨[],rfl,fun _ _ h=>by simp at h,fun _ h=>by simp at h⟩
 | z::zs,off,h=>by
  obtain⟨h1,cs,⟨A',c',h2,rfl⟩,h3⟩:=h 0 z rfl
  obtain⟨Zs,h4,h5,h6⟩:=ZBY (A:=A) zs (off+1) fun k z' hz=>by
   have:=h (k+1) z' (by simpa using hz)
   rwa[show off+(k+1)=off+1+k from by omega]at this
  refine⟨⟨z,A',c'⟩::Zs,by simp[h4],fun k q hq=>?_,fun q hq=>?_⟩
  ·cases k with
   | zero =>
    simp only[List.getElem?_cons_zero,Option.some.injEq]at hq
    subst hq
    exact⟨h1,h3⟩
   | succ k =>
    have:=h5 k q (by simpa using hq)
    rwa[show off+1+k=off+(k+1) from by omega]at this
  ·rcases List.mem_cons.1 hq with rfl|hq
   ·exact h2
   ·exact h6 q hq
theorem Zzn {w:World}{Ar Az Al As:Option Addr}{cr cz cl cs:Nat}{s:Zac}(h:Zan w Ar Az Al As cr cz cl cs s):∃ Zs:List ZE,Zs.map ZE.z=s.zones/\RdSl w Az cz ZE.enc 2 Zs/\ZaN Zs w:=by
 obtain⟨Zs,h1,h2,h3⟩:=ZBY s.zones 0 (fun k z hz=>by simpa using h.z k z hz)
 exact⟨Zs,h1,⟨by rw[<- List.length_map (f:=ZE.z),h1];exact h.zle,h.zcap,fun k q hq=>by simpa using h2 k q hq⟩,h3⟩
theorem ZBX (L:List ZE)(k:Nat)(z:ZE)(hk:L[k]?=some z):(L.flatMap ZE.enc)[k*2+1]?=some (.slice z.A z.z.eras.length z.c):=ZaK ZE.len L k z 1 _ hk rfl
theorem ZBW (L:List ZE)(k:Nat)(z:ZE)(A:Option Addr)(c:Nat)(hk:L[k]?=some z):(L.flatMap ZE.enc).set (k*2+1) (.slice A z.z.eras.length c)=(L.set k ⟨z.z,A,c⟩).flatMap ZE.enc:=by
 induction L generalizing k with
 | nil=>simp at hk
 | cons y L ih =>
  cases k with
  | zero =>
   simp only[List.getElem?_cons_zero,Option.some.injEq]at hk
   subst hk
   rfl
  | succ k =>
   rw[List.getElem?_cons_succ]at hk
   have:=ih k hk
   rw[show(k+1)*2+1=(k*2+1)+1+1 from by omega,List.set_cons_succ,List.flatMap_cons,List.flatMap_cons,<- this]
   rfl
attribute [local irreducible] W RL Does Zar Zal retQ Calls Pu Stp RD Qy Ay Zak
theorem ZjR (A:Option Addr)(c:Nat)(x:List ZE)(w:World)(hA:RdSl w A c ZE.enc 2 x)(hn:x.length<=1000000) :
  Does Tryz.prog 265 [.slice A x.length c] w (fun v O=>∃ A c,v = .slice A x.length c/\O=[.row (.slice A x.length c) 46 2 x.length (x.flatMap ZE.enc)]/\(0<x.length->A≠none)):=by
 refine Zaa Tryz.func265 rfl rfl rfl rfl ?_
 repeat (first|(refine js ?_;(refine bx ?_;intro bk))|refine walk ?_)
 refine Zah rfl (fun h1=>?_) (fun h1=>?_)
 ·obtain rfl:=hA.none h1
  refine Zdj 46 2 ?_
  repeat (first|(refine js ?_;(refine bx ?_;intro bk))|refine walk ?_)
  exact ret_1 _ [.row (.slice none 0 0) 46 2 0 []] (.tmp rfl) SOA ⟨none,0,rfl,rfl,fun h=>absurd h (by simp)⟩
 repeat (first|(refine js ?_;(first|(apply ZdK;rfl;rfl;(intro A' c';(focus repeat' constructor));(intro w' hw _;exact(hA.up hw).rd.raw ZE.len (by decide));exact ZaJ ZE.len x;exact ZcR oneZ x;(simp only[maxLen];omega);omega;intro A' c' hc1 hc2 hc3)|(refine bx ?_;intro bk)))|refine walk ?_)
 exact ret_1 _ _ (.tmp rfl) (.refl _) ⟨A',c',rfl,rfl,hc3⟩
structure CpG where
 k:Nat
 Zr:List ZE
theorem Zsf {G:Prop}(h:G:=by(first|(apply Pu_indexAddr;rfl;rfl;omega;omega;exact hAn)|(apply Zek;rfl;(focus repeat' constructor);exact hx1))):G:=h
set_option maxHeartbeats 4000000 in
theorem Ztg (Ar Az Al As:Option Addr)(cr cz cl cs:Nat)(a:Zac)(w:World)(hA:Zan w Ar Az Al As cr cz cl cs a)(hn:Fits a) :
  Does Tryz.prog 225 [srcV Ar Az Al As cr cz cl cs a] w (Zd4 a):=by
 obtain⟨hnr,hnz,hnl,hns,hne⟩:=hn
 obtain⟨Zo,hZo,hZr,hZe⟩:=Zzn hA
 have hzl:a.zones.length=Zo.length:=by rw[<- hZo,List.length_map]
 refine Zaa Tryz.func225 rfl rfl rfl rfl ?_
 unfold srcV
 rw[hzl]at hnz ⊢
 repeat (first|refine walk ?_|(refine jg ?_;(try intro F);(first|(apply Zad (h:=fun w' hw _=>ZjR Az cz Zo w' (hZr.up hw) hnz);rfl;rintro v O' ⟨A2,c2,rfl,rfl,hA2⟩)|(refine bx ?_;intro bk)|(refine stA ?_));refine fin ?_)|(refine jn ?_;(try intro F);(first|(refine bx ?_;intro bk)|(refine stA ?_)|(apply Zag;exact PuA));refine fin ?_)|(apply RD_W;rfl;intro bk))
 rename_i b1
 generalize bk=b2
 refine Zha (fun g:CpG=>[(10,.int .i64 g.k),(1,_),(2,_),(3,_),(9,_)]) (fun g => .row (.slice A2 Zo.length c2) 46 2 Zo.length ((g.Zr.reverse++Zo.drop g.k).flatMap ZE.enc) :: .blk b2 _ _ :: .blk b1 _ _::g.Zr.map ZaG)
  (fun g=>g.k<=Zo.length/\g.Zr.length=g.k/\g.Zr.reverse.map ZE.z=(Zo.take g.k).map ZE.z) (fun g=>Zo.length - g.k) ⟨0,[]⟩ SFA STA ⟨by simp,rfl,by simp⟩ ?_
 rintro⟨k,Zr⟩ ⟨hk,hZl,hZz⟩
 dsimp only at hk hZl hZz ⊢
 rw[<- List.length_reverse]at hZl
 obtain⟨Zs,hZs⟩:∃ Zs,Zr.reverse=Zs:=⟨_,rfl⟩
 rw[hZs]at hZl hZz
 rw[hZs]
 generalize hT:Zr.map ZaG=T
 repeat (first|refine walk ?_|(refine jn ?_;(try intro F);(first|(refine bx ?_;intro bk)|(refine stA ?_)|(apply Zag;exact PuA));refine fin ?_)|(apply RD_W;rfl;intro bk))
 refine Zah rfl (fun hc=>?_) (fun hc=>?_)
 ·simp only[decide_eq_true_eq,Int.ofNat_lt]at hc
  have hAn:=hA2 (by omega)
  have hEr:=hZe _ (List.getElem_mem hc)
  have hlen:Zo[k].z.eras.length<=1000000:=hne _ (by rw[<- hZo];exact List.mem_map.2 ⟨_,List.getElem_mem hc,rfl⟩)
  have hget:(Zs++Zo.drop k)[k]?=some Zo[k]:=by rw[List.getElem?_append_right (by omega),hZl,Nat.sub_self,List.getElem?_drop,Nat.add_zero,List.getElem?_eq_getElem hc]
  have hset:∀ q:ZE,(Zs++Zo.drop k).set k q=(Zs++[q])++Zo.drop (k+1):=fun q=>by
   rw[List.set_append_right _ _ (by omega),hZl,Nat.sub_self,Zao hc,List.set_cons_zero]
   simp
  have htk:(Zo.take (k+1)).map ZE.z=(Zo.take k).map ZE.z++[Zo[k].z]:=by rw[<- List.take_append_getElem hc,List.map_append];rfl
  have hLl:(Zs++Zo.drop k).length=Zo.length:=by rw[List.length_append,List.length_drop];omega
  generalize Zo[k]=z at *
  have hx1:((Zs++Zo.drop k).flatMap ZE.enc)[((k:Int)).toNat*2+1]?=some (.slice z.A z.z.eras.length z.c):=by
   rw[show((k:Int)).toNat*2+1=k*2+1 from by omega];exact ZBX _ k z hget
  repeat (first|(apply RL_pu;rfl;exact Zsf)|(refine js ?_;(first|(apply Zad (h:=fun w' hw _=>ZcG z.A z.c z.z.eras w' (hEr.up hw) hlen);rfl;rintro v O' ⟨Ae2,ce2,rfl,rfl⟩)|(apply ZcI;rfl;rfl;(focus repeat' constructor);rfl;rfl;rfl;(rw[ZaJ ZE.len,hLl];omega);decide;rfl)|(refine bx ?_;intro bk)))|(apply RD_Q;rfl;rfl;decide +kernel;rfl;rfl;exact QyKeepH0)|refine walk1 ?_|(refine Zdc ?_;intro F;(apply Zad (h:=fun w' hw _=>ZcG z.A z.c z.z.eras w' (hEr.up hw) hlen);rfl;rintro v O' ⟨Ae2,ce2,rfl,rfl⟩);refine⟨_,EndsA,SubO.right _ _,?_⟩)|(refine RD_Lw ?_;intro F;(first|(apply Zad (h:=fun w' hw _=>ZcG z.A z.c z.z.eras w' (hEr.up hw) hlen);rfl;rintro v O' ⟨Ae2,ce2,rfl,rfl⟩)|(apply ZcI;rfl;rfl;(focus repeat' constructor);rfl;rfl;rfl;(rw[ZaJ ZE.len,hLl];omega);decide;rfl)|(refine bx ?_;intro bk)|(refine stA ?_)|(apply Zag;first|exact Zsf|exact PuA));refine⟨_,EndsA,QFKeepH0,?_⟩)|(apply RD_W;rfl;intro bk))
  have hfin:lay ((Zs++Zo.drop k).flatMap ZE.enc) (((k:Int)).toNat*2+1) (Value.slice Ae2 z.z.eras.length ce2).cells.toList=((Zs++[(⟨z.z,Ae2,ce2⟩:ZE)])++Zo.drop (k+1)).flatMap ZE.enc:=by
   rw[show((k:Int)).toNat*2+1=k*2+1 from by omega,<- hset,<- ZBW _ k z Ae2 ce2 hget]
   rfl
  subst hT
  have hrev:(⟨z.z,Ae2,ce2⟩::Zr:List ZE).reverse=Zs++[⟨z.z,Ae2,ce2⟩]:=by rw[List.reverse_cons,hZs]
  exact⟨⟨k+1,⟨z.z,Ae2,ce2⟩::Zr⟩,OA,⟨OA,by rw[<- List.length_reverse,hrev];simp[hZl],by rw[hrev,List.map_append,hZz];exact htk.symm⟩,SFA,by rw[hrev,<- hfin];exact STA⟩
 simp only[decide_eq_false_iff_not,Int.ofNat_lt]at hc
 have hkl:k=Zo.length:=by omega
 subst hkl
 rw[List.drop_length,List.append_nil]
 rw[List.take_length,hZo]at hZz
 subst hT
 refine ZrU _ (SubO.permT (l:=[_,_,_]) (.refl _) ((List.reverse_perm Zr).symm.map ZaG)) ?_
 rw[hZs]
 rw[<- hZl]
 repeat (first|refine walk ?_|(refine jg ?_;(try intro F);(first|(apply Zad (h:=fun w' hw _=>ZcF Ar cr a.rules w' (hA.r.up hw) hnr);rfl;rintro v O' ⟨A3,c3,rfl,rfl⟩)|(apply Zad (h:=fun w' hw _=>ZeI Al cl a.links w' (hA.l.up hw) hnl);rfl;rintro v O' ⟨A4,c4,rfl,rfl⟩)|(apply Zad (h:=fun w' hw _=>ZcE As cs a.shifts w' (hA.s.up hw) hns);rfl;rintro v O' ⟨A5,c5,rfl,rfl⟩)|(refine bx ?_;intro bk)|(refine stA ?_));refine fin ?_)|(refine jn ?_;(try intro F);(first|(refine bx ?_;intro bk)|(refine stA ?_)|(apply Zag;exact PuA));refine fin ?_)|(apply RD_W;rfl;intro bk))
 have hl:Zs.length=a.zones.length:=by rw[<- hZz,List.length_map]
 exact ret_1 _ (rowR A3 c3 a.rules::rowZ A2 c2 Zs::rowL A4 c4 a.links::rowS A5 c5 a.shifts::Zs.map ZaG) (.cellB rfl (by repeat' constructor) rfl rfl) STA ⟨A3,c3,A2,c2,A4,c4,A5,c5,Zs,by rw[srcV,<- hl];rfl,hZz,rfl⟩
theorem ZAh {G:Prop}(h:G:=by(apply ZaA;rfl;rfl;exact e1)):G:=h
theorem ZkQ (c:Zb9)(x:Int)(w:World)(hc : -1000000000<=c.sec/\c.sec<=1000000000)(hx : -1000000000<=x/\x<=1000000000) :
  Does Tryz.prog 260 [.agg c.enc.toArray,.int .i64 x] w (fun v O=>v = .agg (mvC c x).enc.toArray/\O=[]):=by
 obtain⟨s,b⟩:=c
 dsimp only at hc
 show Does _ _ [.agg #[.int .i64 s,.int .i64 b],_] w _
 unfold mvC
 dsimp only
 by_cases h:b=1
 ·subst h
  have e1:decide ((1:Int)=1)=true:=rfl
  rw[if_pos rfl]
  refine Zaa Tryz.func260 rfl rfl rfl rfl ?_
  repeat (first|(apply RL_pu;rfl;exact ZAh)|(refine js ?_;(refine bx ?_;intro bk))|refine walk1 ?_)
  exact ret_1 _ [] (.cellB rfl (by repeat' constructor) rfl rfl) .nil ⟨rfl,rfl⟩
 ·have e1:decide (b=1)=false:=decide_eq_false h
  rw[if_neg h]
  refine Zaa Tryz.func260 rfl rfl rfl rfl ?_
  repeat (first|(apply RL_pu;rfl;exact ZAh)|(refine js ?_;(refine bx ?_;intro bk))|refine walk1 ?_)
  exact ret_1 _ [] (.cellB rfl (by repeat' constructor) rfl rfl) .nil ⟨rfl,rfl⟩
theorem Zsd {G:Prop}(h:G:=by(apply Pu_loadO1;rfl;exact hb 0 _ rfl)):G:=h
theorem ZzR {G:Prop}(h:G:=by first|(apply Qy_y;rfl;exact Zsd)|exact QyA):G:=h
theorem Zz1 {G:Prop}(h:G:=by repeat (first|exact QF.nil|(apply QF.mk;rfl;rfl;decide +kernel;exact ZzR))):G:=h
theorem ZsD (r:Zab)(x:Int)(b:Nat)(w:World)(hr:rulM r=true)(hx : -1000000000<=x/\x<=1000000000)(hb:Zam w ⟨b,0,none⟩ [.int .i64 x]) :
  Does Tryz.prog 264 [.agg r.enc.toArray,.pointer (some ⟨b,0,none⟩)] w (fun v O=>v = .agg (shR x r).enc.toArray/\O=[]):=by
 unfold rulM at hr
 rw[Bool.and_eq_true,ZbU,ZbU]at hr
 obtain⟨hs,hc⟩:=hr
 have hmv:=fun w'=>ZkQ r.at_ x w' hc hx
 obtain⟨nm,fr,to,mo,⟨dk,dw,dd⟩,⟨cs,cb⟩,sv,le⟩:=r
 dsimp only at hs hc hmv
 unfold shR
 dsimp only
 generalize mvC ⟨cs,cb⟩ x=m at *
 obtain⟨ms,mb⟩:=m
 simp only[Zb9.enc]at hmv
 show Does _ _ [.agg #[.string nm,.int .i64 fr,.int .i64 to,.int .i64 mo,.int .i64 dk,.int .i64 dw,.int .i64 dd,.int .i64 cs,.int .i64 cb,.int .i64 sv,.string le],_] w _
 refine Zaa Tryz.func264 rfl rfl rfl rfl ?_
 repeat (first|(apply RL_pu;rfl;exact Zsd)|(apply RD_Q;rfl;rfl;decide +kernel;rfl;rfl;exact ZzR)|refine walk1 ?_|(refine jg ?_;(try intro F);(first|(refine Zae (fun w' _=>hmv w') ?_)|(refine bx ?_;intro bk)|(refine stA ?_));first|refine⟨_,EndsA,Zz1,?_⟩|refine fin ?_)|(refine jn ?_;(try intro F);(first|(refine bx ?_;intro bk)|(refine stA ?_)|(apply Zag;first|exact Zsd|exact PuA));first|refine⟨_,EndsA,Zz1,?_⟩|refine fin ?_)|(apply RD_W;rfl;intro bk))
 exact ret_1 _ [] (.cellB rfl (by repeat' constructor) rfl rfl) .nil ⟨rfl,rfl⟩
def RuV (x:Int)(v:Value)(O:List It):Prop:=∃ b,v = .func (.func 264) #[] #[.pointer (some ⟨b,0,none⟩)]/\O=[.blk b [.int .i64 x] 2]
theorem Zpa (x:Int)(w:World):Does Tryz.prog 224 [.int .i64 x] w (RuV x):=by
 refine Zaa Tryz.func224 rfl rfl rfl rfl ?_
 repeat (first|(refine js ?_;(refine bx ?_;intro bk))|refine walk ?_)
 exact ret_1 _ [.blk _ [.int .i64 x] 2] (.tmp rfl) SOA ⟨_,rfl,rfl⟩
theorem Zm6 (r:Zab)(set:ByteArray)(b:Nat)(w:World)(hb:Zam w ⟨b,0,none⟩ [.string set]) :
  Does Tryz.prog 220 [.agg r.enc.toArray,.pointer (some ⟨b,0,none⟩)] w (fun v O=>v = .bool (decide (r.name=set))/\O=[]):=by
 obtain⟨nm,fr,to,mo,⟨dk,dw,dd⟩,⟨cs,cb⟩,sv,le⟩:=r
 show Does _ _ [.agg #[.string nm,.int .i64 fr,.int .i64 to,.int .i64 mo,.int .i64 dk,.int .i64 dw,.int .i64 dd,.int .i64 cs,.int .i64 cb,.int .i64 sv,.string le],_] w _
 refine Zaa Tryz.func220 rfl rfl rfl rfl ?_
 repeat (first|(apply RL_pu;rfl;exact Zsd)|(refine js ?_;(refine bx ?_;intro bk))|refine walk1 ?_)
 exact rtA
structure ChG (α:Type) where
 k:Nat
 m:List α
def ChI {α:Type}(l:List α)(g:α->α)(k:Nat)(m:List α):Prop:=k<=l.length/\m.length=l.length/\(∀ j,j<k->m[j]?=(l[j]?).map g)/\∀ j,k<=j->m[j]?=l[j]?
theorem ChI.zero {α:Type}(l:List α)(g:α->α):ChI l g 0 l:=⟨Nat.zero_le _,rfl,fun j h=>absurd h (Nat.not_lt_zero j),fun _ _=>rfl⟩
theorem ChI.step {α:Type}{l:List α}{g:α->α}{k:Nat}{m:List α}(h:ChI l g k m){x:α}(hx:l[k]?=some x):ChI l g (k+1) (m.set k (g x)):=by
 have hk:=(List.getElem?_eq_some_iff.1 hx).1
 obtain⟨h1,h2,h3,h4⟩:=h
 refine⟨hk,by rw[List.length_set];exact h2,fun j hj=>?_,fun j hj=>?_⟩
 ·by_cases hjk:j=k
  ·subst hjk
   rw[List.getElem?_set_self (by omega),hx]
   rfl
  ·rw[List.getElem?_set_ne (fun e=>hjk e.symm)]
   exact h3 j (by omega)
 ·rw[List.getElem?_set_ne (by omega)]
  exact h4 j (by omega)
theorem ChI.done {α:Type}{l:List α}{g:α->α}{m:List α}(h:ChI l g l.length m):m=l.map g:=by
 obtain⟨_,h2,h3,_⟩:=h
 refine List.ext_getElem? fun j=>?_
 rw[List.getElem?_map]
 by_cases hj:j<l.length
 ·exact h3 j hj
 ·rw[List.getElem?_eq_none (by omega),List.getElem?_eq_none (by omega)]
  rfl
set_option maxHeartbeats 4000000 in
theorem Zmb (A:Option Addr)(c:Nat)(l:List Zab)(f:FuncId)[Body Tryz.prog f](us cs:List Value)(g:Zab->Zab)(w:World)(hA:RdSl w A c Zab.enc 11 l)(hn:l.length<=1000000)
  (hf:∀ r∈l,∀ w',Bel w.heap.size w w'->Does Tryz.prog f (us++[.agg (Zab.enc r).toArray]++cs) w' (fun v O=>v = .agg (Zab.enc (g r)).toArray/\O=[])) :
  Does Tryz.prog 222 [.slice A l.length c,.func (.func f) us.toArray cs.toArray] w (Zik 56 11 Zab.enc (l.map g)):=by
 have hcl:=fun w' (hw:Bel w.heap.size w w')=>ZcF A c l w' (hA.up hw) hn
 refine Zaa Tryz.func222 rfl rfl rfl rfl ?_
 repeat (first|(refine js ?_;(first|(apply Zad (h:=fun w' hw _=>hcl w' hw);rfl;rintro v O' ⟨A2,c2,rfl,rfl⟩)|(refine bx ?_;intro bk)))|refine walk ?_)
 refine Zaq [(1,.func (.func f) us.toArray cs.toArray),(5,.slice A2 l.length c2),(10,.slice A2 l.length c2),(11,.int .i64 l.length)] [] (fun h:ChG Zab=>[(12,.int .i64 h.k)]) (fun h=>[.row (.slice A2 l.length c2) 56 11 l.length (h.m.flatMap Zab.enc)]) (fun h=>ChI l g h.k h.m) (fun h=>l.length - h.k) ⟨0,l⟩ SFA SOA (ChI.zero l g) ?_
 rintro⟨k,m⟩ hI
 dsimp only at hI ⊢
 obtain⟨i1,i2,i3,i4⟩:=id hI
 repeat (first|(refine js ?_;(refine bx ?_;intro bk))|refine walk ?_)
 refine Zah rfl (fun hc=>?_) (fun hc=>?_)
 ·have hkl:k<l.length:=by
   have:=of_decide_eq_true hc
   omega
  obtain⟨x,hx⟩:∃ x,l[k]?=some x:=⟨_,List.getElem?_eq_getElem hkl⟩
  have hmk:m[k]?=some x:=(i4 k (Nat.le_refl _)).trans hx
  have hfx:=fun w' hw=>hf x (List.mem_of_getElem? hx) w' hw
  have hst:=hI.step hx
  have hlay:lay (m.flatMap Zab.enc) ((k:Int).toNat*11) (Zab.enc (g x))=(m.set k (g x)).flatMap Zab.enc:=by
   have:=Zeg Zab.len 0 (Zab.enc (g x)) (by rw[Zab.len];decide) x (g x) rfl m k hmk
   rw[show(k:Int).toNat*11=k*11+0 by simp]
   exact this
  have hget:∀ (j:Nat) (v:Value),(Zab.enc x)[j]?=some v->(m.flatMap Zab.enc)[(k:Int).toNat*11+j]?=some v:=fun j v hj=>by
   have:=ZaK Zab.len m k x j v hmk hj
   simpa using this
  have hml:(m.flatMap Zab.enc).length=l.length*11:=by rw[ZaJ Zab.len,i2]
  generalize g x=y at *
  obtain⟨a1,a2,a3,a4,⟨a5,a6,a7⟩,⟨a8,a9⟩,a10,a11⟩:=x
  repeat (first|(apply RL_pu;rfl;(first|(apply ZaB;rfl;rfl;omega;omega;(intro w' _ hO;exact Zca (hO.of (A := .row (.slice A2 l.length c2) _ _ _ _) (by repeat' constructor)) (by omega)))|(apply ZbZ (vs:=[.string a1,.int .i64 a2,.int .i64 a3,.int .i64 a4,.int .i64 a5,.int .i64 a6,.int .i64 a7,.int .i64 a8,.int .i64 a9,.int .i64 a10,.string a11]);rfl;(focus repeat' constructor);exact hget;rfl)))|(refine js ?_;(first|(refine Zeh (fun w' hw _=>hfx w' hw) ?_)|(apply Zck (vs:=Zab.enc y);rfl;rfl;(focus repeat' constructor);rfl;rfl;(obtain⟨z1,z2,z3,z4,⟨z5,z6,z7⟩,⟨z8,z9⟩,z10,z11⟩:=y;rfl);(rw[hml];omega);decide;exact hlay)|(refine bx ?_;intro bk)))|refine walk1 ?_)
  exact⟨⟨k+1,m.set k y⟩,by dsimp only;omega,hst,SFA,SOA⟩
 ·obtain rfl:k=l.length:=by
   have:=of_decide_eq_false hc
   omega
  obtain rfl:=hI.done
  repeat (first|(refine js ?_;(refine bx ?_;intro bk))|refine walk ?_)
  exact ret_1 _ [.row (.slice A2 l.length c2) 56 11 l.length ((l.map g).flatMap Zab.enc)] (.tmp rfl) SOA ⟨A2,c2,by rw[List.length_map],by rw[List.length_map]⟩
set_option maxHeartbeats 4000000 in
theorem Zmc (A:Option Addr)(c:Nat)(l:List DEra)(f:FuncId)[Body Tryz.prog f](us cs:List Value)(g:DEra->DEra)(w:World)(hA:RdSl w A c DEra.enc 13 l)(hn:l.length<=1000000)
  (hf:∀ r∈l,∀ w',Bel w.heap.size w w'->Does Tryz.prog f (us++[.agg (DEra.enc r).toArray]++cs) w' (fun v O=>v = .agg (DEra.enc (g r)).toArray/\O=[])) :
  Does Tryz.prog 263 [.slice A l.length c,.func (.func f) us.toArray cs.toArray] w (Zik 54 13 DEra.enc (l.map g)):=by
 have hcl:=fun w' (hw:Bel w.heap.size w w')=>ZcG A c l w' (hA.up hw) hn
 refine Zaa Tryz.func263 rfl rfl rfl rfl ?_
 repeat (first|(refine js ?_;(first|(apply Zad (h:=fun w' hw _=>hcl w' hw);rfl;rintro v O' ⟨A2,c2,rfl,rfl⟩)|(refine bx ?_;intro bk)))|refine walk ?_)
 refine Zaq [(1,.func (.func f) us.toArray cs.toArray),(5,.slice A2 l.length c2),(10,.slice A2 l.length c2),(11,.int .i64 l.length)] [] (fun h:ChG DEra=>[(12,.int .i64 h.k)]) (fun h=>[.row (.slice A2 l.length c2) 54 13 l.length (h.m.flatMap DEra.enc)]) (fun h=>ChI l g h.k h.m) (fun h=>l.length - h.k) ⟨0,l⟩ SFA SOA (ChI.zero l g) ?_
 rintro⟨k,m⟩ hI
 dsimp only at hI ⊢
 obtain⟨i1,i2,i3,i4⟩:=id hI
 repeat (first|(refine js ?_;(refine bx ?_;intro bk))|refine walk ?_)
 refine Zah rfl (fun hc=>?_) (fun hc=>?_)
 ·have hkl:k<l.length:=by
   have:=of_decide_eq_true hc
   omega
  obtain⟨x,hx⟩:∃ x,l[k]?=some x:=⟨_,List.getElem?_eq_getElem hkl⟩
  have hmk:m[k]?=some x:=(i4 k (Nat.le_refl _)).trans hx
  have hfx:=fun w' hw=>hf x (List.mem_of_getElem? hx) w' hw
  have hst:=hI.step hx
  have hlay:lay (m.flatMap DEra.enc) ((k:Int).toNat*13) (DEra.enc (g x))=(m.set k (g x)).flatMap DEra.enc:=by
   have:=Zeg DEra.len 0 (DEra.enc (g x)) (by rw[DEra.len];decide) x (g x) rfl m k hmk
   rw[show(k:Int).toNat*13=k*13+0 by simp]
   exact this
  have hget:∀ (j:Nat) (v:Value),(DEra.enc x)[j]?=some v->(m.flatMap DEra.enc)[(k:Int).toNat*13+j]?=some v:=fun j v hj=>by
   have:=ZaK DEra.len m k x j v hmk hj
   simpa using this
  have hml:(m.flatMap DEra.enc).length=l.length*13:=by rw[ZaJ DEra.len,i2]
  generalize g x=y at *
  obtain⟨a1,a2,a3,a4,a5,⟨a6,a7,a8,⟨a9,a10,a11⟩,⟨a12,a13⟩⟩⟩:=x
  repeat (first|(apply RL_pu;rfl;(first|(apply ZaB;rfl;rfl;omega;omega;(intro w' _ hO;exact Zca (hO.of (A := .row (.slice A2 l.length c2) _ _ _ _) (by repeat' constructor)) (by omega)))|(apply ZbZ (vs:=[.int .i64 a1,.int .i64 a2,.int .i64 a3,.string a4,.string a5,.bool a6,.int .i64 a7,.int .i64 a8,.int .i64 a9,.int .i64 a10,.int .i64 a11,.int .i64 a12,.int .i64 a13]);rfl;(focus repeat' constructor);exact hget;rfl)))|(refine js ?_;(first|(refine Zeh (fun w' hw _=>hfx w' hw) ?_)|(apply Zck (vs:=DEra.enc y);rfl;rfl;(focus repeat' constructor);rfl;rfl;(obtain⟨z1,z2,z3,z4,z5,⟨z6,z7,z8,⟨z9,z10,z11⟩,⟨z12,z13⟩⟩⟩:=y;rfl);(rw[hml];omega);decide;exact hlay)|(refine bx ?_;intro bk)))|refine walk1 ?_)
  exact⟨⟨k+1,m.set k y⟩,by dsimp only;omega,hst,SFA,SOA⟩
 ·obtain rfl:k=l.length:=by
   have:=of_decide_eq_false hc
   omega
  obtain rfl:=hI.done
  repeat (first|(refine js ?_;(refine bx ?_;intro bk))|refine walk ?_)
  exact ret_1 _ [.row (.slice A2 l.length c2) 54 13 l.length ((l.map g).flatMap DEra.enc)] (.tmp rfl) SOA ⟨A2,c2,by rw[List.length_map],by rw[List.length_map]⟩
theorem Zmr {P:Program}{n:Nat}{wr:World}{fr:Fr}{O:List It}{ty t t':TypeId}{x y:Operand}{a b:ByteArray}{q:Bool}(hx:ev fr x=some (.string a))(hy:ev fr y=some (.string b))(hq:(!decide (a=b))=q):Pu P n wr fr O (.binOp .neq t x y t') ty (.bool q):=hq▸Pu_neqS hx hy
theorem Zsc {G:Prop}(h:G:=by(first|(apply Pu_loadO1;rfl;exact h1 0 _ rfl)|(apply Pu_loadO1;rfl;exact h2 0 _ rfl)|(apply ZaH;rfl;rfl;exact e1)|(apply Zmr;rfl;rfl;exact e2))):G:=h
theorem Ztd (e:DEra)(set:ByteArray)(x:Int)(b1 b2:Nat)(w:World)(he:eraM e=true)(hx : -1000000000<=x/\x<=1000000000)(h1:Zam w ⟨b1,0,none⟩ [.string set])(h2:Zam w ⟨b2,0,none⟩ [.int .i64 x]) :
  Does Tryz.prog 259 [.agg e.enc.toArray,.pointer (some ⟨b1,0,none⟩),.pointer (some ⟨b2,0,none⟩)] w (fun v O=>v = .agg (shE set x e).enc.toArray/\O=[]):=by
 unfold eraM at he
 simp only[Bool.and_eq_true,ZbU]at he
 obtain⟨ho,_,hc,_⟩:=he
 have hmv:=fun w'=>ZkQ e.til.at_ x w' hc hx
 by_cases hi:Zfp set e
 ·have hE:shE set x e={ e with off:=e.off - x,til:=shU e.til x }:=if_pos hi
  rw[hE]
  obtain⟨hk,hs⟩:=hi
  unfold shU
  clear hE
  obtain⟨off,kd,sv,st,fm,⟨is,yr,mo,⟨dk,dw,dd⟩,⟨cs,cb⟩⟩⟩:=e
  dsimp only at ho hc hmv hk hs ⊢
  generalize mvC ⟨cs,cb⟩ x=m at *
  obtain⟨ms,mb⟩:=m
  simp only[Zb9.enc]at hmv
  show Does _ _ [.agg #[.int .i64 off,.int .i64 kd,.int .i64 sv,.string st,.string fm,.bool is,.int .i64 yr,.int .i64 mo,.int .i64 dk,.int .i64 dw,.int .i64 dd,.int .i64 cs,.int .i64 cb],_,_] w _
  have e1:(!decide (kd=2))=false:=by rw[decide_eq_true hk];rfl
  have e2:(!decide (st=set))=false:=by rw[decide_eq_true hs];rfl
  cases is with
  | true =>
   rw[if_pos rfl]
   refine Zaa Tryz.func259 rfl rfl rfl rfl ?_
   repeat (first|refine und ?_|(apply RL_pu;rfl;exact Zsc)|(refine js ?_;(first|(refine Zae (fun w' _=>hmv w') ?_)|(refine bx ?_;intro bk)))|refine walk1 ?_)
   exact ret_1 _ [] (.cellB rfl (by repeat' constructor) rfl rfl) .nil ⟨rfl,rfl⟩
  | false =>
   rw[if_neg (by decide)]
   refine Zaa Tryz.func259 rfl rfl rfl rfl ?_
   repeat (first|refine und ?_|(apply RL_pu;rfl;exact Zsc)|(refine js ?_;(first|(refine Zae (fun w' _=>hmv w') ?_)|(refine bx ?_;intro bk)))|refine walk1 ?_)
   exact ret_1 _ [] (.cellB rfl (by repeat' constructor) rfl rfl) .nil ⟨rfl,rfl⟩
 ·have hE:shE set x e=e:=if_neg hi
  rw[hE]
  unfold Zfp at hi
  clear hE hmv
  obtain⟨off,kd,sv,st,fm,⟨is,yr,mo,⟨dk,dw,dd⟩,⟨cs,cb⟩⟩⟩:=e
  dsimp only at ho hc hi ⊢
  show Does _ _ [.agg #[.int .i64 off,.int .i64 kd,.int .i64 sv,.string st,.string fm,.bool is,.int .i64 yr,.int .i64 mo,.int .i64 dk,.int .i64 dw,.int .i64 dd,.int .i64 cs,.int .i64 cb],_,_] w _
  by_cases hk:kd=2
  ·have e1:(!decide (kd=2))=false:=by rw[decide_eq_true hk];rfl
   have e2:(!decide (st=set))=true:=by rw[decide_eq_false (fun h=>hi ⟨hk,h⟩)];rfl
   refine Zaa Tryz.func259 rfl rfl rfl rfl ?_
   repeat (first|refine und ?_|(apply RL_pu;rfl;exact Zsc)|(refine js ?_;(refine bx ?_;intro bk))|refine walk1 ?_)
   exact ret_1 _ [] (.cellB rfl (by repeat' constructor) rfl rfl) .nil ⟨rfl,rfl⟩
  ·have e1:(!decide (kd=2))=true:=by rw[decide_eq_false hk];rfl
   refine Zaa Tryz.func259 rfl rfl rfl rfl ?_
   repeat (first|refine und ?_|(apply RL_pu;rfl;exact Zsc)|(refine js ?_;(refine bx ?_;intro bk))|refine walk1 ?_)
   exact ret_1 _ [] (.cellB rfl (by repeat' constructor) rfl rfl) .nil ⟨rfl,rfl⟩
def erFn (b1 b2:Nat):Value := .func (.func 259) #[] #[.pointer (some ⟨b1,0,none⟩),.pointer (some ⟨b2,0,none⟩)]
def ZoR (z:ZaO)(v:Value)(O:List It):Prop:=∃ A c,v = .agg #[.string z.name,.slice A z.eras.length c]/\O=[ZaG ⟨z,A,c⟩]
theorem ZwW {G:Prop}(h:G:=by(apply Pu_loadO1;rfl;exact h3 0 _ rfl)):G:=h
theorem ZzQ {G:Prop}(h:G:=by first|(apply Qy_y;rfl;exact ZwW)|exact QyA):G:=h
theorem Zz0 {G:Prop}(h:G:=by repeat (first|exact QF.nil|(apply QF.mk;rfl;rfl;decide +kernel;exact ZzQ))):G:=h
theorem Ztc (q:ZE)(set:ByteArray)(x:Int)(b1 b2 b3:Nat)(w:World)(hq:RdSl w q.A q.c DEra.enc 13 q.z.eras)(hl:q.z.eras.length<=1000000)(he:∀ e∈q.z.eras,eraM e=true)(hx : -1000000000<=x/\x<=1000000000)(h1:Zam w ⟨b1,0,none⟩ [.string set])(h2:Zam w ⟨b2,0,none⟩ [.int .i64 x])(h3:Zam w ⟨b3,0,none⟩ [erFn b1 b2]) :
  Does Tryz.prog 262 [.agg q.enc.toArray,.pointer (some ⟨b3,0,none⟩)] w (ZoR (Za4 (shE set x) q.z)):=by
 have hch:=fun w' (hw:Bel w.heap.size w w')=>Zmc q.A q.c q.z.eras 259 [] [.pointer (some ⟨b1,0,none⟩),.pointer (some ⟨b2,0,none⟩)] (shE set x) w' (hq.up hw) hl fun e hm w2 h2'=>Ztd e set x b1 b2 w2 (he e hm) hx ((h1.up hw (Nat.le_refl _)).up h2' (Nat.le_refl _)) ((h2.up hw (Nat.le_refl _)).up h2' (Nat.le_refl _))
 obtain⟨⟨nm,es⟩,A,c⟩:=q
 unfold erFn at h3
 dsimp only at hq hl he hch ⊢
 show Does _ _ [.agg #[.string nm,.slice A es.length c],_] w _
 refine Zaa Tryz.func262 rfl rfl rfl rfl ?_
 repeat (first|(apply RL_pu;rfl;exact ZwW)|(apply RD_Q;rfl;rfl;decide +kernel;rfl;rfl;exact ZzQ)|refine walk1 ?_|(refine jg ?_;(try intro F);(first|(apply Zad (h:=fun w' hw _=>hch w' hw);rfl;rintro v O' ⟨A2,c2,rfl,rfl⟩)|(refine bx ?_;intro bk)|(refine stA ?_));first|refine⟨_,EndsA,Zz0,?_⟩|refine fin ?_)|(refine jn ?_;(try intro F);(first|(refine bx ?_;intro bk)|(refine stA ?_)|(apply Zag;first|exact ZwW|exact PuA));first|refine⟨_,EndsA,Zz0,?_⟩|refine fin ?_)|(apply RD_W;rfl;intro bk))
 exact ret_1 _ [.row (.slice A2 (es.map (shE set x)).length c2) 54 13 (es.map (shE set x)).length ((es.map (shE set x)).flatMap DEra.enc)] (.cellB rfl (by repeat' constructor) rfl rfl) SOA ⟨A2,c2,rfl,rfl⟩
structure CzG where
 k:Nat
 Zr:List ZE
def ZC0 (zs:List ZaO)(v:Value)(O:List It):Prop:=∃ A c Zs,v = .slice A zs.length c/\Zs.map ZE.z=zs/\O=rowZ A c Zs::Zs.map ZaG
set_option maxHeartbeats 4000000 in
theorem Zma (Az:Option Addr)(cz:Nat)(Zo:List ZE)(f:FuncId)[Body Tryz.prog f](us cs:List Value)(g:ZaO->ZaO)(w:World)(hZr:RdSl w Az cz ZE.enc 2 Zo)(hnz:Zo.length<=1000000)
  (hf:∀ q∈Zo,∀ w',Bel w.heap.size w w'->Does Tryz.prog f (us++[.agg (ZE.enc q).toArray]++cs) w' (ZoR (g q.z))) :
  Does Tryz.prog 261 [.slice Az Zo.length cz,.func (.func f) us.toArray cs.toArray] w (ZC0 (Zo.map fun q=>g q.z)):=by
 refine Zaa Tryz.func261 rfl rfl rfl rfl ?_
 repeat (first|(refine js ?_;(first|(apply Zad (h:=fun w' hw _=>ZjR Az cz Zo w' (hZr.up hw) hnz);rfl;rintro v O' ⟨A2,c2,rfl,rfl,hA2⟩)|(refine bx ?_;intro bk)))|refine walk ?_)
 refine Zha (fun g:CzG=>[(12,.int .i64 g.k),(1,_),(5,_),(10,_),(11,_)]) (fun g => .row (.slice A2 Zo.length c2) 46 2 Zo.length ((g.Zr.reverse++Zo.drop g.k).flatMap ZE.enc)::g.Zr.map ZaG)
  (fun h=>h.k<=Zo.length/\h.Zr.length=h.k/\h.Zr.reverse.map ZE.z=(Zo.take h.k).map fun q=>g q.z) (fun g=>Zo.length - g.k) ⟨0,[]⟩ SFA STA ⟨by simp,rfl,by simp⟩ ?_
 rintro⟨k,Zr⟩ ⟨hk,hZl,hZz⟩
 dsimp only at hk hZl hZz ⊢
 rw[<- List.length_reverse]at hZl
 obtain⟨Zs,hZs⟩:∃ Zs,Zr.reverse=Zs:=⟨_,rfl⟩
 rw[hZs]at hZl hZz
 rw[hZs]
 generalize hT:Zr.map ZaG=T
 repeat (first|(refine js ?_;(refine bx ?_;intro bk))|refine walk ?_)
 refine Zah rfl (fun hc=>?_) (fun hc=>?_)
 ·simp only[decide_eq_true_eq,Int.ofNat_lt]at hc
  have hAn:=hA2 (by omega)
  have hfx:=fun w' hw=>hf _ (List.getElem_mem hc) w' hw
  have hget:(Zs++Zo.drop k)[k]?=some Zo[k]:=by rw[List.getElem?_append_right (by omega),hZl,Nat.sub_self,List.getElem?_drop,Nat.add_zero,List.getElem?_eq_getElem hc]
  have hset:∀ q:ZE,(Zs++Zo.drop k).set k q=(Zs++[q])++Zo.drop (k+1):=fun q=>by
   rw[List.set_append_right _ _ (by omega),hZl,Nat.sub_self,Zao hc,List.set_cons_zero]
   simp
  have htk:(Zo.take (k+1)).map (fun q=>g q.z)=(Zo.take k).map (fun q=>g q.z)++[g Zo[k].z]:=by rw[<- List.take_append_getElem hc,List.map_append];rfl
  have hLl:(Zs++Zo.drop k).length=Zo.length:=by rw[List.length_append,List.length_drop];omega
  generalize Zo[k]=z at *
  have hx1:∀ (j:Nat) (v:Value),(ZE.enc z)[j]?=some v->((Zs++Zo.drop k).flatMap ZE.enc)[((k:Int)).toNat*2+j]?=some v:=fun j v hj=>by
   have:=ZaK ZE.len _ k z j v hget hj
   simpa using this
  generalize g z.z=y at *
  have hlay:∀ (A':Option Addr) (c':Nat),lay ((Zs++Zo.drop k).flatMap ZE.enc) ((k:Int).toNat*2) [.string y.name,.slice A' y.eras.length c']=((Zs++[(⟨y,A',c'⟩:ZE)])++Zo.drop (k+1)).flatMap ZE.enc:=fun A' c'=>by
   have:=Zeg ZE.len 0 [.string y.name,.slice A' y.eras.length c'] (Nat.le_refl 2) z ⟨y,A',c'⟩ rfl _ k hget
   rw[show(k:Int).toNat*2=k*2+0 by simp,this,hset]
  obtain⟨⟨zn,zes⟩,zA,zc⟩:=z
  repeat (first|(apply RL_pu;rfl;(first|(apply Pu_indexAddr;rfl;rfl;omega;omega;exact hAn)|(apply ZbZ (vs:=[.string zn,.slice zA zes.length zc]);rfl;(focus repeat' constructor);exact hx1;rfl)))|(refine js ?_;(first|(apply Zap (h:=fun w' hw _=>hfx w' hw);rfl;rfl;rintro v O' ⟨A3,c3,rfl,rfl⟩)|(apply Zck (vs:=[.string y.name,.slice A3 y.eras.length c3]);rfl;rfl;(focus repeat' constructor);rfl;rfl;rfl;(rw[ZaJ ZE.len,hLl];omega);decide;exact hlay A3 c3)|(refine bx ?_;intro bk)))|refine walk1 ?_)
  subst hT
  have hrev:(⟨y,A3,c3⟩::Zr:List ZE).reverse=Zs++[⟨y,A3,c3⟩]:=by rw[List.reverse_cons,hZs]
  exact⟨⟨k+1,⟨y,A3,c3⟩::Zr⟩,OA,⟨OA,by rw[<- List.length_reverse,hrev];simp[hZl],by rw[hrev,List.map_append,hZz];exact htk.symm⟩,SFA,by rw[hrev];exact STA⟩
 simp only[decide_eq_false_iff_not,Int.ofNat_lt]at hc
 have hkl:k=Zo.length:=by omega
 subst hkl
 rw[List.drop_length,List.append_nil]
 rw[List.take_length]at hZz
 subst hT
 refine ZrU _ (SubO.permT (l:=[_]) (.refl _) ((List.reverse_perm Zr).symm.map ZaG)) ?_
 rw[hZs]
 rw[<- hZl]
 repeat (first|(refine js ?_;(refine bx ?_;intro bk))|refine walk ?_)
 have hl:Zs.length=(Zo.map fun q=>g q.z).length:=by rw[<- hZz,List.length_map]
 exact ret_1 _ (rowZ A2 c2 Zs::Zs.map ZaG) (.tmp rfl) STA ⟨A2,c2,Zs,by rw[<- hl],hZz,rfl⟩
def ZC1 (zs:List ZaO)(v:Value)(O:List It):Prop:=∃ A c Zs S,v = .slice A zs.length c/\Zs.map ZE.z=zs/\O=[.row (.slice A zs.length c) 46 2 zs.length (Zs.flatMap ZE.enc),.fact S (ZaN Zs)]
theorem Zyg {zs:List ZaO}{v:Value}{O:List It}(h:ZC0 zs v O):∃ O',ZC1 zs v O'/\∀ base w',Zau base O w'->Zau base O' w':=by
 obtain⟨A,c,Zs,rfl,hz,rfl⟩:=h
 have hl:zs.length=Zs.length:=by rw[<- hz,List.length_map]
 refine⟨_,⟨A,c,Zs,foot (Zs.map ZaG),rfl,hz,rfl⟩,fun base w' hH=>?_⟩
 rw[hl]
 have h1:Zau base (Zs.map ZaG++[rowZ A c Zs]) w':=hH.perm (List.perm_append_comm (l₁:=[rowZ A c Zs]))
 have h2:=h1.fact (p:=ZaN Zs) (fun w2 hi q hq=>Zbc DEra.len (hi (ZaG q) (List.mem_map.2 ⟨q,hq,rfl⟩)))
 exact h2.perm (List.Perm.swap _ _ _)
instance zfnR:ZeroT Tryz.prog 125 [.nilFunc]:=⟨by kernel_rfl⟩
instance zfnE:ZeroT Tryz.prog 343 [.nilFunc]:=⟨by kernel_rfl⟩
def ZxV (b:Nat):Value := .func (.func 220) #[] #[.pointer (some ⟨b,0,none⟩)]
theorem ZoF {G:Prop}(h:G:=by(first|(apply Pu_loadO1;rfl;exact h1 0 _ rfl)|(apply Pu_loadO1;rfl;exact h2 0 _ rfl))):G:=h
theorem Zwu {G:Prop}(h:G:=by first|(apply Qy_y;rfl;exact ZoF)|exact QyA):G:=h
theorem Zr4 {G:Prop}(h:G:=by repeat (first|exact QF.nil|(apply QF.mk;rfl;rfl;decide +kernel;exact Zwu))):G:=h
theorem Zuq (r:Zab)(set:ByteArray)(x:Int)(bo bv bs:Nat)(w:World)(hr:rulM r=true)(hx : -1000000000<=x/\x<=1000000000)(h1:Zam w ⟨bo,0,none⟩ [ZxV bs])(h2:Zam w ⟨bv,0,none⟩ [.int .i64 x])(h3:Zam w ⟨bs,0,none⟩ [.string set]) :
  Does Tryz.prog 223 [.agg r.enc.toArray,.pointer (some ⟨bo,0,none⟩),.pointer (some ⟨bv,0,none⟩)] w (fun v O=>v = .agg (shN set x r).enc.toArray/\O=[]):=by
 have hof:=fun w' (hw:Bel w.heap.size w w')=>Zm6 r set bs w' (h3.up hw (Nat.le_refl _))
 have hr1:=fun b w' hb=>ZsD r x b w' hr hx hb
 unfold ZxV at h1
 unfold shN
 generalize shR x r=y at *
 obtain⟨nm,fr,to,mo,⟨dk,dw,dd⟩,⟨cs,cb⟩,sv,le⟩:=r
 dsimp only at hof ⊢
 obtain⟨yn,yf,yt,ym,⟨yk,yw,yd⟩,⟨ys,yb⟩,yv,yl⟩:=y
 simp only[Zab.enc]at hof hr1
 show Does _ _ [.agg #[.string nm,.int .i64 fr,.int .i64 to,.int .i64 mo,.int .i64 dk,.int .i64 dw,.int .i64 dd,.int .i64 cs,.int .i64 cb,.int .i64 sv,.string le],_,_] w _
 by_cases hn:nm=set
 ·have e1:decide (nm=set)=true:=decide_eq_true hn
  rw[e1]at hof
  rw[if_pos hn]
  refine Zaa Tryz.func223 rfl rfl rfl rfl ?_
  repeat (first|(apply RL_pu;rfl;exact ZoF)|(apply RD_Q;rfl;rfl;decide +kernel;rfl;rfl;exact Zwu)|refine walk1 ?_|(refine jg ?_;(try intro F);(first|(apply Zap (f:=220) (us:=[]) (cs:=[.pointer (some ⟨bs,0,none⟩)]) (vs:=[.agg #[.string nm,.int .i64 fr,.int .i64 to,.int .i64 mo,.int .i64 dk,.int .i64 dw,.int .i64 dd,.int .i64 cs,.int .i64 cb,.int .i64 sv,.string le]]) (h:=fun w' hw _=>hof w' hw);rfl;rfl;rintro v O' ⟨rfl,rfl⟩)|(apply Zad (h:=fun w' _ _=>Zpa x w');rfl;rintro v O' ⟨b,rfl,rfl⟩)|(apply Zap (f:=264) (us:=[]) (cs:=[.pointer (some ⟨b,0,none⟩)]) (vs:=[.agg #[.string nm,.int .i64 fr,.int .i64 to,.int .i64 mo,.int .i64 dk,.int .i64 dw,.int .i64 dd,.int .i64 cs,.int .i64 cb,.int .i64 sv,.string le]]) (h:=fun w' _ hO=>hr1 b w' (hO.cells (by repeat' constructor)));rfl;rfl;rintro v O' ⟨rfl,rfl⟩)|(refine bx ?_;intro bk)|(refine stA ?_));first|refine⟨_,EndsA,Zr4,?_⟩|refine fin ?_)|(refine jn ?_;(try intro F);(first|(refine bx ?_;intro bk)|(refine stA ?_)|(apply Zag;first|exact ZoF|exact PuA));first|refine⟨_,EndsA,Zr4,?_⟩|refine fin ?_)|(apply RD_W;rfl;intro bk))
  exact ret_1 _ [] (.cellB rfl (by repeat' constructor) rfl rfl) .nil ⟨rfl,rfl⟩
 ·have e1:decide (nm=set)=false:=decide_eq_false hn
  rw[e1]at hof
  rw[if_neg hn]
  refine Zaa Tryz.func223 rfl rfl rfl rfl ?_
  repeat (first|(apply RL_pu;rfl;exact ZoF)|(apply RD_Q;rfl;rfl;decide +kernel;rfl;rfl;exact Zwu)|refine walk1 ?_|(refine jg ?_;(try intro F);(first|(apply Zap (f:=220) (us:=[]) (cs:=[.pointer (some ⟨bs,0,none⟩)]) (vs:=[.agg #[.string nm,.int .i64 fr,.int .i64 to,.int .i64 mo,.int .i64 dk,.int .i64 dw,.int .i64 dd,.int .i64 cs,.int .i64 cb,.int .i64 sv,.string le]]) (h:=fun w' hw _=>hof w' hw);rfl;rfl;rintro v O' ⟨rfl,rfl⟩)|(refine bx ?_;intro bk)|(refine stA ?_));first|refine⟨_,EndsA,Zr4,?_⟩|refine fin ?_)|(refine jn ?_;(try intro F);(first|(refine bx ?_;intro bk)|(refine stA ?_)|(apply Zag;first|exact ZoF|exact PuA));first|refine⟨_,EndsA,Zr4,?_⟩|refine fin ?_)|(apply RD_W;rfl;intro bk))
  exact ret_1 _ [] (.cellB rfl (by repeat' constructor) rfl rfl) .nil ⟨rfl,rfl⟩
set_option maxHeartbeats 4000000 in
theorem Zpb (Ar Az Al As:Option Addr)(cr cz cl cs:Nat)(a:Zac)(set:ByteArray)(x:Int)(w:World)(hA:Zan w Ar Az Al As cr cz cl cs a)(hn:Fits a)(hm:srcM a=true)(hx : -1000000000<=x/\x<=1000000000) :
  Does Tryz.prog 221 [srcV Ar Az Al As cr cz cl cs a,.string set,.int .i64 x] w (Zhk ⟨a.rules,a.zones.map (Za4 (shE set x)),a.links,a.shifts⟩):=by
 obtain⟨hnr,hnz,hnl,hns,hne⟩:=hn
 obtain⟨Zo,hZo,hZr,hZe⟩:=Zzn hA
 have hzl:a.zones.length=Zo.length:=by rw[<- hZo,List.length_map]
 unfold srcM at hm
 rw[Bool.and_eq_true,List.all_eq_true,List.all_eq_true]at hm
 have hcz:∀ (b1 b2 b3:Nat) (w':World),Bel w.heap.size w w'->Zam w' ⟨b1,0,none⟩ [.string set]->Zam w' ⟨b2,0,none⟩ [.int .i64 x]->Zam w' ⟨b3,0,none⟩ [erFn b1 b2] ->
   Does Tryz.prog 261 [.slice Az Zo.length cz,.func (.func 262) #[] #[.pointer (some ⟨b3,0,none⟩)]] w' (ZC1 (Zo.map fun q=>Za4 (shE set x) q.z)):=fun b1 b2 b3 w' hw q1 q2 q3 =>
  (Zma Az cz Zo 262 [] [.pointer (some ⟨b3,0,none⟩)] (Za4 (shE set x)) w' (hZr.up hw) (by omega) fun q hq w2 h2=>by
   have hqz:q.z∈a.zones:=by rw[<- hZo];exact List.mem_map.2 ⟨q,hq,rfl⟩
   exact Ztc q set x b1 b2 b3 w2 (((hZe q hq).up hw).up h2) (hne _ hqz) (fun e he=>by
    have:=hm.2 _ hqz
    rw[List.all_eq_true]at this
    exact this e he) hx (q1.up h2 (Nat.le_refl _)) (q2.up h2 (Nat.le_refl _)) (q3.up h2 (Nat.le_refl _))).monoO fun _ _ h=>Zyg h
 have hmz:(Zo.map fun q=>Za4 (shE set x) q.z)=a.zones.map (Za4 (shE set x)):=by rw[<- hZo,List.map_map];rfl
 refine Zaa Tryz.func221 rfl rfl rfl rfl ?_
 unfold srcV
 rw[hzl]
 repeat (first|refine walk ?_|(refine jg ?_;(try intro F);(first|(apply Zad (h:=fun w' hw _=>ZcF Ar cr a.rules w' (hA.r.up hw) hnr);rfl;rintro v O' ⟨A3,c3,rfl,rfl⟩)|(apply Zad (h:=fun w' hw _=>ZeI Al cl a.links w' (hA.l.up hw) hnl);rfl;rintro v O' ⟨A4,c4,rfl,rfl⟩)|(apply Zad (h:=fun w' hw _=>ZcE As cs a.shifts w' (hA.s.up hw) hns);rfl;rintro v O' ⟨A5,c5,rfl,rfl⟩)|(apply Zad (h:=fun w' hw hO=>hcz _ _ _ w' hw (hO.cells (by repeat' constructor)) (hO.cells (by repeat' constructor)) (hO.cells (by repeat' constructor)));rfl;rintro v O' ⟨A2,c2,Zs,S,rfl,hZs,rfl⟩)|(refine bx ?_;intro bk)|(refine stA ?_));refine fin ?_)|(refine jn ?_;(try intro F);(first|(refine bx ?_;intro bk)|(refine stA ?_)|(apply Zag;exact PuA));refine fin ?_)|(apply RD_W;rfl;intro bk))
 have hl:(Zo.map fun q=>Za4 (shE set x) q.z).length=Zs.length:=by rw[<- hZs,List.length_map]
 have hl2:(a.zones.map (Za4 (shE set x))).length=Zs.length:=by rw[<- hmz,hl]
 rw[hl]
 exact ret_1 _ [rowR A3 c3 a.rules,rowZ A2 c2 Zs,rowL A4 c4 a.links,rowS A5 c5 a.shifts,.fact S (ZaN Zs)] (.cellB rfl (by repeat' constructor) rfl rfl) SOA ⟨A3,c3,A2,c2,A4,c4,A5,c5,Zs,S,by rw[srcV,hl2];rfl,hZs.trans hmz,rfl⟩
set_option maxHeartbeats 4000000 in
theorem Zsx (Ar Az Al As:Option Addr)(cr cz cl cs:Nat)(a:Zac)(set:ByteArray)(x:Int)(w:World)(hA:Zan w Ar Az Al As cr cz cl cs a)(hn:Fits a)(hg:rngB a set x=true) :
  Does Tryz.prog 185 [srcV Ar Az Al As cr cz cl cs a,.string set,.int .i64 x] w (fun v O=>∃ u,v = .tuple #[u,.int .i64 0]/\Zhk (shiftS set x a) u O):=by
 unfold rngB at hg
 rw[Bool.and_eq_true,Bool.and_eq_true,ZbU]at hg
 obtain⟨hh,hm,hx⟩:=hg
 have hnr:=hn.1
 have her:=fun w' (hw:Bel w.heap.size w w')=>Zpb Ar Az Al As cr cz cl cs a set x w' (hA.up hw) hn hm hx
 have hco:=fun(b:Nat) w' (hw:Bel w.heap.size w w') (hb:Zam w' ⟨b,0,none⟩ [.string set])=>ZdI Ar cr a.rules 220 [] [.pointer (some ⟨b,0,none⟩)] (fun r=>decide (r.name=set)) w' (hA.r.up hw) fun r w2 h2=>Zm6 r set b w2 (hb.up h2 (Nat.le_refl _))
 unfold hasN at hh
 rw[hh]at hco
 have hrm:∀ r∈a.rules,rulM r=true:=by
  unfold srcM at hm
  rw[Bool.and_eq_true,List.all_eq_true]at hm
  exact hm.1
 have hch:=fun(bo bv bs:Nat) A3 c3 w' (_:Bel w.heap.size w w') (q1:Zam w' ⟨bo,0,none⟩ [ZxV bs]) (q2:Zam w' ⟨bv,0,none⟩ [.int .i64 x]) (q3:Zam w' ⟨bs,0,none⟩ [.string set]) (hr:RdSl w' A3 c3 Zab.enc 11 a.rules)=>Zmb A3 c3 a.rules 223 [] [.pointer (some ⟨bo,0,none⟩),.pointer (some ⟨bv,0,none⟩)] (shN set x) w' hr hnr fun r hm w2 h2=>Zuq r set x bo bv bs w2 (hrm r hm) hx (q1.up h2 (Nat.le_refl _)) (q2.up h2 (Nat.le_refl _)) (q3.up h2 (Nat.le_refl _))
 unfold ZxV at hch
 refine Zaa Tryz.func185 rfl rfl rfl rfl ?_
 repeat (first|(refine js ?_;(first|(refine ZaX (fun w' hw hO=>hco _ w' hw (hO.cells (by repeat' constructor))) ?_)|(apply Zad (h:=fun w' hw _=>her w' hw);rfl;rintro v O' ⟨A3,c3,A2,c2,A4,c4,A5,c5,Zs,S,rfl,hZs,rfl⟩)|(apply Zad (h:=fun w' hw hO=>hch _ _ _ A3 c3 w' hw (hO.cells (by repeat' constructor)) (hO.cells (by repeat' constructor)) (hO.cells (by repeat' constructor)) (Zbc Zab.len (hO.of (A:=rowR A3 c3 a.rules) (by repeat' constructor))));rfl;rintro v O' ⟨A6,c6,rfl,rfl⟩)|(refine bx ?_;intro bk)))|refine walk ?_)
 have hZs2:Zs.map ZE.z=a.zones.map (Za4 (shE set x)):=hZs
 have hl2:(a.zones.map (Za4 (shE set x))).length=Zs.length:=by rw[<- hZs2,List.length_map]
 have hz2:rowZ A2 c2 Zs = .row (.slice A2 (a.zones.map (Za4 (shE set x))).length c2) 46 2 (a.zones.map (Za4 (shE set x))).length (Zs.flatMap ZE.enc):=by rw[hl2]
 exact ret_2 _ _ [rowR A6 c6 (a.rules.map (shN set x)),rowZ A2 c2 Zs,rowL A4 c4 a.links,rowS A5 c5 a.shifts,.fact S (ZaN Zs)] (.cellB rfl (by repeat' constructor) rfl rfl) (.tmp rfl) SOA ⟨_,rfl,A6,c6,A2,c2,A4,c4,A5,c5,Zs,S,rfl,hZs,rfl⟩
end Go.Proofs.YtbjomhdhkpgbaaaGreatDoor
