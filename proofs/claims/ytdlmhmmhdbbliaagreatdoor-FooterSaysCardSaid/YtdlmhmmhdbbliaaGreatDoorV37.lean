/- Parts of the proof. -/
import Derived.Test.YtdlmhmmhdbbliaaGreatDoorV29
import Derived.Test.YtdlmhmmhdbbliaaGreatDoorV30
import Derived.Test.YtdlmhmmhdbbliaaGreatDoorV32
import Derived.Test.YtdlmhmmhdbbliaaGreatDoorV36
import Derived.Test.YtdlmhmmhdbbliaaGreatDoorV08
import Derived.Lib.ParseIntB
import Derived.Lib.Atoi
import Derived.Lib.ItoaNum
import Derived.Lib.Strings
set_option maxHeartbeats 4000000
set_option linter.unusedVariables false
set_option linter.unusedSimpArgs false
namespace Go.Wk
open Go Go.RowKit
section
variable {P:Program}{n:Nat}{wr:World}{fr:Fr}{O:List It}{ty:TypeId}
theorem Zr4 {t t':TypeId}{x:Operand}(hu:∃ te,P.underlying t=some (.pointer te))(hx:ev fr x=some (.pointer none)):Pu P n wr fr O (.binOp .neq t x (.const (.pointer none)) t') ty (.bool false):=fun a w hs _ _ _ _=>by
 obtain⟨te,hu⟩:=hu
 have hc:a.eval (.const (.pointer none)) = .pointer none:=rfl
 have h:(binOp .neq t (.pointer none) (.pointer none)).run P w = .ok (.bool false) w:=by
  have:∀ d,(Op.equalIn (d+1) t (.pointer none) (.pointer none)).run P w = .ok true w:=fun d=>by
   simp[Op.equalIn,run_underlying hu]
  have hb:binOp .neq t (.pointer none) (.pointer none)=(do pure (.bool (!(<- Op.equal t (.pointer none) (.pointer none))))):=rfl
  rw[hb,show Op.equal t (.pointer none) (.pointer none)=Op.equalIn (9999+1) t (.pointer none) (.pointer none) from rfl]
  simp only[Sem.run_bind,this 9999,Result.andThen_ok,Sem.run_pure,Bool.not_true]
 have hg:(eqGuard .neq t x (.const (.pointer none)) (.pointer none) (.pointer none)).run P w = .ok () w:=by
  simp[eqGuard]
 simp only[execOp,hs.sim.ev hx,hc,Sem.run_bind,hg,Result.andThen_ok,h,Sem.run_pure]
end
end Go.Wk
namespace Go.Proofs.YtdlmhmmhdbbliaaGreatDoor
open Go Go.RowKit Go.Wk
attribute [local irreducible] W RL Does Zau Zak retQ Calls Pu Stp RD Qy Ay Zaj
theorem ZyB {G:Prop}(h:G:=by(first|(apply Pu_indexAddr;rfl;rfl;omega;omega;exact hna2)|(apply Pu_loadON;rfl;exact hca2;rfl)|(apply Zaz;rfl;rfl;exact b3))):G:=h
theorem ZqJ {G:Prop}(h:G:=by(first|(apply ZaI;rfl;rfl;omega;omega;(intro w' _ hO;exact(Za0 (hO.of (A := .row (.slice B R.length d) 82 11 R.length (R.flatMap Zab.enc)) (by repeat' constructor)) hg1).1))|(apply Zba;rfl;(focus repeat' constructor);exact hgn;rfl)|(apply Zaz;rfl;rfl;exact b2)|(apply Zaw;rfl;rfl;exact b4))):G:=h
theorem ZyA {G:Prop}(h:G:=by(first|(apply ZaI;rfl;rfl;omega;omega;(intro w' _ hO;exact(Za0 (hO.of (A := .row (.slice B R.length d) 82 11 R.length (R.flatMap Zab.enc)) (by repeat' constructor)) hg1).1))|(apply Zba;rfl;(focus repeat' constructor);exact hgn;rfl)|(apply Zaz;rfl;rfl;exact b2))):G:=h
theorem Zvx {G:Prop}(h:G:=by(first|(apply Zr4;exact⟨_,Tryz.underlying89⟩;rfl)|(apply ZaI;rfl;rfl;omega;omega;(intro w' _ hO;exact(Za0 (hO.of (A := .row (.slice B R.length d) 82 11 R.length (R.flatMap Zab.enc)) (by repeat' constructor)) hgx1).1))|(apply Zba;rfl;(focus repeat' constructor);exact hgx;exact Zab.len r))):G:=h
theorem ZxW {G:Prop}(h:G:=by first|(apply Qy_y;rfl;exact Zvx)|exact QyA):G:=h
theorem Zx8 {G:Prop}(h:G:=by repeat (first|exact QF.nil|(apply QF.mk;rfl;rfl;decide +kernel;exact ZxW))):G:=h
theorem Zwt (Ar Az Al As:Option Addr)(cr cz cl cs:Nat)(a:Zai)(k:Nat)(z:Za5)(e:DEra)(x:Zad)(r:Zab)(w:World)(h:ZdG w Ar Az Al As cr cz cl cs a)(hf:accD a=none)(hk:a.zones[k]?=some z)(he:z.eras[z.eras.length - 1]?=some e)
  (hkd:e.kind=2) (hE1:FtE e) (hse:seF (Za9 a z.eras) 0 (none,none)=(none,none)) (hbx:befD (Za9 a z.eras) 1152921504606846976=some x) (hx:0<=x.rule) (hrx:(Za9 a z.eras)[x.rule.toNat]?=some r) (hr:FtRu r) (hR:ZzN (Za9 a z.eras)) :
  Does Tryz.prog 8 [srcV Ar Az Al As cr cz cl cs a,.int .i64 k] w (fun v O=>v = .tuple #[.agg (Za4 e r.save r.letter).enc.toArray,.int .i64 0]/\O=[]):=by
 obtain⟨hna,cs1,⟨A,c,hE,rfl⟩,hca⟩:=h.A.z k _ hk
 have hl:0<z.eras.length:=by have:=(List.getElem?_eq_some_iff.1 he).1;omega
 have hfi:=fun w' (hw:Bel w.heap.size w w')=>Zlj Ar Az Al As cr cz cl cs a k z A c w' (h.up hw) hf hk hna (hca.up hw (Nat.le_refl _)) (hE.up hw) (List.length_pos_iff.1 hl)
 have htw:=fun w' (hw:Bel w.heap.size w w')=>Zgq e r w' (h.L.up hw) hE1 hr
 have hel:=(h.S.zs z (List.mem_of_getElem? hk)).2.1
 have hRl:=Zfa h.S.nr z.eras
 have hbf:=fun B d w' (hw:Bel w.heap.size w w') (hA:RdSl w' B d Zab.enc 11 (Za9 a z.eras))=>Zeg B d (Za9 a z.eras) 1152921504606846976 w' (h.G.up hw) hA hRl hR (by decide)
 rw[hbx]at hbf
 obtain⟨hna2,hca2⟩:=hE.rd _ _ he
 rw[show z.eras.length - 1=((z.eras.length:Int) - 1).toNat by omega]at hca2
 generalize Za4 e r.save r.letter=p at *
 have b3:(!decide (e.kind=2))=false:=by rw[decide_eq_true hkd];rfl
 generalize Za9 a z.eras=R at *
 have hxl:x.rule.toNat<R.length:=(List.getElem?_eq_some_iff.1 hrx).1
 have hgx1:=ZaF Zab.len R x.rule.toNat _ 0 _ hrx rfl
 have hgx:∀ m v,(Zab.enc r)[m]?=some v->(R.flatMap Zab.enc)[x.rule.toNat*11+m]?=some v:=fun m v hm=>ZaF Zab.len R _ _ m v hrx hm
 clear h hf hk hca he hE hkd hE1 hrx hr hbx hR
 obtain⟨off,kd,esv,st,fm,⟨ui,uy,um,⟨ud1,ud2,ud3⟩,⟨uc1,uc2⟩⟩⟩:=e
 obtain⟨p1,p2,p3,p4,⟨p5,p6,p7,p8,p9⟩,⟨q1,q2,q3,q4,q5⟩⟩:=p
 obtain⟨xy,xr,xn⟩:=x
 change Zal w _ [.int .i64 off,.int .i64 kd,.int .i64 esv,.string st,.string fm,.bool ui,.int .i64 uy,.int .i64 um,.int .i64 ud1,.int .i64 ud2,.int .i64 ud3,.int .i64 uc1,.int .i64 uc2]at hca2
 change ∀ w',Bel w.heap.size w w'->Does _ _ [.agg #[.int .i64 off,.int .i64 kd,.int .i64 esv,.string st,.string fm,.bool ui,.int .i64 uy,.int .i64 um,.int .i64 ud1,.int .i64 ud2,.int .i64 ud3,.int .i64 uc1,.int .i64 uc2],.agg r.enc.toArray] w' (fun v O=>v = .agg #[.string p1,.int .i64 p2,.string p3,.int .i64 p4,.int .i64 p5,.int .i64 p6,.int .i64 p7,.int .i64 p8,.int .i64 p9,.int .i64 q1,.int .i64 q2,.int .i64 q3,.int .i64 q4,.int .i64 q5]/\O=[]) at htw
 change ∀ B d w',Bel w.heap.size w w'->RdSl w' B d Zab.enc 11 R->Does _ _ _ w' (fun v O=>v = .tuple #[.agg #[.int .i64 xy,.int .i64 xr,.int .i64 xn],.bool true]/\O=[]) at hbf
 dsimp only at b3 hx hxl hgx1 hgx ⊢
 refine Zaa Tryz.func8 rfl rfl rfl rfl ?_
 repeat (first|(apply RL_pu;rfl;exact ZyB)|(apply RD_Q;rfl;rfl;decide +kernel;rfl;rfl;exact QyFtN0)|refine walk1 ?_|(refine jg ?_;(try intro F);(first|(apply Zag (h:=fun w' hw _=>hfi w' hw);rfl;rintro v O' ⟨B,d,rfl,rfl⟩)|(refine bx ?_;intro bk)|(refine stA ?_));first|refine⟨_,EndsA,QFFtN0,?_⟩|refine fin ?_)|(refine jn ?_;(try intro F);(first|(refine bx ?_;intro bk)|(refine stA ?_)|(apply Zae;first|exact ZyB|exact PuA));first|refine⟨_,EndsA,QFFtN0,?_⟩|refine fin ?_)|(apply RD_W;rfl;intro bk))
 rename_i b2 b4
 generalize bk=b9
 refine Zao [(4,.pointer (some ⟨b4,0,none⟩)),(7,.slice B R.length d),(9,.pointer (some ⟨b9,0,none⟩)),(41,.slice B R.length d),(42,.int .i64 R.length)] [.row (.slice B R.length d) 82 11 R.length (R.flatMap Zab.enc),.blk b9 [.int .i64 off,.int .i64 kd,.int .i64 esv,.string st,.string fm,.bool ui,.int .i64 uy,.int .i64 um,.int .i64 ud1,.int .i64 ud2,.int .i64 ud3,.int .i64 uc1,.int .i64 uc2] 75,.blk b4 [.string ByteArray.empty,.int .i64 0,.string ByteArray.empty,.int .i64 0,.int .i64 0,.int .i64 0,.int .i64 0,.int .i64 0,.int .i64 0,.int .i64 0,.int .i64 0,.int .i64 0,.int .i64 0,.int .i64 0] 41]
  (fun g:OfG=>[(43,.int .i64 g.k),(10,.pointer (g.s.map fun i=>(adr B).add (i*11))),(11,.pointer (g.e.map fun i=>(adr B).add (i*11)))]) (fun _=>[]) (fun g=>g.k<=R.length/\seF (R.drop g.k) g.k (g.s,g.e)=(none,none)) (fun g=>R.length - g.k) ⟨0,none,none⟩ SFA SOA ⟨Nat.zero_le _,hse⟩ ?_
 clear hse
 rintro⟨k,s,t⟩ ⟨hkl,hi⟩
 dsimp only at hkl hi ⊢
 repeat (first|refine walk ?_|(refine jn ?_;(try intro F);(first|(refine bx ?_;intro bk)|(refine stA ?_)|(apply Zae;exact PuA));refine fin ?_)|(apply RD_W;rfl;intro bk))
 refine Zaf rfl (fun hc=>?_) (fun hc=>?_)
 ·simp only[decide_eq_true_eq,Int.ofNat_lt]at hc
  rw[Zap hc,seF]at hi
  have hg1:=ZaF Zab.len R k _ 0 _ (List.getElem?_eq_getElem hc) rfl
  have hgn:∀ j v,(Zab.enc R[k])[j]?=some v->(R.flatMap Zab.enc)[k*11+j]?=some v:=fun j v hj=>ZaF Zab.len R k _ j v (List.getElem?_eq_getElem hc) hj
  generalize R[k]=r1 at *
  obtain⟨nm,fr,to,mo,⟨dk,dw,dd⟩,⟨cs',cb⟩,sv,le⟩:=r1
  simp only[Zab.enc]at hgn hg1
  dsimp only at hi
  by_cases hto:to=1048576
  ·have b2:(!decide (to=1048576))=false:=by rw[decide_eq_true hto];rfl
   rw[if_pos hto]at hi
   by_cases hsv:sv=0
   ·have b4:decide (sv=0)=true:=decide_eq_true hsv
    rw[if_pos hsv]at hi
    repeat (first|(apply RL_pu;rfl;exact ZqJ)|(apply RD_Q;rfl;rfl;decide +kernel;rfl;rfl;exact QyFtN1)|refine walk1 ?_|(refine jn ?_;(try intro F);(first|(refine bx ?_;intro bk)|(refine stA ?_)|(apply Zae;first|exact ZqJ|exact PuA));first|refine⟨_,EndsA,QFFtN1,?_⟩|refine fin ?_)|(apply RD_W;rfl;intro bk))
    exact⟨⟨k+1,s,some k⟩,OA,⟨OA,hi⟩,SFA,SOA⟩
   ·have b4:decide (sv=0)=false:=decide_eq_false hsv
    rw[if_neg hsv]at hi
    repeat (first|(apply RL_pu;rfl;exact ZqJ)|(apply RD_Q;rfl;rfl;decide +kernel;rfl;rfl;exact QyFtN1)|refine walk1 ?_|(refine jn ?_;(try intro F);(first|(refine bx ?_;intro bk)|(refine stA ?_)|(apply Zae;first|exact ZqJ|exact PuA));first|refine⟨_,EndsA,QFFtN1,?_⟩|refine fin ?_)|(apply RD_W;rfl;intro bk))
    exact⟨⟨k+1,some k,t⟩,OA,⟨OA,hi⟩,SFA,SOA⟩
  ·have b2:(!decide (to=1048576))=true:=by rw[decide_eq_false hto];rfl
   rw[if_neg hto]at hi
   repeat (first|(apply RL_pu;rfl;exact ZyA)|(apply RD_Q;rfl;rfl;decide +kernel;rfl;rfl;exact QyFtN2)|refine walk1 ?_|(refine jn ?_;(try intro F);(first|(refine bx ?_;intro bk)|(refine stA ?_)|(apply Zae;first|exact ZyA|exact PuA));first|refine⟨_,EndsA,QFFtN2,?_⟩|refine fin ?_)|(apply RD_W;rfl;intro bk))
   exact⟨⟨k+1,s,t⟩,OA,⟨OA,hi⟩,SFA,SOA⟩
 ·simp only[decide_eq_false_iff_not,Int.ofNat_lt]at hc
  rw[List.drop_eq_nil_of_le (by omega),seF]at hi
  obtain⟨rfl,rfl⟩:=Prod.mk.inj hi
  simp only[Option.map_none]
  repeat (first|refine und ?_|(apply RL_pu;rfl;exact Zvx)|(apply RD_Q;rfl;rfl;decide +kernel;rfl;rfl;exact ZxW)|refine walk1 ?_|(refine jg ?_;(try intro F);(first|(refine Za1 (fun w' hw hO=>hbf B d w' hw (Zbn Zab.len (hO.of (A := .row (.slice B R.length d) 82 11 R.length (R.flatMap Zab.enc)) (by repeat' constructor)))) ?_)|(refine Zac htw ?_)|(refine bx ?_;intro bk)|(refine stA ?_));first|refine⟨_,EndsA,Zx8,?_⟩|refine fin ?_)|(refine jn ?_;(try intro F);(first|(refine bx ?_;intro bk)|(refine stA ?_)|(apply Zae;first|exact Zvx|exact PuA));first|refine⟨_,EndsA,Zx8,?_⟩|refine fin ?_)|(apply RD_W;rfl;intro bk))
  exact rtC
theorem ZBo (Ar Az Al As:Option Addr)(cr cz cl cs:Nat)(a:Zai)(k:Nat)(z:Za5)(Y:Nat->Int)(w:World)(h:ZdG w Ar Az Al As cr cz cl cs a)(hF:FtG w)(hf:accD a=none)(hk:a.zones[k]?=some z)(hY:Zbo a.rules z.eras Y) :
  Does Tryz.prog 8 [srcV Ar Az Al As cr cz cl cs a,.int .i64 k] w (fun v O=>v = .tuple #[.agg (ofF a z.eras).enc.toArray,.int .i64 0]/\O=[]):=by
 have hlen:=hY.len
 obtain⟨e,he,e2⟩:=Zdh (l:=z.eras) (k:=z.eras.length - 1) (d:=dE0) (by omega)
 have hE:=hY.era _ e he
 have hle:ZdD z.eras=e:=e2
 have ho:=hE.off_bd
 have hE1:FtE e:=⟨ZtM hE.fmt,by omega⟩
 unfold ofF
 rw[hle]
 by_cases h2:e.kind=2
 ·have hru:Za9 a z.eras=ofB a.rules e.set:=by unfold Za9;rw[hle,if_pos h2]
  rw[if_pos h2]
  obtain⟨_,_,hS,_⟩:=hE.set2 h2
  have hrs:=hE.rs.b
  have hruE:ruEr a.rules e=ofB a.rules e.set:=by unfold ruEr;rw[if_pos h2]
  rw[hruE,<- hru]at hrs
  rw[<- hru]at hS ⊢
  have hfr:∀ r∈Za9 a z.eras,FtRu r:=fun r hr=>⟨ZmG (hS.rule r hr).letter,by have:=(hS.rule r hr).save;omega⟩
  rcases Zfg hS.last with⟨c1,c2⟩|⟨i,j,r,q,c1,c2,c3,c4,c5,c6,c7,c8,c9⟩
  ·rw[c1]
   dsimp only
   have hold:∀ r∈Za9 a z.eras,r.to<3000:=fun r hr=>by
    obtain⟨n,hn⟩:=List.mem_iff_getElem?.1 hr
    have:=c2 n r hn
    have:=(hS.rule r hr).t1
    omega
   obtain⟨x,x1,⟨n,r,y,hn,hy⟩,_⟩:=hS.never (y:=3000) (by decide) hold (off:=0) (by decide) (t:=38000000000000000) (by decide) (by decide)
   have hxr:=(Zbr hy).2.1
   have hru2:ruE (Za9 a z.eras) x=r:=by
    unfold ruE
    rw[hxr,List.getD_eq_getElem?_getD,Int.toNat_natCast,hn]
    rfl
   rw[x1]
   dsimp only
   rw[hru2]
   exact Zwt Ar Az Al As cr cz cl cs a k z e x r w h hf hk he h2 hE1 c1 x1 (by omega) (by rw[hxr,Int.toNat_natCast];exact hn) (hfr r (List.mem_of_getElem? hn)) hrs
  ·rw[c8]
   dsimp only
   rw[List.getD_eq_getElem?_getD,List.getD_eq_getElem?_getD,c2,c3]
   exact Zxw Ar Az Al As cr cz cl cs a k z e i j r q w h hF hf hk he h2 hE1 c8 c2 c3 (hfr r (List.mem_of_getElem? c2)) (hfr q (List.mem_of_getElem? c3))
 ·rw[if_neg h2]
  refine Zta Ar Az Al As cr cz cl cs a k z e w h hf hk he h2 hE1 ?_
  rcases hE with⟨_,hs,_⟩|⟨_,hs,_⟩|⟨hk2,_⟩
  ·omega
  ·omega
  ·exact absurd hk2 h2
end Go.Proofs.YtdlmhmmhdbbliaaGreatDoor
namespace Go.Proofs.YtdlmhmmhdbbliaaGreatDoor
open Go Go.RowKit Go.Wk
def Zb9 (b:UInt8):Bool:=(decide (65<=b.toNat)&&decide (b.toNat<=90))||(decide (97<=b.toNat)&&decide (b.toNat<=122))||(decide (48<=b.toNat)&&decide (b.toNat<=57))||decide (b.toNat=43)||decide (b.toNat=45)
def namL (l:List UInt8):Bool:=decide (3<=l.length)&&decide (l.length<=7)&&l.all Zb9
def namP (s:ByteArray):Bool:=namL s.data.toList
def datP (d:ZbI):Bool:=Zbv d.sec&&((decide (d.kind=1)&&decide (1<=d.day)&&decide (d.day<=365)&&decide (d.month=0)&&decide (d.week=0))||(decide (d.kind=2)&&decide (0<=d.day)&&decide (d.day<=365)&&decide (d.month=0)&&decide (d.week=0)) ||
 (decide (d.kind=3)&&decide (1<=d.month)&&decide (d.month<=12)&&decide (1<=d.week)&&decide (d.week<=5)&&decide (0<=d.day)&&decide (d.day<=6)))
def offP (x:Int):Bool:=decide (-89999<=x)&&decide (x<=89999)
structure PxOk (p:ZaQ):Prop where
 std:namP p.std=true
 so:offP p.stdOff=true
 dst:p=⟨p.std,p.stdOff,ByteArray.empty,0,dt0,dt0⟩\/(namP p.dst=true/\offP p.dstOff=true/\datP p.start=true/\datP p.fin=true)
theorem Zt3 (n:Int)(h0:0<=n)(h1:n<=99):(dig2 n).all Zb9=true/\(dig2 n).length=2:=by
 have key:∀ k:Int,0<=k->k<=9->Zb9 (UInt8.ofNat (48+k.toNat))=true:=fun k a b=>by
  have hc:k=0\/k=1\/k=2\/k=3\/k=4\/k=5\/k=6\/k=7\/k=8\/k=9:=by omega
  rcases hc with rfl|rfl|rfl|rfl|rfl|rfl|rfl|rfl|rfl|rfl <;> decide
 unfold dig2
 refine⟨?_,rfl⟩
 simp only[List.all_cons,List.all_nil,Bool.and_true,Bool.and_eq_true]
 exact⟨key _ (by omega) (by omega),key _ (by omega) (by omega)⟩
theorem ZqX (x:Int)(h : -86400<x/\x<86400):namL (ZbS x)=true:=by
 unfold ZbS
 rw[if_neg (by omega)]
 obtain⟨y,hy⟩:∃ y,(if x<0 then -x else x)=y:=⟨_,rfl⟩
 have hy0:0<=y/\y<86400:=by split at hy <;> omega
 dsimp only
 rw[hy]
 obtain⟨a1,a2⟩:=Zt3 (y / 3600) (by omega) (by omega)
 obtain⟨b1,b2⟩:=Zt3 (y / 60 % 60) (by omega) (by omega)
 obtain⟨c1,c2⟩:=Zt3 (y % 60) (by omega) (by omega)
 generalize dig2 (y / 3600)=A at *
 generalize dig2 (y / 60 % 60)=B at *
 generalize dig2 (y % 60)=C at *
 have hs:Zb9 (if x<0 then 45 else 43)=true:=by split <;> decide
 generalize (if x<0 then (45:UInt8) else 43)=S at *
 unfold namL
 split <;> split <;> simp only[List.append_nil,List.all_cons,List.all_append,List.length_cons,List.length_append,hs,a1,b1,c1,a2,b2,c2,Bool.true_and,Bool.and_true] <;> decide
def pN (f:List UInt8):Bool:=match ZcB f with
 | some (a,b)=>namL a&&namL b
 | none=>namL f&&decide (ZbQ f=1)
theorem ZrD:∀ f∈ZrF,pN f=true:=by decide +kernel
theorem ZrA:∀ f∈ZrC,∀ x∈Zkk,namL (ZbR f 0 0 x).1=true:=by decide +kernel
theorem Zjo {e:DEra}(hf:e.format∈fmtU){x:Int × ByteArray}(hx:DrSt e x):namP (ZcX e x.1 x.2)=true:=by
 obtain⟨⟨h1,h2⟩,_,h3⟩:=hx
 unfold namP ZcX
 show namL (ZbR e.format.data.toList e.off x.1 x.2.data.toList).1.toArray.toList=true
 rw[List.toList_toArray]
 rcases Zgr hf with h|h|h
 ·have:=ZrD _ h
  unfold pN at this
  unfold ZbR
  cases hp:ZcB e.format.data.toList with
  | none =>
   rw[hp]at this
   simp only[Bool.and_eq_true,decide_eq_true_eq]at this
   dsimp only
   rw[this.2,if_neg (by decide),if_neg (by decide),if_pos (.inl rfl)]
   exact this.1
  | some ab =>
   obtain⟨a,b⟩:=ab
   rw[hp]at this
   simp only[Bool.and_eq_true]at this
   dsimp only
   split
   ·exact this.1
   ·exact this.2
 ·have h4:=ZrA _ h _ (Zla h3)
  have h5:=Zco.1 _ h
  have h6:=(Zcb.2.1 _ h).1
  unfold ZbR at h4 ⊢
  rw[h5]at h4 ⊢
  dsimp only at h4 ⊢
  rw[if_pos h6]at h4 ⊢
  exact h4
 ·rw[h]
  unfold ZbR
  rw[Zco.2]
  dsimp only
  have ht:=Zif (e.off+x.1) (by omega)
  rw[Zcb.2.2,if_neg (by decide),if_pos rfl,if_pos ⟨by unfold Zdr;simp;omega,ht⟩]
  exact ZqX _ (by omega)
theorem ZAy:∀ m:Fin 13,1<=m.val->0<=Zan 2001 m.val 1 - Zan 2001 1 1/\Zan 2001 m.val 1 - Zan 2001 1 1<=334:=by decide +kernel
theorem Zkx {r:Zab}(hr:DrRule r)(hto:r.to=1048576){n b:Int}(hn : -50000<=n/\n<=50000)(hbe : -20000<=b/\b<=20000):datP (Zdk r n b).1=true:=by
 have hm:=hr.mon12
 have hc:=hr.clk
 have hck:=Zkt hr
 have hnd:ZeJ r=false:=by
  unfold ZeJ
  rw[decide_eq_true hto,decide_eq_false (show ¬ r.month<1 by omega),decide_eq_false (show ¬ 12<r.month by omega),hr.day.chk,hck]
  rfl
 have hsc:Zbv (secD r n b)=true:=by
  refine Zec ?_
  unfold secD
  split <;> split <;> omega
 have hi1:Zbv n=true:=Zec (by omega)
 have hi2:Zbv b=true:=Zec (by omega)
 have h2000:inY 2000=true:=by decide
 obtain⟨d0,_⟩:=Zk8 hr.day h2000 hm.1 hm.2
 unfold Zdk
 rw[hnd,if_neg (by decide),d0,if_neg (by decide),hi1,hi2,if_neg (by decide),hsc,if_pos rfl]
 dsimp only
 unfold datP
 dsimp only
 rw[hsc,Bool.true_and]
 have hd:=hr.day
 generalize r.day=d at hd ⊢
 generalize r.month=m at hm ⊢
 obtain⟨k,w,q⟩:=d
 simp only[Zes]at hd
 rcases hd with⟨rfl,a1,a2,rfl⟩|⟨rfl,a1,a2,a3,a4,a5⟩|⟨rfl,rfl,a3,a4⟩
 ·rw[show ZcM m ⟨2,w,0⟩=(⟨3,w,m,5,0⟩,true) from rfl]
  simp
  omega
 ·rw[show(ZcM m ⟨3,w,q⟩).1=⟨3,w,m,q / 7+1,0⟩ from rfl]
  simp
  omega
 ·have hl:=Zf4 2001 m hm.1 hm.2
  have hok:ZaL 2001 m q=true:=by
   unfold ZaL
   rw[show inY 2001=true from by decide,decide_eq_true (show(1:Int)<=q by omega),decide_eq_true (show q<=lenM 2001 m by omega)]
   rfl
  rw[show(ZcM m ⟨1,0,q⟩).1=⟨1,(if ZaL 2001 m q then Zan 2001 m q else 0) - Zan 2001 1 1+1,0,0,0⟩ from rfl,hok,if_pos rfl]
  have hb:=ZAy ⟨m.toNat,by omega⟩ (show 1<=m.toNat by omega)
  dsimp only at hb
  rw[show((m.toNat:Nat):Int)=m by omega]at hb
  rw[Zt7 2001 m q]
  simp
  omega
theorem Zdw {e:DEra}{x:Int × ByteArray}(hf:e.format∈fmtU)(ho : -46800<=e.off/\e.off<=46800)(hx:DrSt e x):PxOk (Za4 e x.1 x.2):=by
 have hn:=Zjo hf hx
 obtain⟨h1,h2,_⟩:=hx
 have hof:∀ y,-86400<=y/\y<=86400->offP y=true:=fun y hy=>by unfold offP;simp;omega
 have ha:=hof e.off (by omega)
 have hb:=hof (e.off+x.1) (by omega)
 have hd:datP ⟨1,365,0,0,86400+x.1⟩=true:=by
  unfold datP
  dsimp only
  rw[Zec (n:=86400+x.1) (by omega)]
  rfl
 unfold Za4
 by_cases h0:x.1=0
 ·rw[if_pos h0]
  exact⟨hn,ha,.inl rfl⟩
 ·rw[if_neg h0]
  exact⟨(by decide:namP xxxB=true),ha,.inr ⟨hn,hb,(by decide:datP ⟨2,0,0,0,0⟩=true),hd⟩⟩
theorem ZpZ {s:Zai}{l:List DEra}{Y:Nat->Int}(h:Zbo s.rules l Y):PxOk (ofF s l):=by
 have hlen:=h.len
 obtain⟨e,he,e2⟩:=Zdh (l:=l) (k:=l.length - 1) (d:=dE0) (by omega)
 have hE:=h.era _ e he
 have hle:ZdD l=e:=e2
 have ho:=hE.off_bd
 unfold ofF
 rw[hle]
 by_cases h2:e.kind=2
 ·rw[if_pos h2]
  obtain⟨_,ho2,hS,_⟩:=hE.set2 h2
  generalize hR:ofB s.rules e.set=R at *
  have hst:=hE.st2 (by omega) (by omega)
  rw[hR]at hst
  rcases Zfg hS.last with⟨c1,c2⟩|⟨i,j,a,b,c1,c2,c3,c4,c5,c6,c7,c8,c9⟩
  ·rw[c1]
   dsimp only
   cases hx:befD R 1152921504606846976 with
   | none=>exact Zdw (x:=(0,ByteArray.empty)) hE.fmt ho hE.st0
   | some x =>
    dsimp only
    obtain⟨⟨k,r,z,hk,hz⟩,_⟩:=Zhn hx
    have hru:ruE R x=r:=by
     unfold ruE
     rw[(Zbr hz).2.1,List.getD_eq_getElem?_getD,Int.toNat_natCast,hk]
     rfl
    rw[hru]
    exact Zdw (x:=(r.save,r.letter)) hE.fmt ho (hst r (List.mem_of_getElem? hk))
  ·rw[c8]
   dsimp only
   rw[List.getD_eq_getElem?_getD,List.getD_eq_getElem?_getD,c2,c3]
   simp only[Option.getD_some]
   have hma:=List.mem_of_getElem? c2
   have hmb:=List.mem_of_getElem? c3
   have hra:=hS.rule a hma
   have hrb:=hS.rule b hmb
   have hva:=hS.save0 a hma
   have hof:∀ y,-86400<=y/\y<=86400->offP y=true:=fun y hy=>by unfold offP;simp;omega
   have q1:=hof e.off (by omega)
   have q2:=hof (e.off+a.save) (by omega)
   exact⟨Zjo hE.fmt (hst b hmb),q1,.inr ⟨Zjo hE.fmt (hst a hma),q2,Zkx hra c4 (by omega) (by omega),Zkx hrb c5 (by omega) (by omega)⟩⟩
 ·rw[if_neg h2]
  have:=hE.state 0
  rw[hE.st_flat h2]at this
  exact Zdw (x:=(e.save,ByteArray.empty)) hE.fmt ho this
structure DtOk (d:ZbI):Prop where
 ok:datP d=true
 sec : -359999<=d.sec/\d.sec<=359999
def PxSm (p:ZaQ):Prop:=p.dst=ByteArray.empty\/(DtOk p.start/\DtOk p.fin)
theorem Znb {r:Zab}(hr:DrRule r){n b:Int}(hn : -50000<=n/\n<=50000)(hbe : -20000<=b/\b<=20000) : -359999<=(Zdk r n b).1.sec/\(Zdk r n b).1.sec<=359999:=by
 have hc:=hr.clk
 have hs : -359999<=secD r n b/\secD r n b<=359999:=by unfold secD;split <;> split <;> omega
 unfold Zdk
 split
 ·decide
 ·split
  ·decide
  ·split
   ·decide
   ·split
    ·exact hs
    ·decide
theorem ZeY {e:DEra}{x:Int × ByteArray}(hf:e.format∈fmtU)(ho : -46800<=e.off/\e.off<=46800)(hx:DrSt e x):PxSm (Za4 e x.1 x.2):=by
 have hr:=Zdw hf ho hx
 have h2:=hx.2.1
 by_cases h0:x.1=0
 ·exact .inl (by unfold Za4;rw[if_pos h0])
 ·have e1:Za4 e x.1 x.2=⟨xxxB,e.off,ZcX e x.1 x.2,e.off+x.1,⟨2,0,0,0,0⟩,⟨1,365,0,0,86400+x.1⟩⟩:=by unfold Za4;rw[if_neg h0]
  rw[e1]at hr ⊢
  rcases hr.dst with hh|⟨_,_,h3,h4⟩
  ·exact .inl (congrArg ZaQ.dst hh)
  ·exact .inr ⟨⟨h3,by dsimp only;omega⟩,⟨h4,by dsimp only;omega⟩⟩
theorem Zws {s:Zai}{l:List DEra}{Y:Nat->Int}(h:Zbo s.rules l Y):PxSm (ofF s l):=by
 have hlen:=h.len
 obtain⟨e,he,e2⟩:=Zdh (l:=l) (k:=l.length - 1) (d:=dE0) (by omega)
 have hE:=h.era _ e he
 have hle:ZdD l=e:=e2
 have ho:=hE.off_bd
 have hrt:=ZpZ h
 unfold ofF at hrt ⊢
 rw[hle]at hrt ⊢
 by_cases h2:e.kind=2
 ·rw[if_pos h2]at hrt ⊢
  obtain⟨_,ho2,hS,_⟩:=hE.set2 h2
  generalize hR:ofB s.rules e.set=R at *
  have hst:=hE.st2 (by omega) (by omega)
  rw[hR]at hst
  rcases Zfg hS.last with⟨c1,c2⟩|⟨i,j,a,b,c1,c2,c3,c4,c5,c6,c7,c8,c9⟩
  ·rw[c1]
   dsimp only
   cases hx:befD R 1152921504606846976 with
   | none=>exact ZeY (x:=(0,ByteArray.empty)) hE.fmt ho hE.st0
   | some x =>
    dsimp only
    obtain⟨⟨k,r,z,hk,hz⟩,_⟩:=Zhn hx
    have hru:ruE R x=r:=by
     unfold ruE
     rw[(Zbr hz).2.1,List.getD_eq_getElem?_getD,Int.toNat_natCast,hk]
     rfl
    rw[hru]
    exact ZeY (x:=(r.save,r.letter)) hE.fmt ho (hst r (List.mem_of_getElem? hk))
  ·rw[c8]at hrt ⊢
   dsimp only at hrt ⊢
   rw[List.getD_eq_getElem?_getD,List.getD_eq_getElem?_getD,c2,c3]at hrt ⊢
   simp only[Option.getD_some]at hrt ⊢
   have hva:=hS.save0 a (List.mem_of_getElem? c2)
   rcases hrt.dst with hh|⟨_,_,h3,h4⟩
   ·exact .inl (congrArg ZaQ.dst hh)
   ·exact .inr ⟨⟨h3,Znb (hS.rule a (List.mem_of_getElem? c2)) (by omega) (by omega)⟩,⟨h4,Znb (hS.rule b (List.mem_of_getElem? c3)) (by omega) (by omega)⟩⟩
 ·rw[if_neg h2]
  have:=hE.state 0
  rw[hE.st_flat h2]at this
  exact ZeY (x:=(e.save,ByteArray.empty)) hE.fmt ho this
attribute [local irreducible] W RL Does Zau Zak retQ Calls Pu Stp RD Qy Ay Zaj
theorem ZtG (x a b:Int)(w:World):Does Tryz.prog 27 [.int .i64 x,.int .i64 a,.int .i64 b] w (fun v O=>v = .bool (decide (a<=x)&&decide (x<=b))/\O=[]):=by
 refine Zaa Tryz.func27 rfl rfl rfl rfl ?_
 repeat' (first|refine walk ?_|refine und ?_|(refine Zat rfl rfl rfl (fun hc=>?_) (fun hc=>?_))|(refine Zas rfl rfl rfl (fun hc=>?_) (fun hc=>?_))|(refine Zaf rfl (fun hc=>?_) (fun hc=>?_)))
 all_goals exact clo1
theorem ZwO (x a b:Int)(w:World):Does Tryz.prog 76 [.int .i64 x,.int .i64 a,.int .i64 b] w (fun v O=>v = .bool (decide (a<=x)&&decide (x<=b))/\O=[]):=by
 refine Zaa Tryz.func76 rfl rfl rfl rfl ?_
 repeat' (first|refine walk ?_|refine und ?_|(refine Zat rfl rfl rfl (fun hc=>?_) (fun hc=>?_))|(refine Zas rfl rfl rfl (fun hc=>?_) (fun hc=>?_))|(refine Zaf rfl (fun hc=>?_) (fun hc=>?_)))
 all_goals exact clo1
theorem Zle (x a b:Int)(h:a<=x/\x<=b)(w:World):Does Tryz.prog 27 [.int .i64 x,.int .i64 a,.int .i64 b] w (fun v O=>v = .bool true/\O=[]):=by
 have:=ZtG x a b w
 rwa[decide_eq_true h.1,decide_eq_true h.2]at this
theorem ZmR (x a b:Int)(h:a<=x/\x<=b)(w:World):Does Tryz.prog 76 [.int .i64 x,.int .i64 a,.int .i64 b] w (fun v O=>v = .bool true/\O=[]):=by
 have:=ZwO x a b w
 rwa[decide_eq_true h.1,decide_eq_true h.2]at this
theorem Zkl (t u:Int)(a b:Bool)(w:World):Does Tryz.prog 30 [.agg #[.int .i64 t,.bool a],.agg #[.int .i64 u,.bool b]] w (fun v O=>v = .bool (ZdA (t,a) (u,b))/\O=[]):=by
 unfold ZdA
 refine Zaa Tryz.func30 rfl rfl rfl rfl ?_
 repeat' (first|(refine js ?_;(refine bx ?_;intro bk))|refine walk ?_|refine und ?_|(refine Zat rfl rfl rfl (fun hc=>?_) (fun hc=>?_))|(refine Zas rfl rfl rfl (fun hc=>?_) (fun hc=>?_))|(refine Zaf rfl (fun hc=>?_) (fun hc=>?_)))
 all_goals exact clo1
theorem Zb4 {d:ZbI}(h:datP d=true):(-604799<=d.sec/\d.sec<=604799)/\((d.kind=1/\1<=d.day/\d.day<=365/\d.month=0/\d.week=0)\/(d.kind=2/\0<=d.day/\d.day<=365/\d.month=0/\d.week=0)\/(d.kind=3/\(1<=d.month/\d.month<=12)/\(1<=d.week/\d.week<=5)/\0<=d.day/\d.day<=6)):=by
 unfold datP Zbv at h
 simp only[Bool.and_eq_true,Bool.or_eq_true,decide_eq_true_eq]at h
 omega
theorem Zis (d:ZbI)(h:datP d=true)(w:World):Does Tryz.prog 39 [.agg d.enc.toArray] w (fun v O=>v = .bool true/\O=[]):=by
 obtain⟨h1,h2⟩:=Zb4 h
 clear h
 obtain⟨k,dd,m,wk,s⟩:=d
 dsimp only at h1 h2
 have c1:=fun w'=>Zle s (-604799) 604799 h1 w'
 show Does _ _ [.agg #[.int .i64 k,.int .i64 dd,.int .i64 m,.int .i64 wk,.int .i64 s]] w _
 refine Zaa Tryz.func39 rfl rfl rfl rfl ?_
 rcases h2 with⟨rfl,a1,a2,rfl,rfl⟩|⟨rfl,a1,a2,rfl,rfl⟩|⟨rfl,a1,a2,a3⟩
 ·have c2:=fun w'=>ZmR dd 1 365 ⟨a1,a2⟩ w'
  repeat (first|(refine js ?_;(first|(refine Zac (fun w' _=>c1 w') ?_)|(refine Zac (fun w' _=>c2 w') ?_)|(refine bx ?_;intro bk)))|refine walk ?_)
  exact rtA
 ·have c2:=fun w'=>ZmR dd 0 365 ⟨a1,a2⟩ w'
  repeat (first|(refine js ?_;(first|(refine Zac (fun w' _=>c1 w') ?_)|(refine Zac (fun w' _=>c2 w') ?_)|(refine bx ?_;intro bk)))|refine walk ?_)
  exact rtA
 ·have c2:=fun w'=>ZmR m 1 12 a1 w'
  have c3:=fun w'=>ZmR wk 1 5 a2 w'
  have c4:=fun w'=>ZmR dd 0 6 a3 w'
  repeat (first|(refine js ?_;(first|(refine Zac (fun w' _=>c1 w') ?_)|(refine Zac (fun w' _=>c2 w') ?_)|(refine Zac (fun w' _=>c3 w') ?_)|(refine Zac (fun w' _=>c4 w') ?_)|(refine bx ?_;intro bk)))|refine walk ?_)
  exact rtA
theorem ZrM (y:Int)(hy:inY y=true)(w:World)(hG:Glob w):Does Tryz.prog 7 [.int .i64 y,.int .i64 1,.int .i64 1] w (fun v O=>v = .tuple #[.int .i64 (Zan y 1 1),.int .i64 0]/\O=[]):=by
 have hok:ZaL y 1 1=true:=by
  unfold ZaL
  rw[hy]
  rfl
 have:=Zdj y 1 1 w hG
 rwa[if_pos hok,if_pos hok]at this
theorem Zvl {G:Prop}(h:G:=by(apply ZaC;rfl;rfl;exact b1)):G:=h
theorem Zyv {G:Prop}(h:G:=by(apply ZcQ;rfl;rfl;(constructor <;> omega))):G:=h
theorem Zj4 (d:ZbI)(y:Int)(h:datP d=true)(hy:inY y=true)(w:World)(hG:Glob w):Does Tryz.prog 29 [.agg d.enc.toArray,.int .i64 y] w (fun v O=>v = .int .i64 (Zby d y)/\O=[]):=by
 obtain⟨_,h2⟩:=Zb4 h
 clear h
 obtain⟨k,dd,m,wk,s⟩:=d
 dsimp only at h2
 have c1:=fun w' (hw:Bel w.heap.size w w')=>ZrM y hy w' (hG.up hw)
 have hb : -1000000000000<=Zan y 1 1/\Zan y 1 1<=1000000000000:=Zfl (by unfold ZaL;rw[hy];rfl)
 show Does _ _ [.agg #[.int .i64 k,.int .i64 dd,.int .i64 m,.int .i64 wk,.int .i64 s],.int .i64 y] w _
 rcases h2 with⟨rfl,a1,a2,rfl,rfl⟩|⟨rfl,a1,a2,rfl,rfl⟩|⟨rfl,a1,a2,a3⟩
 ·have e:Zby ⟨1,dd,0,0,s⟩ y=if Zex y=true/\59<dd then Zan y 1 1+dd - 1+1 else Zan y 1 1+dd - 1:=rfl
  have c2:=fun w'=>ZmH y w'
  rw[e]
  generalize Zan y 1 1=n at *
  generalize Zex y=lp at *
  refine Zaa Tryz.func29 rfl rfl rfl rfl ?_
  by_cases hd:59<dd
  ·have b1:decide (59<dd)=true:=decide_eq_true hd
   cases lp with
   | true =>
    rw[if_pos ⟨rfl,hd⟩]
    repeat (first|(apply RL_pu;rfl;exact Zvl)|(refine js ?_;(first|(refine Zac c1 ?_)|(refine Zac (fun w' _=>c2 w') ?_)|(refine bx ?_;intro bk)))|refine walk1 ?_)
    exact ret_1 _ [] (.tmp rfl) .nil ⟨congrArg (Value.int .i64) (by omega),rfl⟩
   | false =>
    rw[if_neg (by rintro⟨h,_⟩;cases h)]
    repeat (first|(apply RL_pu;rfl;exact Zvl)|(refine js ?_;(first|(refine Zac c1 ?_)|(refine Zac (fun w' _=>c2 w') ?_)|(refine bx ?_;intro bk)))|refine walk1 ?_)
    exact ret_1 _ [] (.tmp rfl) .nil ⟨congrArg (Value.int .i64) (by omega),rfl⟩
  ·have b1:decide (59<dd)=false:=decide_eq_false hd
   rw[if_neg (by rintro⟨_,h⟩;exact hd h)]
   repeat (first|refine und ?_|(apply RL_pu;rfl;exact Zvl)|(refine js ?_;(first|(refine Zac c1 ?_)|(refine Zac (fun w' _=>c2 w') ?_)|(refine bx ?_;intro bk)))|refine walk1 ?_)
   exact ret_1 _ [] (.tmp rfl) .nil ⟨congrArg (Value.int .i64) (by omega),rfl⟩
 ·have e:Zby ⟨2,dd,0,0,s⟩ y=Zan y 1 1+dd:=rfl
  rw[e]
  generalize Zan y 1 1=n at *
  refine Zaa Tryz.func29 rfl rfl rfl rfl ?_
  repeat (first|(refine js ?_;(first|(refine Zac c1 ?_)|(refine bx ?_;intro bk)))|refine walk ?_)
  exact rtA
 ·by_cases h5:wk=5
  ·subst h5
   have e:Zby ⟨3,dd,m,5,s⟩ y=(onD y m ⟨2,dd,0⟩).1:=rfl
   have c2:=fun w' (hw:Bel w.heap.size w w')=>Ziw y m ⟨2,dd,0⟩ w' (hG.up hw)
   rw[e]
   generalize onD y m ⟨2,dd,0⟩=r at *
   generalize Zan y 1 1=n at *
   refine Zaa Tryz.func29 rfl rfl rfl rfl ?_
   repeat (first|(apply RL_pu;rfl;exact Zyv)|(refine js ?_;(first|(refine Zac c1 ?_)|(refine Zac c2 ?_)|(refine bx ?_;intro bk)))|refine walk1 ?_)
   exact rtA
  ·have b1:decide (wk=5)=false:=decide_eq_false h5
   have e:Zby ⟨3,dd,m,wk,s⟩ y=(onD y m ⟨3,dd,7*wk - 6⟩).1:=by
    show(onD y m (if wk=5 then ⟨2,dd,0⟩ else ⟨3,dd,7*wk - 6⟩)).1=_
    rw[if_neg h5]
   have c2:=fun w' (hw:Bel w.heap.size w w')=>Ziw y m ⟨3,dd,7*wk - 6⟩ w' (hG.up hw)
   rw[e]
   generalize onD y m ⟨3,dd,7*wk - 6⟩=r at *
   generalize Zan y 1 1=n at *
   refine Zaa Tryz.func29 rfl rfl rfl rfl ?_
   repeat (first|(apply RL_pu;rfl;(first|exact Zyv|(apply Zaw;rfl;rfl;exact b1)))|(refine js ?_;(first|(refine Zac c1 ?_)|(refine Zac c2 ?_)|(refine bx ?_;intro bk)))|refine walk1 ?_)
   exact rtA
theorem ZpT (d:ZbI)(y:Int)(h:datP d=true)(hy:inY y=true) : -2000000000000<=Zby d y/\Zby d y<=2000000000000:=by
 obtain⟨_,h2⟩:=Zb4 h
 have hb : -1000000000000<=Zan y 1 1/\Zan y 1 1<=1000000000000:=Zfl (by unfold ZaL;rw[hy];rfl)
 unfold Zby ZhE
 rcases h2 with⟨k,a1,a2,_⟩|⟨k,a1,a2,_⟩|⟨k,_⟩
 ·rw[if_neg (by omega),if_pos k]
  dsimp only
  split <;> omega
 ·rw[if_pos k]
  omega
 ·rw[if_neg (by omega),if_neg (by omega)]
  have:=ZhC y d.month (if d.week=5 then ⟨2,d.day,0⟩ else ⟨3,d.day,7*d.week - 6⟩)
  dsimp only
  omega
end Go.Proofs.YtdlmhmmhdbbliaaGreatDoor
namespace Go.Proofs.YtdlmhmmhdbbliaaGreatDoor
open Go Go.RowKit Go.Wk
def dg3 (n:Nat):List UInt8:=if n<10 then [UInt8.ofNat (48+n)] else if n<100 then [UInt8.ofNat (48+n / 10),UInt8.ofNat (48+n % 10)] else [UInt8.ofNat (48+n / 100),UInt8.ofNat (48+n / 10 % 10),UInt8.ofNat (48+n % 10)]
theorem Zt5 {n:Nat}(h:n<1000):Lib.decDigits n=dg3 n:=by
 unfold dg3
 split
 ·rw[Lib.decDigits_one ‹_›]
 ·split
  ·rw[Lib.decDigits_two ‹_› ‹_›]
  ·rw[Lib.decDigits,dif_neg (by omega),Lib.decDigits_two (by omega) (by omega),show n / 10 / 10=n / 100 by omega]
   rfl
def digC (b:UInt8):Bool:=decide (48<=b.toNat)&&decide (b.toNat<=57)
def okB (l:List UInt8)(n:Int):Bool:=match Lib.parseIntB 64 l with | .ok v=>decide (v=n)|_=>false
def ZAF (n:Nat):Bool:=(dg3 n).all digC&&decide (1<=(dg3 n).length)&&decide ((dg3 n).length<=3)&&(decide ((dg3 n).length<=1)||!decide ((dg3 n).head?=some 48))&&okB (dg3 n) n&&decide (Lib.atoi (dg3 n)=some (n:Int))
theorem Zt4:∀ n:Fin 1000,ZAF n.val=true:=by decide +kernel
theorem Zxv {l:List UInt8}{n:Int}(h:okB l n=true):Lib.parseIntB 64 l = .ok n:=by
 unfold okB at h
 split at h
 ·rename_i v hv
  rw[hv,of_decide_eq_true h]
 ·cases h
def dgN (n:Int):List UInt8:=dg3 n.toNat
structure DgOk (n:Int):Prop where
 dig:(dgN n).all digC=true
 len:1<=(dgN n).length/\(dgN n).length<=3
 head:(dgN n).length<=1\/(dgN n).head?≠some 48
 par:Lib.parseIntB 64 (dgN n) = .ok n
 ato:Lib.atoi (dgN n)=some n
 ito:Lib.itoa n=dgN n
theorem Zb2 {n:Int}(h0:0<=n)(h1:n<1000):DgOk n:=by
 have h:=Zt4 ⟨n.toNat,by omega⟩
 unfold ZAF at h
 simp only[Bool.and_eq_true,Bool.or_eq_true,decide_eq_true_eq,Bool.not_eq_true',decide_eq_false_iff_not]at h
 obtain⟨⟨⟨⟨⟨a1,a2⟩,a3⟩,a4⟩,a5⟩,a6⟩:=h
 have e:((n.toNat:Nat):Int)=n:=by omega
 refine⟨a1,⟨a2,a3⟩,a4,?_,?_,?_⟩
 ·have:=Zxv a5
  rw[e]at this
  exact this
 ·rw[e]at a6
  exact a6
 ·unfold Lib.itoa
  rw[if_neg (by omega),Zt5 (by omega)]
  rfl
def ZAG (n:Nat):Bool:=(dig2 n).all digC&&okB (dig2 n) n&&decide (dig2 n=if n<10 then 48::dg3 n else dg3 n)
theorem Zua:∀ n:Fin 100,ZAG n.val=true:=by decide +kernel
theorem Zi7 {n:Int}(h0:0<=n)(h1:n<100):(dig2 n).all digC=true/\Lib.parseIntB 64 (dig2 n) = .ok n/\dig2 n=if n<10 then 48::dgN n else dgN n:=by
 have h:=Zua ⟨n.toNat,by omega⟩
 unfold ZAG at h
 simp only[Bool.and_eq_true,decide_eq_true_eq]at h
 have e:((n.toNat:Nat):Int)=n:=by omega
 rw[e]at h
 refine⟨h.1.1,Zxv h.1.2,h.2.trans ?_⟩
 unfold dgN
 by_cases h:n<10
 ·rw[if_pos h,if_pos (by omega)]
 ·rw[if_neg h,if_neg (by omega)]
def absI (x:Int):Int:=if x<0 then -x else x
def sgL (x:Int):List UInt8:=if x<0 then [45] else []
def osL (x:Int):List UInt8:=sgL x++dgN (absI x / 3600)++58::dig2 (absI x / 60 % 60)++if absI x % 60=0 then [] else 58::dig2 (absI x % 60)
def shL (x:Int):List UInt8:=sgL x++dgN (absI x / 3600)++if absI x % 3600=0 then [] else 58::dig2 (absI x / 60 % 60)++if absI x % 60=0 then [] else 58::dig2 (absI x % 60)
def cz:List UInt8:=[58,48,48]
theorem Zst (A:List UInt8):Lib.trimSuffix (A++cz) cz=A:=by
 unfold Lib.trimSuffix Lib.hasSuffix
 rw[if_pos (by rw[List.isSuffixOf_iff_suffix];exact List.suffix_append _ _),List.length_append,Nat.add_sub_cancel,List.take_left]
theorem Zgc {l:List UInt8}(h:¬ cz <:+ l):Lib.trimSuffix l cz=l:=by
 unfold Lib.trimSuffix Lib.hasSuffix
 rw[if_neg (by rw[List.isSuffixOf_iff_suffix];exact h)]
theorem ZAH {l:List UInt8}(h:∀ b∈l,b≠58):¬ cz <:+ l:=fun hh=>h 58 (hh.subset List.mem_cons_self) rfl
theorem ZxG {A:List UInt8}{a b:UInt8}(h:[a,b]≠[48,48]):¬ cz <:+ A++58::[a,b]:=fun hh=>by
 obtain⟨B,hB⟩:=hh
 have:=congrArg (fun l=>l.reverse.take 2) hB
 simp[cz]at this
 obtain⟨h1,h2⟩:=this
 subst h1 h2
 exact h rfl
theorem Zw0 {l:List UInt8}(h:l.all digC=true):∀ b∈l,b≠58:=fun b hb he=>by
 have:=List.all_eq_true.1 h b hb
 rw[he]at this
 revert this
 decide
theorem Zm7 {n:Int}(h0:0<=n)(h1:n<100)(hn:n≠0):∀ a b,dig2 n=[a,b]->[a,b]≠[48,48]:=fun a b e=>by
 rw[<- e]
 have key:∀ k:Fin 100,k.val≠0->dig2 (k.val:Nat)≠[48,48]:=by decide +kernel
 have:=key ⟨n.toNat,by omega⟩ (by show n.toNat≠0;omega)
 dsimp only at this
 rw[show((n.toNat:Nat):Int)=n by omega]at this
 exact this
theorem ZyS {x:Int}(h0 : -3599999<=x)(h1:x<=3599999):Lib.trimSuffix (Lib.trimSuffix (osL x) cz) cz=shL x:=by
 unfold osL shL
 have hy:0<=absI x/\absI x<=3599999:=by unfold absI;split <;> omega
 have hs:∀ b∈sgL x,b≠58:=by unfold sgL;split <;> decide
 generalize absI x=y at *
 have hd:=Zw0 (Zb2 (n:=y / 3600) (by omega) (by omega)).dig
 have hhd:∀ b∈sgL x++dgN (y / 3600),b≠58:=fun b hb=>by
  rcases List.mem_append.1 hb with hb|hb
  ·exact hs b hb
  ·exact hd b hb
 generalize sgL x++dgN (y / 3600)=A at *
 by_cases c1:y % 60=0
 ·rw[if_pos c1,List.append_nil]
  by_cases c2:y % 3600=0
  ·have e:dig2 (y / 60 % 60)=[48,48]:=by rw[show y / 60 % 60=0 by omega];decide
   rw[if_pos c2,e,show A++58::[48,48]=A++cz from rfl,Zst,Zgc (ZAH hhd),List.append_nil]
  ·have hn:¬ cz <:+ A++58::dig2 (y / 60 % 60):=ZxG (Zm7 (n:=y / 60 % 60) (by omega) (by omega) (by omega) _ _ rfl)
   rw[if_neg c2,Zgc hn,Zgc hn,List.append_nil]
 ·have hn:¬ cz <:+ A++58::dig2 (y / 60 % 60)++58::dig2 (y % 60):=ZxG (Zm7 (n:=y % 60) (by omega) (by omega) (by omega) _ _ rfl)
  rw[if_neg c1,Zgc hn,Zgc hn,if_neg (by omega)]
  simp
def othC (b:UInt8):Bool:=digC b||decide (b.toNat=43)||decide (b.toNat=45)
def quL (s:List UInt8):List UInt8:=if s.any othC then 60::s++[62] else s
def dtL (d:ZbI):List UInt8:=(if d.kind=1 then 74::dgN d.day else if d.kind=3 then 77::dgN d.month++46::dgN d.week++46::dgN d.day else dgN d.day)++if d.sec=7200 then [] else 47::shL d.sec
def prL (p:ZaQ):List UInt8:=quL p.std.data.toList++shL (-p.stdOff)++if p.dst=ByteArray.empty then [] else quL p.dst.data.toList++(if p.dstOff=p.stdOff+3600 then [] else shL (-p.dstOff))++44::dtL p.start++44::dtL p.fin
end Go.Proofs.YtdlmhmmhdbbliaaGreatDoor
