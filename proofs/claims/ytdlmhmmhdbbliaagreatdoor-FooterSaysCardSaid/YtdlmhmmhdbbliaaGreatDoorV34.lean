/- Parts of the proof. -/
import Derived.Test.YtdlmhmmhdbbliaaGreatDoorV33
import Derived.Test.YtdlmhmmhdbbliaaGreatDoorV22
import Derived.Test.YtdlmhmmhdbbliaaGreatDoorV29
import Derived.Test.YtdlmhmmhdbbliaaGreatDoorV32
import Derived.Test.YtdlmhmmhdbbliaaGreatDoorV09
import Derived.Test.YtdlmhmmhdbbliaaGreatDoorV30
import Derived.Test.YtdlmhmmhdbbliaaGreatDoorV11
import Derived.Test.YtdlmhmmhdbbliaaGreatDoorV20
set_option maxHeartbeats 4000000
set_option linter.unusedVariables false
set_option linter.unusedSimpArgs false
namespace Go.Wk
open Go Go.RowKit
structure SpG where
 k:Nat
 st:Int
 A:Option Addr
 c:Nat
 m:Nat
 xs:List Value
 acc:List ZbH
 mp:List (ByteArray × Value)
 S:Nat->Prop
 P:World->Prop
end Go.Wk
namespace Go.Proofs.YtdlmhmmhdbbliaaGreatDoor
open Go Go.RowKit Go.Wk
attribute [local irreducible] W RL Does Zau Zak retQ Calls Pu Stp RD Qy Ay Zaj
def spGo (rs:List Zab):List DEra->Int->Nat->Option (List ZbH)
 | [],_,_=>some []
 | [_],st,i=>some [⟨st,9223372036854775807,i⟩]
 | e::f::l,st,i=>if endT e (ruEr rs e)<=st then none else (spGo rs (f::l) (endT e (ruEr rs e)) (i+1)).map fun r=>⟨st,endT e (ruEr rs e),i⟩::r
def Zn7 (rs:List Zab)(l:List DEra):Option (List ZbH):=spGo rs l (-9223372036854775808) 0
def SpR (l:List ZbH)(v:Value)(O:List It):Prop:=∃ A c,v = .tuple #[.slice A l.length c,.int .i64 0]/\O=[.row (.slice A l.length c) 147 3 l.length (l.flatMap ZbH.enc)]
theorem ZvJ {G:Prop}(h:G:=by(first|(apply ZaS;rfl;rfl;exact hb0)|(apply Zcr;rfl;rfl;exact hb1)|(apply Pu_indexAddr;rfl;rfl;omega;omega;exact hnz)|(apply Pu_loadO1;rfl;exact hcz 1 _ rfl))):G:=h
theorem Zx1 {G:Prop}(h:G:=by first|(apply Qy_y;rfl;exact ZvJ)|exact QyA):G:=h
theorem ZA6 {G:Prop}(h:G:=by repeat (first|exact QF.nil|(apply QF.mk;rfl;rfl;decide +kernel;exact Zx1))):G:=h
theorem ZvI {G:Prop}(h:G:=by(first|exact PuI|(apply ZaS;rfl;rfl;exact q1)|(apply Zcg;rfl;rfl;exact q2))):G:=h
theorem Zx0 {G:Prop}(h:G:=by first|(apply Qy_y;rfl;exact ZvI)|exact QyA):G:=h
theorem ZA5 {G:Prop}(h:G:=by repeat (first|exact QF.nil|(apply QF.mk;rfl;rfl;decide +kernel;exact Zx0))):G:=h
theorem ZyF {G:Prop}(h:G:=by(first|exact PuI|(apply ZaS;rfl;rfl;exact q1))):G:=h
set_option maxHeartbeats 4000000 in
theorem Zq0 (Ar Az Al As:Option Addr)(cr cz cl cs:Nat)(a:Zai)(i:Nat)(z:Za5)(res:List ZbH)(w:World)(hG:Glob w)(hA:Zav w Ar Az Al As cr cz cl cs a)(hn:a.rules.length<=1000000)(hl:z.eras.length<=1000000)(hz:a.zones[i]?=some z)
  (hE:∀ k e,z.eras[k]?=some e->k+1<z.eras.length->RsSm (ruEr a.rules e)/\UnOk e (ruEr a.rules e)) (hsp:Zn7 a.rules z.eras=some res) :
  Does Tryz.prog 65 [srcV Ar Az Al As cr cz cl cs a,.int .i64 i] w (SpR res):=by
 have hil:i<a.zones.length:=(List.getElem?_eq_some_iff.1 hz).1
 obtain⟨hnz,cs1,⟨Ae,ce,hEz,rfl⟩,hcz⟩:=hA.z i _ hz
 have hcpz:=hA.zcap
 simp only[maxLen]at hcpz
 have hb0:decide ((i:Int)<0)=false:=decide_eq_false (by omega)
 have hb1:decide ((a.zones.length:Int)<=(i:Int))=false:=decide_eq_false (by omega)
 refine Zaa Tryz.func65 rfl rfl rfl rfl ?_
 repeat (first|(apply RL_pu;rfl;exact ZvJ)|(apply RD_Q;rfl;rfl;decide +kernel;rfl;rfl;exact Zx1)|refine walk1 ?_|(refine jn ?_;(try intro F);(first|(refine bx ?_;intro bk)|(refine stA ?_)|(apply Zae;first|exact ZvJ|exact PuA));first|refine⟨_,EndsA,ZA6,?_⟩|refine fin ?_)|(apply RD_W;rfl;intro bk))
 rename_i bm _
 generalize bk=b6
 have hel:=hEz.le
 have hec:=hEz.cap
 simp only[maxLen]at hec
 refine ZfA 147 3 ?_
 refine ZgL [] [.row (.slice none 0 0) 147 3 0 [],.blk b6 [.slice Ar a.rules.length cr,.slice Az a.zones.length cz,.slice Al a.links.length cl,.slice As a.shifts.length cs,.map (some bm)] 181,.mp bm []] (fun w=>KnAt a.rules [] w) SOA (fun w' _ k A n c hk=>by cases hk) ?_
 refine Zao [(6,.pointer (some ⟨b6,0,none⟩)),(9,.slice Ae z.eras.length ce),(33,.slice Ae z.eras.length ce),(34,.int .i64 z.eras.length)] [.blk b6 [.slice Ar a.rules.length cr,.slice Az a.zones.length cz,.slice Al a.links.length cl,.slice As a.shifts.length cs,.map (some bm)] 181]
  (fun g:SpG=>[(7,.slice g.A g.m g.c),(8,.int .i64 g.st),(35,.int .i64 g.k)]) (fun g=>[.row (.slice g.A g.m g.c) 147 3 g.m g.xs,.mp bm g.mp,.fact g.S g.P])
  (fun g=>g.k<=z.eras.length/\g.m=g.acc.length/\g.xs=g.acc.flatMap ZbH.enc/\g.m=g.k/\KnP a.rules g.mp/\(∀ w,g.P w->KnAt a.rules g.mp w)/\∃ rest,spGo a.rules (z.eras.drop g.k) g.st g.k=some rest/\g.acc++rest=res) (fun g=>z.eras.length - g.k)
  ⟨0,-9223372036854775808,none,0,0,[],[],[],foot [],KnAt a.rules []⟩ SFA SOA ⟨Nat.zero_le _,rfl,rfl,rfl,(fun k v hk=>by cases hk),fun _ h=>h,res,hsp,rfl⟩ ?_
 rintro⟨k,st,A,c,m,xs,acc,mp,S,P⟩ ⟨hk,hm,hx,hmk,hP,hK,rest,hi,hacc⟩
 dsimp only at hk hm hx hmk hP hK hi hacc ⊢
 repeat (first|refine walk ?_|(refine jn ?_;(try intro F);(first|(refine bx ?_;intro bk)|(refine stA ?_)|(apply Zae;exact PuA));refine fin ?_)|(apply RD_W;rfl;intro bk))
 refine Zaf rfl (fun hc=>?_) (fun hc=>?_)
 ·simp only[decide_eq_true_eq,Int.ofNat_lt]at hc
  obtain⟨hna,hca⟩:=hEz.rd k _ (List.getElem?_eq_getElem hc)
  have hgk:=List.getElem?_eq_getElem hc
  rw[Zap hc]at hi
  generalize z.eras[k]=e at *
  by_cases hlast:k+1<z.eras.length
  ·have q1:decide ((k:Int)<(z.eras.length:Int) - 1)=true:=decide_eq_true (by omega)
   obtain⟨hsm,hun⟩:=hE k _ hgk hlast
   rw[Zap hlast,spGo]at hi
   have hin:=fun(A3:Option Addr) (c3:Nat) w' (hw:Bel w.heap.size w w') hR=>ZqU e A3 c3 (ruEr a.rules e) w' (hG.up hw) hR hsm hun
   have hru:=fun R=>ZoS Ar Az Al As cr cz cl cs a bm mp S P R e w hA hn hP hK
   have hrl:(ruEr a.rules e).length<=1000000:=hsm.n
   generalize endT e (ruEr a.rules e)=T at *
   by_cases hT:T<=st
   ·rw[if_pos hT]at hi
    cases hi
   rw[if_neg hT,<- Zap hlast]at hi
   have q2:decide (T<=st)=false:=decide_eq_false hT
   obtain⟨r2,hr2,rfl⟩:=Option.map_eq_some_iff.1 hi
   unfold BkR at hru
   generalize ruEr a.rules e=rr at *
   obtain⟨off,kd,esv,sset,fm,⟨ui,uy,um,⟨ud1,ud2,ud3⟩,⟨uc1,uc2⟩⟩⟩:=e
   simp only[DEra.enc]at hca hin hru
   unfold ZAM at hru
   repeat (first|(apply RL_pu;rfl;exact ZvI)|(apply RD_Q;rfl;rfl;decide +kernel;rfl;rfl;exact Zx0)|refine walk1 ?_|(refine Ze0 ?_;intro F;(first|(apply Zam (h:=hru _);rfl;exact .cons (by repeat' constructor) (.cons (by repeat' constructor) (.refl _));rintro v O' ⟨A3,c3,m3,S3,rfl,hP3,rfl⟩)|(apply Zag (h:=fun w' hw hH=>hin A3 c3 w' hw (Zef (hH.of (A := .fact S3 (fun w=>KnAt a.rules m3 w/\RdSl w A3 c3 Zab.enc 11 rr)) (by repeat' constructor))).2);rfl;rintro v O' ⟨rfl,rfl⟩));refine⟨_,EndsA,SubO.right _ _,?_⟩)|(refine jn ?_;(try intro F);(first|(apply Zam (h:=hru _);rfl;exact .cons (by repeat' constructor) (.cons (by repeat' constructor) (.refl _));rintro v O' ⟨A3,c3,m3,S3,rfl,hP3,rfl⟩)|(apply Zag (h:=fun w' hw hH=>hin A3 c3 w' hw (Zef (hH.of (A := .fact S3 (fun w=>KnAt a.rules m3 w/\RdSl w A3 c3 Zab.enc 11 rr)) (by repeat' constructor))).2);rfl;rintro v O' ⟨rfl,rfl⟩)|(apply ZaE;rfl;rfl;(intro A' c';(focus repeat' constructor));(intro w' _ hO;exact ZbP (hO.of (by repeat' constructor)));rfl;rfl;(simp only[maxLen];omega);omega;intro A' c' hc1 hc2 hc3)|(refine bx ?_;intro bk)|(refine stA ?_)|(apply Zae;first|exact ZvI|exact PuA));first|refine⟨_,EndsA,ZA5,?_⟩|refine fin ?_)|(apply RD_W;rfl;intro bk))
   exact⟨⟨k+1,T,A',c',m+1,xs++(⟨st,T,k⟩:ZbH).enc,acc++[⟨st,T,k⟩],m3,S3,fun w=>KnAt a.rules m3 w/\RdSl w A3 c3 Zab.enc 11 rr⟩,OA,⟨OA,by simp[hm],by rw[hx];exact Zgs acc _,OA,hP3,fun _ h=>h.1,r2,hr2,by rw[<- hacc];simp⟩,SFA,SOA⟩
  ·have q1:decide ((k:Int)<(z.eras.length:Int) - 1)=false:=decide_eq_false (by omega)
   rw[List.drop_eq_nil_of_le (by omega),spGo]at hi
   cases hi
   obtain⟨off,kd,esv,sset,fm,⟨ui,uy,um,⟨ud1,ud2,ud3⟩,⟨uc1,uc2⟩⟩⟩:=e
   simp only[DEra.enc]at hca
   repeat (first|(apply RL_pu;rfl;exact ZyF)|(apply RD_Q;rfl;rfl;decide +kernel;rfl;rfl;exact QyErC2)|refine walk1 ?_|(refine jn ?_;(try intro F);(first|(apply ZaE;rfl;rfl;(intro A' c';(focus repeat' constructor));(intro w' _ hO;exact ZbP (hO.of (by repeat' constructor)));rfl;rfl;(simp only[maxLen];omega);omega;intro A' c' hc1 hc2 hc3)|(refine bx ?_;intro bk)|(refine stA ?_)|(apply Zae;first|exact ZyF|exact PuA));first|refine⟨_,EndsA,QFErC2,?_⟩|refine fin ?_)|(apply RD_W;rfl;intro bk))
   exact⟨⟨k+1,9223372036854775807,A',c',m+1,xs++(⟨st,9223372036854775807,k⟩:ZbH).enc,acc++[⟨st,9223372036854775807,k⟩],mp,S,P⟩,OA,⟨OA,by simp[hm],by rw[hx];exact Zgs acc _,OA,hP,hK,[],by dsimp only;rw[List.drop_eq_nil_of_le (by omega)];rfl,by rw[List.append_nil];exact hacc⟩,SFA,SOA⟩
 ·simp only[decide_eq_false_iff_not,Int.ofNat_lt]at hc
  obtain rfl:k=z.eras.length:=by omega
  rw[List.drop_length,spGo]at hi
  cases hi
  rw[List.append_nil]at hacc
  subst hacc
  repeat (first|refine walk ?_|(refine jn ?_;(try intro F);(first|(refine bx ?_;intro bk)|(refine stA ?_)|(apply Zae;exact PuA));refine fin ?_)|(apply RD_W;rfl;intro bk))
  exact ret_2 _ _ [.row (.slice A acc.length c) 147 3 acc.length (acc.flatMap ZbH.enc)] (.tmp rfl) (.tmp rfl) (by subst hm hx;exact SOA) ⟨A,c,by rw[hm],rfl⟩
def Zto:List Value:=[fnV 287,fnV 288,fnV 289]
def MeG (w:World):Prop:=Zal w ⟨1,0,none⟩ Zto
theorem MeG.up {w w':World}(h:MeG w)(hb:Bel w.heap.size w w'):MeG w':=Zal.up h hb (Nat.le_refl _)
def meFn (k:Int):FuncId:=if k=0 then 287 else if k=1 then 288 else 289
theorem ZBq {w:World}(hF:MeG w)(k:Int)(hk:0<=k/\k<=2):Zal w ((⟨1,0,none⟩:Addr).add (k.toNat*1)) [fnV (meFn k)]:=by
 have hc:k=0\/k=1\/k=2:=by omega
 intro j v hj
 have hj0:j=0:=by
  rcases j with _|j
  ·rfl
  ·cases j <;> cases hj
 subst hj0
 rcases hc with rfl|rfl|rfl
 ·exact hF 0 _ hj
 ·exact hF 1 _ hj
 ·exact hF 2 _ hj
def ZbN (rs:List Zab)(e:DEra)(t:Int):Int × ByteArray:=if e.kind=0 then (0,ByteArray.empty) else if e.kind=1 then (e.save,ByteArray.empty) else atS (ofB rs e.set) e.off t
theorem Zom (Ar Az Al As:Option Addr)(cr cz cl cs:Nat)(a:Zai)(e:DEra)(t:Int)(w:World)(hG:Glob w)(hA:Zav w Ar Az Al As cr cz cl cs a)(hn:a.rules.length<=1000000)(hk:0<=e.kind/\e.kind<=2)(hr:e.kind=2->RsSm (ofB a.rules e.set))(ho : -1000000000<=e.off/\e.off<=1000000000)(ht : -1000000000000000000<=t/\t<=1000000000000000000) :
  Does Tryz.prog (meFn e.kind) [srcV Ar Az Al As cr cz cl cs a,.agg e.enc.toArray,.int .i64 t] w (fun v O=>v=stV (ZbN a.rules e t)/\O=[]):=by
 have hof:=fun w' (hw:Bel w.heap.size w w')=>Zfe Ar Az Al As cr cz cl cs a e.set w' (hA.up hw) hn
 have hsa:=fun(A:Option Addr) (c:Nat) w' (hw:Bel w.heap.size w w') (hR:RdSl w' A c Zab.enc 11 (ofB a.rules e.set)) (h2:e.kind=2)=>Zsz A c (ofB a.rules e.set) e.off t w' (hG.up hw) hR (hr h2) ho ht
 unfold ZbN
 have hc:e.kind=0\/e.kind=1\/e.kind=2:=by omega
 generalize atS (ofB a.rules e.set) e.off t=x at *
 generalize ofB a.rules e.set=rr at *
 obtain⟨off,kd,esv,sset,fm,⟨ui,uy,um,⟨ud1,ud2,ud3⟩,⟨uc1,uc2⟩⟩⟩:=e
 obtain⟨xs,xl⟩:=x
 dsimp only at hc hof hsa ⊢
 unfold stV at hsa ⊢
 rcases hc with rfl|rfl|rfl
 ·show Does _ 287 [.agg #[.slice Ar a.rules.length cr,.slice Az a.zones.length cz,.slice Al a.links.length cl,.slice As a.shifts.length cs],.agg #[.int .i64 off,.int .i64 0,.int .i64 esv,.string sset,.string fm,.bool ui,.int .i64 uy,.int .i64 um,.int .i64 ud1,.int .i64 ud2,.int .i64 ud3,.int .i64 uc1,.int .i64 uc2],.int .i64 t] w _
  refine Zaa Tryz.func287 rfl rfl rfl rfl ?_
  repeat (first|(refine js ?_;(refine bx ?_;intro bk))|refine walk ?_)
  exact ret_1 _ [] (.cellB rfl (by repeat' constructor) rfl rfl) .nil ⟨rfl,rfl⟩
 ·show Does _ 288 [.agg #[.slice Ar a.rules.length cr,.slice Az a.zones.length cz,.slice Al a.links.length cl,.slice As a.shifts.length cs],.agg #[.int .i64 off,.int .i64 1,.int .i64 esv,.string sset,.string fm,.bool ui,.int .i64 uy,.int .i64 um,.int .i64 ud1,.int .i64 ud2,.int .i64 ud3,.int .i64 uc1,.int .i64 uc2],.int .i64 t] w _
  refine Zaa Tryz.func288 rfl rfl rfl rfl ?_
  repeat (first|(refine js ?_;(refine bx ?_;intro bk))|refine walk ?_)
  exact ret_1 _ [] (.cellB rfl (by repeat' constructor) rfl rfl) .nil ⟨rfl,rfl⟩
 ·show Does _ 289 [.agg #[.slice Ar a.rules.length cr,.slice Az a.zones.length cz,.slice Al a.links.length cl,.slice As a.shifts.length cs],.agg #[.int .i64 off,.int .i64 2,.int .i64 esv,.string sset,.string fm,.bool ui,.int .i64 uy,.int .i64 um,.int .i64 ud1,.int .i64 ud2,.int .i64 ud3,.int .i64 uc1,.int .i64 uc2],.int .i64 t] w _
  refine Zaa Tryz.func289 rfl rfl rfl rfl ?_
  repeat (first|refine walk ?_|(refine jg ?_;(try intro F);(first|(apply Zag (h:=fun w' hw _=>hof w' hw);rfl;rintro v O' ⟨A3,c3,rfl,rfl⟩)|(refine Za1 (fun w' hw hO=>hsa A3 c3 w' hw (Zbn Zab.len (hO.of (by repeat' constructor))) rfl) ?_)|(refine bx ?_;intro bk)|(refine stA ?_));refine fin ?_)|(refine jn ?_;(try intro F);(first|(refine bx ?_;intro bk)|(refine stA ?_)|(apply Zae;exact PuA));refine fin ?_)|(apply RD_W;rfl;intro bk))
  exact ret_1 _ [] (.cellB rfl (by repeat' constructor) rfl rfl) .nil ⟨rfl,rfl⟩
structure Zdq where
 off:Int
 dst:Bool
 abbr:ByteArray
deriving DecidableEq
def Zdq.enc (x:Zdq):List Value:=[.int .i64 x.off,.bool x.dst,.string x.abbr]
def ZfG (e:DEra)(x:Int × ByteArray):Zdq:=⟨e.off+x.1,!decide (x.1=0),ZcX e x.1 x.2⟩
def abE (e:DEra)(x:Int × ByteArray):Int:=(ZbR e.format.data.toList e.off x.1 x.2.data.toList).2
structure LcOk (rs:List Zab)(e:DEra):Prop where
 k:0<=e.kind/\e.kind<=2
 o : -1000000000<=e.off/\e.off<=1000000000
 s : -1000000000<=e.save/\e.save<=1000000000
 r:e.kind=2->RsSm (ofB rs e.set)
 f:e.format.size<=1000000000
theorem Zvs {G:Prop}(h:G:=by(first|(apply ZaT;rfl;rfl;omega;omega)|(apply Pu_loadO1;rfl;exact hcell 0 _ rfl))):G:=h
theorem ZxU {G:Prop}(h:G:=by first|(apply Qy_y;rfl;exact Zvs)|exact QyA):G:=h
theorem Zx6 {G:Prop}(h:G:=by repeat (first|exact QF.nil|(apply QF.mk;rfl;rfl;decide +kernel;exact ZxU))):G:=h
theorem ZmE (Ar Az Al As:Option Addr)(cr cz cl cs:Nat)(a:Zai)(e:DEra)(t:Int)(w:World)(hL:LibW w)(hG:Glob w)(hM:MeG w)(hA:Zav w Ar Az Al As cr cz cl cs a)(hn:a.rules.length<=1000000)(he:LcOk a.rules e)(ht : -1000000000000000000<=t/\t<=1000000000000000000)
  (hx : -1000000000<=(ZbN a.rules e t).1/\(ZbN a.rules e t).1<=1000000000) (hxl:(ZbN a.rules e t).2.size<=1000000000) (hab:abE e (ZbN a.rules e t)=0) :
  Does Tryz.prog 26 [srcV Ar Az Al As cr cz cl cs a,.agg e.enc.toArray,.int .i64 t] w (fun v O=>v = .tuple #[.agg (ZfG e (ZbN a.rules e t)).enc.toArray,.int .i64 0]/\O=[]):=by
 have hst:=fun w' (hw:Bel w.heap.size w w')=>Zom Ar Az Al As cr cz cl cs a e t w' (hG.up hw) (hA.up hw) hn he.k he.r he.o ht
 have hcell:=ZBq hM e.kind he.k
 have hk:=he.k
 have ho:=he.o
 haveI:Body Tryz.prog (meFn e.kind):=by
  unfold meFn
  split
  ·infer_instance
  ·split <;> infer_instance
 generalize ZbN a.rules e t=x at *
 have hfa:=fun w' (hw:Bel w.heap.size w w')=>Zfj e.format x.2 e.off x.1 w' (hL.up hw) he.f hxl (by unfold I64;omega) (by unfold I64;omega)
 unfold abE at hab
 unfold xpV at hfa
 rw[hab]at hfa
 unfold ZfG
 change ∀ w',Bel w.heap.size w w'->Does _ _ _ w' (fun v O=>v = .tuple #[.string (ZcX e x.1 x.2),.int .i64 0]/\O=[]) at hfa
 generalize ZcX e x.1 x.2=ab at *
 obtain⟨xs,xl⟩:=x
 obtain⟨off,kd,esv,sset,fm,⟨ui,uy,um,⟨ud1,ud2,ud3⟩,⟨uc1,uc2⟩⟩⟩:=e
 dsimp only at hst hcell hk ho hx hfa ⊢
 unfold stV at hst
 simp only[Zdq.enc]
 show Does _ _ [.agg #[.slice Ar a.rules.length cr,.slice Az a.zones.length cz,.slice Al a.links.length cl,.slice As a.shifts.length cs],.agg #[.int .i64 off,.int .i64 kd,.int .i64 esv,.string sset,.string fm,.bool ui,.int .i64 uy,.int .i64 um,.int .i64 ud1,.int .i64 ud2,.int .i64 ud3,.int .i64 uc1,.int .i64 uc2],.int .i64 t] w _
 generalize meFn kd=kf at *
 refine Zaa Tryz.func26 rfl rfl rfl rfl ?_
 repeat (first|(apply RL_pu;rfl;exact Zvs)|(apply RD_Q;rfl;rfl;decide +kernel;rfl;rfl;exact ZxU)|refine walk1 ?_|(refine jg ?_;(try intro F);(first|(apply Zar (f:=kf) (us:=[]) (cs:=[]) (vs:=[.agg #[.slice Ar a.rules.length cr,.slice Az a.zones.length cz,.slice Al a.links.length cl,.slice As a.shifts.length cs],.agg #[.int .i64 off,.int .i64 kd,.int .i64 esv,.string sset,.string fm,.bool ui,.int .i64 uy,.int .i64 um,.int .i64 ud1,.int .i64 ud2,.int .i64 ud3,.int .i64 uc1,.int .i64 uc2],.int .i64 t]) (h:=fun w' hw _=>hst w' hw);rfl;rfl;rintro v O' ⟨rfl,rfl⟩)|(refine Zac hfa ?_)|(refine bx ?_;intro bk)|(refine stA ?_));first|refine⟨_,EndsA,Zx6,?_⟩|refine fin ?_)|(refine jn ?_;(try intro F);(first|(refine bx ?_;intro bk)|(refine stA ?_)|(apply Zae;first|exact Zvs|exact PuA));first|refine⟨_,EndsA,Zx6,?_⟩|refine fin ?_)|(apply RD_W;rfl;intro bk))
 exact rtC
end Go.Proofs.YtdlmhmmhdbbliaaGreatDoor
namespace Go.Proofs.YtdlmhmmhdbbliaaGreatDoor
open Go Go.RowKit Go.Wk
def Zby (x:ZbI)(y:Int):Int:=if x.kind=2 then Zan y 1 1+x.day else (ZhE x y).1
def ZdA (a b:Int × Bool):Bool:=decide (b.1<a.1)||(decide (a.1=b.1)&&a.2)
def ZaX (t:Int)(l b:Int × Bool):Int × Bool:=if b.1<=t/\ZdA b l=true then b else l
def Zq9 (p:ZaQ)(y:Int):List (Int × Bool):=[(86400*Zby p.start y+p.start.sec - p.stdOff,true),(86400*Zby p.fin y+p.fin.sec - p.dstOff,false)]
def Zgi (p:ZaQ)(y:Int):Nat->List (Int × Bool)
 | 0=>[]
 | k+1=>Zq9 p y++Zgi p (y+1) k
def ZcO (p:ZaQ)(t:Int):Int × Bool:=(Zgi p (ZaA t - 2) 5).foldl (ZaX t) (-4611686018427387904,false)
def pxAt (p:ZaQ)(t:Int):Zdq:=if p.dst≠ByteArray.empty/\(ZcO p t).2=true then ⟨p.dstOff,true,p.dst⟩ else ⟨p.stdOff,false,p.std⟩
theorem Zmg (t:Int)(l b:Int × Bool):(ZaX t l b=b/\b.1<=t/\(l.1<b.1\/(b.1=l.1/\b.2=true)))\/(ZaX t l b=l/\(b.1<=t->b.1<l.1\/(b.1=l.1/\b.2=false))):=by
 unfold ZaX
 by_cases h:b.1<=t/\ZdA b l=true
 ·rw[if_pos h]
  obtain⟨h1,h2⟩:=h
  unfold ZdA at h2
  rw[Bool.or_eq_true,Bool.and_eq_true,decide_eq_true_eq,decide_eq_true_eq]at h2
  exact .inl ⟨rfl,h1,h2⟩
 ·rw[if_neg h]
  refine .inr ⟨rfl,fun h1=>?_⟩
  have h2:ZdA b l=false:=by
   cases hb:ZdA b l with
   | true=>exact absurd ⟨h1,hb⟩ h
   | false=>rfl
  unfold ZdA at h2
  rw[Bool.or_eq_false_iff,decide_eq_false_iff_not,Bool.and_eq_false_iff,decide_eq_false_iff_not]at h2
  obtain⟨a,c⟩:=h2
  rcases c with c|c
  ·exact .inl (by omega)
  ·by_cases e:b.1=l.1
   ·exact .inr ⟨e,c⟩
   ·exact .inl (by omega)
def pxNo (b r:Int × Bool):Prop:=b.1<r.1\/(b.1=r.1/\(b.2=true->r.2=true))
theorem pxNo.refl (b:Int × Bool):pxNo b b := .inr ⟨rfl,id⟩
theorem pxNo.trans {a b c:Int × Bool}(h:pxNo a b)(k:pxNo b c):pxNo a c:=by
 rcases h with h|⟨h,h'⟩
 ·rcases k with k|⟨k,_⟩
  ·exact .inl (by omega)
  ·exact .inl (by omega)
 ·rcases k with k|⟨k,k'⟩
  ·exact .inl (by omega)
  ·exact .inr ⟨by omega,fun hh=>k' (h' hh)⟩
theorem ZsU (t:Int)(l b:Int × Bool):pxNo l (ZaX t l b)/\(b.1<=t->pxNo b (ZaX t l b))/\(ZaX t l b=l\/(ZaX t l b=b/\b.1<=t)):=by
 rcases Zmg t l b with⟨e,c1,c2⟩|⟨e,c⟩
 ·rw[e]
  refine⟨?_,fun _=>pxNo.refl b,.inr ⟨rfl,c1⟩⟩
  rcases c2 with c2|⟨c2,c3⟩
  ·exact .inl c2
  ·exact .inr ⟨c2.symm,fun _=>c3⟩
 ·rw[e]
  refine⟨pxNo.refl l,fun h=>?_,.inl rfl⟩
  rcases c h with c2|⟨c2,c3⟩
  ·exact .inl c2
  ·exact .inr ⟨c2,fun hh=>by rw[c3]at hh;cases hh⟩
theorem ZsS (t:Int):∀ (L:List (Int × Bool)) (l:Int × Bool),(L.foldl (ZaX t) l=l\/(L.foldl (ZaX t) l∈L/\(L.foldl (ZaX t) l).1<=t))/\pxNo l (L.foldl (ZaX t) l) /\
  (∀ b∈L,b.1<=t->pxNo b (L.foldl (ZaX t) l))
 | [],l=>⟨.inl rfl,pxNo.refl l,fun b h=>by cases h⟩
 | b::L,l=>by
  obtain⟨h1,h2,h3⟩:=ZsS t L (ZaX t l b)
  obtain⟨c1,c2,c3⟩:=ZsU t l b
  rw[List.foldl_cons]
  generalize List.foldl (ZaX t) (ZaX t l b) L=r at *
  refine⟨?_,c1.trans h2,fun x hx hxt=>?_⟩
  ·rcases h1 with h1|⟨h1,h4⟩
   ·rcases c3 with c3|⟨c3,c4⟩
    ·exact .inl (h1.trans c3)
    ·exact .inr ⟨by rw[h1,c3];exact List.mem_cons_self,by rw[h1,c3];exact c4⟩
   ·exact .inr ⟨List.mem_cons_of_mem _ h1,h4⟩
  ·rcases List.mem_cons.1 hx with rfl|hx
   ·exact(c2 hxt).trans h2
   ·exact h3 x hx hxt
theorem ZdM {p:ZaQ}{b:Int × Bool}:∀ (k:Nat) (y:Int),b∈Zgi p y k↔∃ j:Nat,j<k/\b∈Zq9 p (y+(j:Nat))
 | 0,y=>by simp[Zgi]
 | k+1,y=>by
  rw[Zgi,List.mem_append,ZdM k (y+1)]
  constructor
  ·rintro(h|⟨j,hj,h⟩)
   ·exact⟨0,by omega,by simpa using h⟩
   ·exact⟨j+1,by omega,by rw[show y+((j+1:Nat):Int)=y+1+(j:Nat) by omega];exact h⟩
  ·rintro⟨j,hj,h⟩
   rcases j with _|j
   ·exact .inl (by simpa using h)
   ·exact .inr ⟨j,by omega,by rw[show y+1+(j:Nat)=y+((j+1:Nat):Int) by omega];exact h⟩
theorem ZgW {t:Int}(h0 : -40000000000000000<=t)(h1:t<=40000000000000000):jan1 (ZaA t)*86400<=t/\t<jan1 (ZaA t+1)*86400:=by
 obtain⟨a,b⟩:=Znc (t / 86400)
 have hb : -2000000000<=Zhj (t / 86400)/\Zhj (t / 86400)<=2000000000:=by
  unfold jan1 at a b
  omega
 have e:ZaA t=Zhj (t / 86400):=by
  unfold ZaA
  omega
 rw[e]
 omega
theorem Zq8 (y:Int):Zby ⟨2,0,0,0,0⟩ y=jan1 y:=by
 rw[Zha]
 show(if (2:Int)=2 then Zan y 1 1+0 else _)=_
 rw[if_pos rfl,Int.add_zero]
theorem ZsV (y s:Int):Zby ⟨1,365,0,0,s⟩ y=jan1 (y+1) - 1:=by
 have h1:(⟨1,365,0,0,s⟩:ZbI).kind=1:=rfl
 unfold Zby ZhE
 rw[if_neg (by rw[h1];decide),if_pos h1]
 dsimp only
 rw[ZeS,<- Zha]
 unfold Zq2
 cases Zex y with
 | true =>
  rw[if_pos ⟨rfl,by decide⟩,if_pos rfl]
  try omega
 | false =>
  rw[if_neg (fun h=>by cases h.1),if_neg (by decide)]
  try omega
theorem ZsT {p:ZaQ}{save t:Int}(h1:p.start=⟨2,0,0,0,0⟩)(h2:p.fin=⟨1,365,0,0,86400+save⟩)(h3:p.dstOff=p.stdOff+save)(ho : -86400<=p.stdOff/\p.stdOff<=86400)(ht : -40000000000000000<=t/\t<=40000000000000000):(ZcO p t).2=true:=by
 obtain⟨y0,y1⟩:=ZgW ht.1 ht.2
 have hbeg:∀ y,Zq9 p y=[(86400*jan1 y - p.stdOff,true),(86400*jan1 (y+1) - p.stdOff,false)]:=fun y=>by
  unfold Zq9
  rw[h1,h2,h3,Zq8,ZsV]
  dsimp only
  rw[show 86400*jan1 y+0 - p.stdOff=86400*jan1 y - p.stdOff by omega,show 86400*(jan1 (y+1) - 1)+(86400+save) - (p.stdOff+save)=86400*jan1 (y+1) - p.stdOff by omega]
 obtain⟨m1,_,m3⟩:=ZsS t (Zgi p (ZaA t - 2) 5) (-4611686018427387904,false)
 unfold ZcO
 generalize List.foldl (ZaX t) (-4611686018427387904,false) (Zgi p (ZaA t - 2) 5)=r at *
 generalize ZaA t=Y at *
 have hst:∀ j:Nat,j<5->(86400*jan1 (Y - 2+(j:Nat)) - p.stdOff,true)∈Zgi p (Y - 2) 5:=fun j hj=>(ZdM 5 _).2 ⟨j,hj,by rw[hbeg];exact List.mem_cons_self⟩
 have hm0:=ZcE (Y - 1) 1
 have hm1:=ZcE (Y+1) 1
 have hm2:=ZcE (Y+2) 1
 have e1:(Y - 1+((1:Nat):Int))=Y:=by omega
 have e2:(Y+1+((1:Nat):Int))=Y+2:=by omega
 have e3:(Y+2+((1:Nat):Int))=Y+3:=by omega
 rw[e1]at hm0
 rw[e2]at hm1
 rw[e3]at hm2
 have hb:=m3 _ (hst 1 (by decide)) (by
  dsimp only
  rw[show Y - 2+((1:Nat):Int)=Y - 1 by omega]
  omega)
 have hlow:86400*jan1 (Y - 1) - p.stdOff<=r.1:=by
  have e:Y - 2+((1:Nat):Int)=Y - 1:=by omega
  rw[e]at hb
  rcases hb with hb|⟨hb,_⟩
  ·have:86400*jan1 (Y - 1) - p.stdOff<r.1:=hb
   omega
  ·have:86400*jan1 (Y - 1) - p.stdOff=r.1:=hb
   omega
 rcases m1 with m1|⟨m1,m2⟩
 ·rw[m1]at hlow
  have hl:86400*jan1 (Y - 1) - p.stdOff <= -4611686018427387904:=hlow
  unfold jan1 at hl y1
  omega
 ·obtain⟨j,hj,hin⟩:=(ZdM 5 _).1 m1
  rw[hbeg]at hin
  rcases List.mem_cons.1 hin with hin|hin
  ·rw[hin]
  ·have hin:=List.mem_singleton.1 hin
   by_cases h4:j<4
   ·have h5:=m3 _ (hst (j+1) (by omega)) (by
     rw[hin]at m2
     have m2:86400*jan1 (Y - 2+(j:Nat)+1) - p.stdOff<=t:=m2
     show 86400*jan1 (Y - 2+((j+1:Nat):Int)) - p.stdOff<=t
     rw[show Y - 2+((j+1:Nat):Int)=Y - 2+(j:Nat)+1 by omega]
     exact m2)
    rcases h5 with h5|⟨_,h5⟩
    ·exfalso
     rw[hin]at h5
     have h5:86400*jan1 (Y - 2+((j+1:Nat):Int)) - p.stdOff<86400*jan1 (Y - 2+(j:Nat)+1) - p.stdOff:=h5
     rw[show Y - 2+((j+1:Nat):Int)=Y - 2+(j:Nat)+1 by omega]at h5
     omega
    ·exact h5 rfl
   ·exfalso
    obtain rfl:j=4:=by omega
    rw[hin]at m2
    have m2:86400*jan1 (Y - 2+((4:Nat):Int)+1) - p.stdOff<=t:=m2
    rw[show Y - 2+((4:Nat):Int)+1=Y+3 by omega]at m2
    omega
theorem Zkt {r:Zab}(h:DrRule r):ZaP r.at_=true:=by
 have:=h.clk
 unfold ZaP
 simp
 omega
theorem ZtT {l:List Zab}{i:Nat}{r:Zab}(hr:DrRule r)(hi:l[i]?=some r)(hto:r.to=1048576){n b:Int}(hn : -50000<=n/\n<=50000)(hbe : -20000<=b/\b<=20000) :
  ∃ x,Zdk r n b=(x,0)/\∀ y,inY y=true->r.from_<=y->y<=2000000000->∃ e,onR (Zah l) r i y=some e/\(e.nominal - 100000<=86400*Zby x y+x.sec - n - b/\86400*Zby x y+x.sec - n - b<=e.nominal+100000)/\((befS l e.nominal).1=b->86400*Zby x y+x.sec - n - b=ZcF l e n):=by
 have hm:=hr.mon12
 have hc:=hr.clk
 have hf0:=hr.f0
 have hck:=Zkt hr
 have hl:lastY r=2000000000:=if_pos hto
 have hnd:ZeJ r=false:=by
  unfold ZeJ
  rw[decide_eq_true hto,decide_eq_false (show ¬ r.month<1 by omega),decide_eq_false (show ¬ 12<r.month by omega),hr.day.chk,hck]
  rfl
 have hsc:Zbv (secD r n b)=true:=by
  have : -604799<=secD r n b/\secD r n b<=604799:=by
   unfold secD
   split <;> split <;> omega
  unfold Zbv
  rw[decide_eq_true this.1,decide_eq_true this.2]
  rfl
 have hi1:Zbv n=true:=by unfold Zbv;rw[decide_eq_true (by omega),decide_eq_true (by omega)];rfl
 have hi2:Zbv b=true:=by unfold Zbv;rw[decide_eq_true (by omega),decide_eq_true (by omega)];rfl
 have h2000:inY 2000=true:=by decide
 obtain⟨d0,_⟩:=Zk8 hr.day h2000 hm.1 hm.2
 have hdt:Zdk r n b=({ (ZcM r.month r.day).1 with sec:=secD r n b },0):=by
  unfold Zdk
  rw[hnd,if_neg (by decide),d0,if_neg (by decide),hi1,hi2,if_neg (by decide),hsc,if_pos rfl]
 refine⟨_,hdt,fun y hin hy0 hy1=>?_⟩
 have hon:=hr.day.on hin hm.1 hm.2
 obtain⟨_,d2⟩:=Zk8 hr.day hin hm.1 hm.2
 have hms:=d2 (secD r n b)
 have hev:onR (Zah l) r i y=some ⟨y,i,86400*(onD y r.month r.day).1+r.at_.sec+(if r.at_.base=1 then max (Zah l) (-10800) else 0)⟩:=by
  unfold onR
  rw[if_neg (by rw[hl,hck];rintro(q|q|q);omega;omega;cases q),if_neg (by rw[hon.1];decide)]
 have hru:ruE l ⟨y,i,86400*(onD y r.month r.day).1+r.at_.sec+(if r.at_.base=1 then max (Zah l) (-10800) else 0)⟩=r:=by
  unfold ruE
  rw[List.getD_eq_getElem?_getD]
  dsimp only
  rw[show((i:Nat):Int).toNat=i from rfl,hi]
  rfl
 have hk:(ZcM r.month r.day).1.kind≠2:=fun hk=>by
  unfold ZhE at hms
  dsimp only at hms
  rw[hk,if_neg (by decide)]at hms
  have:=congrArg Prod.snd hms
  simp at this
 have hpx:Zby { (ZcM r.month r.day).1 with sec:=secD r n b } y=(onD y r.month r.day).1:=by
  unfold Zby
  rw[if_neg hk,hms]
 have hcb:r.at_.base=0\/r.at_.base=1\/r.at_.base=2:=by omega
 have hle:Zah l<=0:=(Zli l 0).1
 refine⟨_,hev,?_,fun hbf=>?_⟩
 ·rw[hpx]
  dsimp only
  unfold secD
  rcases hcb with h|h|h <;> rw[h] <;> simp only[Int.reduceEq,if_true,if_false,or_true,true_or,or_self,or_false,false_or] <;> omega
 unfold ZcF
 rw[hru,hpx]
 dsimp only at hbf ⊢
 rw[hbf]
 unfold secD
 rcases hcb with h|h|h <;> rw[h] <;> simp only[Int.reduceEq,if_true,if_false,or_true,true_or,or_self,or_false,false_or] <;> omega
end Go.Proofs.YtdlmhmmhdbbliaaGreatDoor
