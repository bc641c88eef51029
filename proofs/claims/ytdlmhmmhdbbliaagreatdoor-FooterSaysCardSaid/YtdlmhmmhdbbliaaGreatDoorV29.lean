/- Parts of the proof. -/
import Derived.Test.YtdlmhmmhdbbliaaGreatDoorV14
import Derived.Test.YtdlmhmmhdbbliaaGreatDoorV11
import Derived.Test.YtdlmhmmhdbbliaaGreatDoorV28
import Derived.Test.YtdlmhmmhdbbliaaGreatDoorV10
import Derived.Test.YtdlmhmmhdbbliaaGreatDoorV22
import Derived.Test.YtdlmhmmhdbbliaaGreatDoorV06
import Derived.Test.YtdlmhmmhdbbliaaGreatDoorV20
set_option maxHeartbeats 4000000
set_option linter.unusedVariables false
set_option linter.unusedSimpArgs false
namespace Go.Proofs.YtdlmhmmhdbbliaaGreatDoor
open Go Go.RowKit Go.Wk
def yrR:List Zab->Int->Int
 | [],y=>y
 | r::l,y=>yrR l (if r.to=1048576 then max y r.from_ else max (max y r.from_) r.to)
def yr0 (l:List DEra):Int:=if 1<l.length then (l.getD (l.length - 2) dE0).til.year else 1849
def ZdD (l:List DEra):DEra:=l.getD (l.length - 1) dE0
def Za9 (s:Zai)(l:List DEra):List Zab:=if (ZdD l).kind=2 then ofB s.rules (ZdD l).set else []
def Zch (s:Zai)(l:List DEra):Int:=yrR (Za9 s l) (yr0 l)+1
theorem Zxn:∀ (l:List Zab) (y:Int),y<=yrR l y/\∀ r∈l,r.from_<=yrR l y/\(r.to=1048576\/r.to<=yrR l y)
 | [],y=>⟨Int.le_refl _,fun r h=>by cases h⟩
 | a::l,y=>by
  obtain⟨h1,h2⟩:=Zxn l (if a.to=1048576 then max y a.from_ else max (max y a.from_) a.to)
  rw[yrR]
  generalize yrR l _=z at *
  refine⟨by split at h1 <;> omega,fun r hr=>?_⟩
  rcases List.mem_cons.1 hr with rfl|hr
  ·split at h1 <;> omega
  ·exact h2 r hr
theorem Zxm {M:Int}:∀ (l:List Zab) (y:Int),y<=M->(∀ r∈l,r.from_<=M/\(r.to=1048576\/r.to<=M))->yrR l y<=M
 | [],_,h,_=>h
 | a::l,y,h,hr=>by
  rw[yrR]
  have ha:=hr a List.mem_cons_self
  refine Zxm l _ ?_ fun r h2=>hr r (List.mem_cons_of_mem _ h2)
  split <;> omega
theorem ZkV {s:Zai}{l:List DEra}{Y:Nat->Int}(h:Zbo s.rules l Y) :
  1850<=Zch s l/\Zch s l<=2150/\(∀ i e,i+1<l.length->l[i]?=some e->e.til.year<Zch s l) /\
  (∀ r∈Za9 s l,DrRule r/\r.from_<Zch s l/\(r.to=1048576\/r.to<Zch s l)):=by
 have hlen:=h.len
 have hty:∀ k e,k+1<l.length->l[k]?=some e->(e.til.year=Y k\/e.til.year=Y k+1)/\1850<=Y k/\Y k<=2148:=fun k e hk he=>by
  have h1:=h.til k e he
  have h2:=h.yr k hk
  rw[if_pos hk]at h1
  rcases h1 with⟨_,_,_,q,_⟩|⟨_,_,_,q,_⟩ <;> rw[q] <;> dsimp only <;> omega
 have hinc:∀ d k,k+d+1<l.length->Y k+d<=Y (k+d):=fun d=>by
  induction d with
  | zero=>intro k _;simp
  | succ d ih =>
   intro k hk
   have h1:=ih k (by omega)
   have h2:=h.inc (k+d) (by omega)
   rw[show k+(d+1)=k+d+1 by omega]
   omega
 have hr:∀ r∈Za9 s l,DrRule r:=fun r hr=>by
  unfold Za9 ZdD at hr
  split at hr
  ·rename_i hk
   obtain⟨e,he,e2⟩:=Zdh (l:=l) (k:=l.length - 1) (d:=dE0) (by omega)
   rw[e2]at hk hr
   rcases h.era _ e he with⟨q,_⟩|⟨q,_⟩|⟨_,_,_,_,_,_,q,_⟩
   ·omega
   ·omega
   ·exact q.rule r hr
  ·cases hr
 obtain⟨g1,g2⟩:=Zxn (Za9 s l) (yr0 l)
 have h0:1849<=yr0 l/\yr0 l<=2149:=by
  unfold yr0
  split
  ·obtain⟨e,he,e2⟩:=Zdh (l:=l) (k:=l.length - 2) (d:=dE0) (by omega)
   rw[e2]
   have:=hty (l.length - 2) e (by omega) he
   omega
  ·omega
 have hle:yrR (Za9 s l) (yr0 l)<=2149:=Zxm _ _ h0.2 fun r hm=>by
  have q1:=(hr r hm).f1
  have q2:=(hr r hm).t1
  omega
 unfold Zch
 refine⟨by omega,by omega,fun i e hi he=>?_,fun r hm=>⟨hr r hm,?_⟩⟩
 ·have q1:=hty i e hi he
  obtain⟨f,hf,e2⟩:=Zdh (l:=l) (k:=l.length - 2) (d:=dE0) (by omega)
  have q2:=hty (l.length - 2) f (by omega) hf
  have q3:e.til.year<=yr0 l:=by
   unfold yr0
   rw[if_pos (by omega),e2]
   by_cases hc:i=l.length - 2
   ·subst hc
    rw[he]at hf
    rw[Option.some.inj hf]
    exact Int.le_refl _
   ·have:=hinc (l.length - 2 - i) i (by omega)
    rw[show i+(l.length - 2 - i)=l.length - 2 by omega]at this
    omega
  omega
 ·have:=g2 r hm
  omega
structure ZaQ where
 std:ByteArray
 stdOff:Int
 dst:ByteArray
 dstOff:Int
 start:ZbI
 fin:ZbI
deriving DecidableEq
def ZaQ.enc (p:ZaQ):List Value:=[.string p.std,.int .i64 p.stdOff,.string p.dst,.int .i64 p.dstOff,.int .i64 p.start.kind,.int .i64 p.start.day,.int .i64 p.start.month,.int .i64 p.start.week,.int .i64 p.start.sec,.int .i64 p.fin.kind,.int .i64 p.fin.day,.int .i64 p.fin.month,.int .i64 p.fin.week,.int .i64 p.fin.sec]
def ZcX (e:DEra)(save:Int)(letter:ByteArray):ByteArray:=⟨(ZbR e.format.data.toList e.off save letter.data.toList).1.toArray⟩
def xxxB:ByteArray:=⟨#[88,88,88]⟩
def Za4 (e:DEra)(save:Int)(letter:ByteArray):ZaQ :=
 if save=0 then ⟨ZcX e save letter,e.off,ByteArray.empty,0,dt0,dt0⟩
 else ⟨xxxB,e.off,ZcX e save letter,e.off+save,⟨2,0,0,0,0⟩,⟨1,365,0,0,86400+save⟩⟩
def Zga (e:DEra)(start fin:Zab):ZaQ :=
 ⟨ZcX e fin.save fin.letter,e.off,ZcX e start.save start.letter,e.off+start.save,(Zdk start e.off 0).1,(Zdk fin e.off start.save).1⟩
def seF:List Zab->Nat->Option Nat × Option Nat->Option Nat × Option Nat
 | [],_,a=>a
 | r::l,i,a=>seF l (i+1) (if r.to=1048576 then (if r.save=0 then (a.1,some i) else (some i,a.2)) else a)
def untN:ZaY:=⟨false,0,0,⟨0,0,0⟩,⟨0,0⟩⟩
def ZpE:Zab:={ Zma 10 ⟨1,0,31⟩ 7200 (-3600) with from_:=1971,to:=1971 }
def ZeC:Zab:=Zma 3 (sunD 15) 7200 0
def ZjY:Zab:=Zma 10 ⟨2,0,0⟩ 3600 (-3600)
def ZfR:DEra:=⟨0,0,0,ByteArray.empty,⟨#[71,77,84]⟩,⟨true,1968,10,⟨1,0,27⟩,⟨0,0⟩⟩⟩
def Zd2:DEra:=⟨3600,2,0,Zzo,⟨#[73,83,84,47,71,77,84]⟩,untN⟩
def dubN:ByteArray:=⟨#[69,117,114,111,112,101,47,68,117,98,108,105,110]⟩
def Zm4:Zai:=⟨[ZpE,ZeC,ZjY],[⟨dubN,[ZfR,Zd2]⟩],[],[]⟩
def zoA:ByteArray:=⟨#[65]⟩
def Zd1:DEra:=⟨19800,0,0,ByteArray.empty,⟨#[73,83,84]⟩,untN⟩
def oneS:Zai:=⟨[],[⟨zoA,[Zd1]⟩],[],[]⟩
def Zia:DEra:=⟨0,0,0,ByteArray.empty,⟨#[71,77,84]⟩,⟨true,1950,1,⟨1,0,1⟩,⟨0,0⟩⟩⟩
def Zd0:DEra:=⟨3600,1,3600,ByteArray.empty,⟨#[77,83,84]⟩,untN⟩
def twoS:Zai:=⟨[],[⟨zoA,[Zia,Zd0]⟩],[],[]⟩
def istP:ZaQ:=⟨⟨#[73,83,84]⟩,3600,⟨#[71,77,84]⟩,0,⟨3,0,10,5,7200⟩,⟨3,0,3,3,7200⟩⟩
def ZwN:ZaQ:=⟨⟨#[73,83,84]⟩,19800,ByteArray.empty,0,dt0,dt0⟩
def mstP:ZaQ:=⟨xxxB,3600,⟨#[77,83,84]⟩,7200,⟨2,0,0,0,0⟩,⟨1,365,0,0,90000⟩⟩
theorem Zz9:Zdk ZeC 3600 (-3600)=(⟨3,0,3,3,7200⟩,0):=by decide +kernel
def Zsn:Zab:={ Zma 10 ⟨1,0,31⟩ 7200 0 with at_:=⟨7200,1⟩ }
theorem Zz8:Zdk Zsn 0 3600=(⟨1,304,0,0,10800⟩,0):=by decide +kernel
theorem Zz7:Zdk (Zma 2 ⟨1,0,29⟩ 0 0) 0 0=(dt0,2):=by decide +kernel
theorem Zz6:Zdk (Zma 3 (sunD 9) 0 0) 0 0=(dt0,2):=by decide +kernel
theorem Zz5:Zdk { ZeC with to:=2010 } 0 0=(dt0,2):=by decide +kernel
theorem Zqh:accD Zm4=none:=by decide +kernel
theorem Zs5:accD oneS=none:=by decide +kernel
theorem Zsq:accD twoS=none:=by decide +kernel
theorem Zzn:Zga Zd2 ZjY ZeC=istP:=by decide +kernel
theorem ZAm:Za4 Zd1 0 ByteArray.empty=ZwN:=by decide +kernel
theorem Zsp:Za4 Zd0 3600 ByteArray.empty=mstP:=by decide +kernel
theorem ZtZ:Zch Zm4 [ZfR,Zd2]=1973:=by decide +kernel
theorem Zxt:Zch oneS [Zd1]=1850:=by decide +kernel
theorem Zxp:Zch twoS [Zia,Zd0]=1951:=by decide +kernel
attribute [local irreducible] W RL Does Zau Zak retQ Calls Pu Stp RD Qy Ay Zaj
structure FtE (e:DEra):Prop where
 f:e.format.size<=1000000000
 o : -1000000<=e.off/\e.off<=1000000
structure FtRu (r:Zab):Prop where
 l:r.letter.size<=1000000000
 v : -1000000<=r.save/\r.save<=1000000
theorem Zf5 (e:DEra)(r:Zab)(w:World)(hL:LibW w)(he:FtE e)(hr:FtRu r) :
  Does Tryz.prog 57 [.agg e.enc.toArray,.agg r.enc.toArray] w (fun v O=>v = .string (ZcX e r.save r.letter)/\O=[]):=by
 have h:=fun w' (hw:Bel w.heap.size w w')=>Zfj e.format r.letter e.off r.save w' (hL.up hw) he.f hr.l (by have:=he.o;unfold I64;omega) (by have:=hr.v;unfold I64;omega)
 unfold xpV at h
 have h2:∀ w',Bel w.heap.size w w'->Does Tryz.prog 67 [.string e.format,.int .i64 e.off,.agg #[.int .i64 r.save,.string r.letter]] w' (fun v O=>(∃ er,v = .tuple #[.string (ZcX e r.save r.letter),.int .i64 er])/\O=[]):=fun w' hw =>
  (h w' hw).mono fun v O hv=>⟨⟨_,hv.1⟩,hv.2⟩
 clear h
 generalize ZcX e r.save r.letter=res at *
 obtain⟨nm,fr,to,mo,⟨dk,dw,dd⟩,⟨cs,cb⟩,sv,le⟩:=r
 obtain⟨off,kd,esv,st,fm,⟨ui,uy,um,⟨ud1,ud2,ud3⟩,⟨uc1,uc2⟩⟩⟩:=e
 show Does _ _ [.agg #[.int .i64 off,.int .i64 kd,.int .i64 esv,.string st,.string fm,.bool ui,.int .i64 uy,.int .i64 um,.int .i64 ud1,.int .i64 ud2,.int .i64 ud3,.int .i64 uc1,.int .i64 uc2],.agg #[.string nm,.int .i64 fr,.int .i64 to,.int .i64 mo,.int .i64 dk,.int .i64 dw,.int .i64 dd,.int .i64 cs,.int .i64 cb,.int .i64 sv,.string le]] w _
 refine Zaa Tryz.func57 rfl rfl rfl rfl ?_
 repeat (first|(refine js ?_;(first|(apply Zag (h:=fun w' hw _=>h2 w' hw);rfl;rintro v O' ⟨⟨er,rfl⟩,rfl⟩)|(refine bx ?_;intro bk)))|refine walk ?_)
 exact rtA
theorem Zgq (e:DEra)(r:Zab)(w:World)(hL:LibW w)(he:FtE e)(hr:FtRu r) :
  Does Tryz.prog 22 [.agg e.enc.toArray,.agg r.enc.toArray] w (fun v O=>v = .agg (Za4 e r.save r.letter).enc.toArray/\O=[]):=by
 have ha:=fun w' (hw:Bel w.heap.size w w')=>Zf5 e r w' (hL.up hw) he hr
 have ho:=he.o
 have hv:=hr.v
 unfold Za4
 generalize ZcX e r.save r.letter=res at *
 obtain⟨nm,fr,to,mo,⟨dk,dw,dd⟩,⟨cs,cb⟩,sv,le⟩:=r
 obtain⟨off,kd,esv,st,fm,⟨ui,uy,um,⟨ud1,ud2,ud3⟩,⟨uc1,uc2⟩⟩⟩:=e
 dsimp only at ho hv ⊢
 show Does _ _ [.agg #[.int .i64 off,.int .i64 kd,.int .i64 esv,.string st,.string fm,.bool ui,.int .i64 uy,.int .i64 um,.int .i64 ud1,.int .i64 ud2,.int .i64 ud3,.int .i64 uc1,.int .i64 uc2],.agg #[.string nm,.int .i64 fr,.int .i64 to,.int .i64 mo,.int .i64 dk,.int .i64 dw,.int .i64 dd,.int .i64 cs,.int .i64 cb,.int .i64 sv,.string le]] w _
 refine Zaa Tryz.func22 rfl rfl rfl rfl ?_
 repeat (first|refine walk ?_|(refine jn ?_;(try intro F);(first|(refine bx ?_;intro bk)|(refine stA ?_)|(apply Zae;exact PuA));refine fin ?_)|(apply RD_W;rfl;intro bk))
 refine Zaf rfl (fun hc=>?_) (fun hc=>?_)
 ·obtain rfl:sv=0:=of_decide_eq_true hc
  rw[if_pos rfl]
  repeat (first|refine walk ?_|(refine jg ?_;(try intro F);(first|(refine Zac ha ?_)|(refine bx ?_;intro bk)|(refine stA ?_));refine fin ?_)|(refine jn ?_;(try intro F);(first|(refine bx ?_;intro bk)|(refine stA ?_)|(apply Zae;exact PuA));refine fin ?_)|(apply RD_W;rfl;intro bk))
  exact ret_1 _ [] (.cellB rfl (by repeat' constructor) rfl rfl) .nil ⟨rfl,rfl⟩
 ·rw[if_neg (of_decide_eq_false hc)]
  repeat (first|refine walk ?_|(refine jg ?_;(try intro F);(first|(refine Zac ha ?_)|(refine bx ?_;intro bk)|(refine stA ?_));refine fin ?_)|(refine jn ?_;(try intro F);(first|(refine bx ?_;intro bk)|(refine stA ?_)|(apply Zae;exact PuA));refine fin ?_)|(apply RD_W;rfl;intro bk))
  exact ret_1 _ [] (.cellB rfl (by repeat' constructor) rfl rfl) .nil ⟨rfl,rfl⟩
theorem ZmS (e:DEra)(r q:Zab)(w:World)(hL:LibW w)(hG:Glob w)(hF:FtG w)(he:FtE e)(hr:FtRu r)(hq:FtRu q) :
  Does Tryz.prog 23 [.agg e.enc.toArray,.agg r.enc.toArray,.agg q.enc.toArray] w (fun v O=>v = .agg (Zga e r q).enc.toArray/\O=[]):=by
 have ha:=fun w' (hw:Bel w.heap.size w w')=>Zf5 e q w' (hL.up hw) he hq
 have hb:=fun w' (hw:Bel w.heap.size w w')=>Zf5 e r w' (hL.up hw) he hr
 have hc:=fun w' (hw:Bel w.heap.size w w')=>Zhe r e.off 0 w' (hG.up hw) (hF.up hw)
 have hd:=fun w' (hw:Bel w.heap.size w w')=>Zhe q e.off r.save w' (hG.up hw) (hF.up hw)
 have ho:=he.o
 have hv:=hr.v
 unfold Zga
 unfold Zzq at hc hd
 generalize ZcX e q.save q.letter=res1 at *
 generalize ZcX e r.save r.letter=res2 at *
 generalize Zdk r e.off 0=x1 at *
 generalize Zdk q e.off r.save=x2 at *
 obtain⟨⟨x11,x12,x13,x14,x15⟩,x16⟩:=x1
 obtain⟨⟨x21,x22,x23,x24,x25⟩,x26⟩:=x2
 obtain⟨nm,fr,to,mo,⟨dk,dw,dd⟩,⟨cs,cb⟩,sv,le⟩:=r
 obtain⟨nm2,fr2,to2,mo2,⟨dk2,dw2,dd2⟩,⟨cs2,cb2⟩,sv2,le2⟩:=q
 obtain⟨off,kd,esv,st,fm,⟨ui,uy,um,⟨ud1,ud2,ud3⟩,⟨uc1,uc2⟩⟩⟩:=e
 dsimp only[ZbI.enc]at ho hv hc hd ⊢
 show Does _ _ [.agg #[.int .i64 off,.int .i64 kd,.int .i64 esv,.string st,.string fm,.bool ui,.int .i64 uy,.int .i64 um,.int .i64 ud1,.int .i64 ud2,.int .i64 ud3,.int .i64 uc1,.int .i64 uc2],.agg #[.string nm,.int .i64 fr,.int .i64 to,.int .i64 mo,.int .i64 dk,.int .i64 dw,.int .i64 dd,.int .i64 cs,.int .i64 cb,.int .i64 sv,.string le],.agg #[.string nm2,.int .i64 fr2,.int .i64 to2,.int .i64 mo2,.int .i64 dk2,.int .i64 dw2,.int .i64 dd2,.int .i64 cs2,.int .i64 cb2,.int .i64 sv2,.string le2]] w _
 refine Zaa Tryz.func23 rfl rfl rfl rfl ?_
 repeat (first|refine walk ?_|(refine jg ?_;(try intro F);(first|(refine Zac ha ?_)|(refine Zac hb ?_)|(refine Zac hc ?_)|(refine Zac hd ?_)|(refine bx ?_;intro bk)|(refine stA ?_));refine fin ?_)|(refine jn ?_;(try intro F);(first|(refine bx ?_;intro bk)|(refine stA ?_)|(apply Zae;exact PuA));refine fin ?_)|(apply RD_W;rfl;intro bk))
 exact ret_1 _ [] (.cellB rfl (by repeat' constructor) rfl rfl) .nil ⟨rfl,rfl⟩
theorem ZBC (Ar Az Al As:Option Addr)(cr cz cl cs:Nat)(a:Zai)(p:ZaB)(e:Int)(w:World)(h:ZdG w Ar Az Al As cr cz cl cs a)(hf:accD a=some (p,e)) :
  Does Tryz.prog 54 [srcV Ar Az Al As cr cz cl cs a] w (fun v O=>(∃ p1 p2 p3,v = .tuple #[.agg #[.int .i64 p1,.int .i64 p2,.int .i64 p3],.int .i64 e])/\O=[]):=by
 have:=Zqv Ar Az Al As cr cz cl cs a w h.L h.G h.A h.S h.V h.Z
 rw[hf]at this
 exact this.mono fun v O hv=>⟨⟨p.part,p.index,p.era,hv.1⟩,hv.2⟩
theorem ZAR (Ar Az Al As:Option Addr)(cr cz cl cs:Nat)(a:Zai)(w:World)(h:ZdG w Ar Az Al As cr cz cl cs a)(hf:accD a=none) :
  Does Tryz.prog 54 [srcV Ar Az Al As cr cz cl cs a] w (fun v O=>v = .tuple #[.agg #[.int .i64 0,.int .i64 0,.int .i64 0],.int .i64 0]/\O=[]):=by
 have:=Zqv Ar Az Al As cr cz cl cs a w h.L h.G h.A h.S h.V h.Z
 rwa[hf]at this
theorem ZBa {G:Prop}(h:G:=by(apply ZaS;rfl;rfl;exact b1)):G:=h
theorem ZA9 {G:Prop}(h:G:=by(first|exact ZBa|(apply Zcr;rfl;rfl;exact b2))):G:=h
def ZBL (A:Option Addr)(n c:Nat)(R:List Zab)(v:Value)(O:List It):Prop :=
 ∃ B d,v = .tuple #[.slice A n c,.slice B R.length d,.int .i64 0]/\O=[.row (.slice B R.length d) 82 11 R.length (R.flatMap Zab.enc)]
theorem ZyC {G:Prop}(h:G:=by(first|exact ZA9|(apply Pu_indexAddr;rfl;rfl;omega;omega;first|exact hna|exact hna2)|(apply Pu_loadO1;rfl;exact hca 1 _ rfl)|(apply Pu_loadON;rfl;exact hca2;rfl)|(apply Zaz;rfl;rfl;exact b3))):G:=h
theorem Zlj (Ar Az Al As:Option Addr)(cr cz cl cs:Nat)(a:Zai)(k:Nat)(z:Za5)(A:Option Addr)(c:Nat)(w:World)(h:ZdG w Ar Az Al As cr cz cl cs a)(hf:accD a=none)(hk:a.zones[k]?=some z)
  (hna:Az≠none) (hca:Zal w ((adr Az).add (k*2)) [.string z.name,.slice A z.eras.length c]) (hE:RdSl w A c DEra.enc 13 z.eras) (hne:z.eras≠[]) :
  Does Tryz.prog 18 [srcV Ar Az Al As cr cz cl cs a,.int .i64 k] w (ZBL A z.eras.length c (Za9 a z.eras)):=by
 have ha:=fun w' (hw:Bel w.heap.size w w')=>ZAR Ar Az Al As cr cz cl cs a w' (h.up hw) hf
 have hl:0<z.eras.length:=List.length_pos_iff.2 hne
 have hkl:k<a.zones.length:=(List.getElem?_eq_some_iff.1 hk).1
 have hlz:=h.A.zle
 have hlc:=h.A.zcap
 have hel:=hE.le
 have hec:=hE.cap
 have hnr:=h.S.nr
 obtain⟨e,he⟩:∃ e,z.eras[z.eras.length - 1]?=some e:=⟨_,List.getElem?_eq_getElem (by omega)⟩
 have hle:ZdD z.eras=e:=by
  unfold ZdD
  rw[List.getD_eq_getElem?_getD,he];rfl
 have hof:=fun w' (hw:Bel w.heap.size w w')=>Zfe Ar Az Al As cr cz cl cs a e.set w' (h.A.up hw) hnr
 unfold Za9
 rw[hle]
 obtain⟨hna2,hca2⟩:=hE.rd _ _ he
 rw[show z.eras.length - 1=((z.eras.length:Int) - 1).toNat by omega]at hca2
 clear hle he
 have b1:decide ((k:Int)<0)=false:=decide_eq_false (by omega)
 have b2:decide ((a.zones.length:Int)<=(k:Int))=false:=decide_eq_false (by omega)
 simp only[maxLen]at hlc hec
 obtain⟨off,kd,esv,st,fm,⟨ui,uy,um,⟨ud1,ud2,ud3⟩,⟨uc1,uc2⟩⟩⟩:=e
 change Zal w _ [.int .i64 off,.int .i64 kd,.int .i64 esv,.string st,.string fm,.bool ui,.int .i64 uy,.int .i64 um,.int .i64 ud1,.int .i64 ud2,.int .i64 ud3,.int .i64 uc1,.int .i64 uc2]at hca2
 dsimp only at hof ⊢
 refine Zaa Tryz.func18 rfl rfl rfl rfl ?_
 by_cases hk2:kd=2
 ·have b3:(!decide (kd=2))=false:=by rw[decide_eq_true hk2];rfl
  rw[if_pos hk2]
  repeat (first|(apply RL_pu;rfl;exact ZyC)|(refine js ?_;(first|(refine Zac ha ?_)|(apply Zag (h:=fun w' hw _=>hof w' hw);rfl;rintro v O' ⟨B,d,rfl,rfl⟩)|(refine bx ?_;intro bk)))|refine walk1 ?_)
  exact ZhR _ _ _ [.row (.slice B (ofB a.rules st).length d) 82 11 (ofB a.rules st).length ((ofB a.rules st).flatMap Zab.enc)] (.tmp rfl) (.tmp rfl) (.tmp rfl) SOA ⟨B,d,rfl,rfl⟩
 ·have b3:(!decide (kd=2))=true:=by rw[decide_eq_false hk2];rfl
  rw[if_neg hk2]
  refine ZfA 82 11 ?_
  repeat (first|(apply RL_pu;rfl;exact ZyC)|(refine js ?_;(first|(refine Zac ha ?_)|(refine bx ?_;intro bk)))|refine walk1 ?_)
  exact ZhR _ _ _ [.row (.slice none 0 0) 82 11 0 []] (.tmp rfl) (.tmp rfl) (.tmp rfl) SOA ⟨none,0,rfl,rfl⟩
end Go.Proofs.YtdlmhmmhdbbliaaGreatDoor
namespace Go.Proofs.YtdlmhmmhdbbliaaGreatDoor
open Go Go.RowKit Go.Wk
attribute [local irreducible] W RL Does Zau Zak retQ Calls Pu Stp RD Qy Ay
attribute [local irreducible] Zaj
end Go.Proofs.YtdlmhmmhdbbliaaGreatDoor
namespace Go.Wk
open Go Go.RowKit
section
variable {P:Program}{n:Nat}{wr:World}{fr:Fr}{O:List It}{ty:TypeId}
theorem Zu6 {t t':TypeId}{x:Operand}{ad:Addr}(hu:∃ te,P.underlying t=some (.pointer te))(hx:ev fr x=some (.pointer (some ad))):Pu P n wr fr O (.binOp .neq t x (.const (.pointer none)) t') ty (.bool true):=fun a w hs _ _ _ _=>by
 obtain⟨te,hu⟩:=hu
 have hc:a.eval (.const (.pointer none)) = .pointer none:=rfl
 have h:(binOp .neq t (.pointer (some ad)) (.pointer none)).run P w = .ok (.bool true) w:=by
  have:∀ d,(Op.equalIn (d+1) t (.pointer (some ad)) (.pointer none)).run P w = .ok false w:=fun d=>by
   simp[Op.equalIn,run_underlying hu]
  have hb:binOp .neq t (.pointer (some ad)) (.pointer none)=(do pure (.bool (!(<- Op.equal t (.pointer (some ad)) (.pointer none))))):=rfl
  rw[hb,show Op.equal t (.pointer (some ad)) (.pointer none)=Op.equalIn (9999+1) t (.pointer (some ad)) (.pointer none) from rfl]
  simp only[Sem.run_bind,this 9999,Result.andThen_ok,Sem.run_pure,Bool.not_false]
 have hg:(eqGuard .neq t x (.const (.pointer none)) (.pointer (some ad)) (.pointer none)).run P w = .ok () w:=by
  simp[eqGuard]
 simp only[execOp,hs.sim.ev hx,hc,Sem.run_bind,hg,Result.andThen_ok,h,Sem.run_pure]
end
end Go.Wk
namespace Go.Proofs.YtdlmhmmhdbbliaaGreatDoor
open Go Go.RowKit Go.Wk
attribute [local irreducible] W RL Does Zau Zak retQ Calls Pu Stp RD Qy Ay Zaj
structure YrG where
 k:Nat
 y:Int
theorem Zfa {a:Zai}(h:a.rules.length<=1000000)(l:List DEra):(Za9 a l).length<=1000000:=by
 unfold Za9
 split
 ·exact Nat.le_trans (List.length_filter_le _ _) h
 ·exact Nat.zero_le _
theorem ZqI {G:Prop}(h:G:=by(first|(apply ZaI;rfl;rfl;omega;omega;(intro w' _ hO;exact(Za0 (hO.of (A := .row (.slice B R.length d) 82 11 R.length (R.flatMap Zab.enc)) (by repeat' constructor)) hg1).1))|(apply Zba;rfl;(focus repeat' constructor);exact hgn;rfl)|(apply Zf9;rfl;rfl;first|exact m1|exact m2)|(apply Zaz;rfl;rfl;exact b2))):G:=h
theorem ZkU (Ar Az Al As:Option Addr)(cr cz cl cs:Nat)(a:Zai)(k:Nat)(z:Za5)(w:World)(h:ZdG w Ar Az Al As cr cz cl cs a)(hf:accD a=none)(hk:a.zones[k]?=some z)(hne:z.eras≠[])
  (hb : -1000000000<=Zch a z.eras/\Zch a z.eras<=1000000000) :
  Does Tryz.prog 6 [srcV Ar Az Al As cr cz cl cs a,.int .i64 k] w (fun v O=>v = .tuple #[.int .i64 (Zch a z.eras),.int .i64 0]/\O=[]):=by
 obtain⟨hna,cs1,⟨A,c,hE,rfl⟩,hca⟩:=h.A.z k _ hk
 have hfi:=fun w' (hw:Bel w.heap.size w w')=>Zlj Ar Az Al As cr cz cl cs a k z A c w' (h.up hw) hf hk hna (hca.up hw (Nat.le_refl _)) (hE.up hw) hne
 have hl:0<z.eras.length:=List.length_pos_iff.2 hne
 have hel:=(h.S.zs z (List.mem_of_getElem? hk)).2.1
 have hRl:=Zfa h.S.nr z.eras
 have hy0:yr0 z.eras=if 1<z.eras.length then (z.eras.getD (z.eras.length - 2) dE0).til.year else 1849:=rfl
 unfold Zch at *
 generalize Za9 a z.eras=R at *
 clear h hk hca
 obtain⟨y0,hyy⟩:∃ y0,yr0 z.eras=y0:=⟨_,rfl⟩
 rw[hyy]at hy0 hb ⊢
 obtain⟨res,hres⟩:∃ res,yrR R y0=res:=⟨_,rfl⟩
 rw[hres]at hb ⊢
 refine Zaa Tryz.func6 rfl rfl rfl rfl ?_
 by_cases h1:1<z.eras.length
 ·have b1:decide ((1:Int)<z.eras.length)=true:=decide_eq_true (by omega)
  rw[if_pos h1]at hy0
  obtain⟨e,he⟩:∃ e,z.eras[z.eras.length - 2]?=some e:=⟨_,List.getElem?_eq_getElem (by omega)⟩
  rw[List.getD_eq_getElem?_getD,he]at hy0
  simp only[Option.getD_some]at hy0
  obtain⟨hna2,hca2⟩:=hE.rd _ _ he
  rw[show z.eras.length - 2=((z.eras.length:Int) - 2).toNat by omega]at hca2
  have hu:w.cell? ((((adr A).add (((z.eras.length:Int) - 2).toNat*13)).add 5).add 1)=some (.int .i64 y0):=by
   rw[Za6]
   exact hca2 6 _ (by rw[hy0];rfl)
  clear hca2 he hE hy0
  repeat (first|(apply RL_pu;rfl;(first|(apply ZaC;rfl;rfl;exact b1)|(apply Pu_indexAddr;rfl;rfl;omega;omega;exact hna2)|(apply Pu_loadO1;rfl;exact hu)))|(refine js ?_;(first|(apply Zag (h:=fun w' hw _=>hfi w' hw);rfl;rintro v O' ⟨B,d,rfl,rfl⟩)|(refine bx ?_;intro bk)))|refine walk1 ?_)
  refine Zao [(7,.slice B R.length d),(33,.slice B R.length d),(34,.int .i64 R.length)] [.row (.slice B R.length d) 82 11 R.length (R.flatMap Zab.enc)] (fun g:YrG=>[(35,.int .i64 g.k),(9,.int .i64 g.y)]) (fun _=>[]) (fun g=>g.k<=R.length/\yrR (R.drop g.k) g.y=res) (fun g=>R.length - g.k) ⟨0,y0⟩ SFA SOA ⟨Nat.zero_le _,hres⟩ ?_
  clear hres
  rintro⟨k,y⟩ ⟨hkl,hi⟩
  dsimp only at hkl hi ⊢
  repeat (first|(refine js ?_;(refine bx ?_;intro bk))|refine walk ?_)
  refine Zaf rfl (fun hc=>?_) (fun hc=>?_)
  ·simp only[decide_eq_true_eq,Int.ofNat_lt]at hc
   rw[Zap hc,yrR]at hi
   have hg1:=ZaF Zab.len R k _ 0 _ (List.getElem?_eq_getElem hc) rfl
   have hgn:∀ j v,(Zab.enc R[k])[j]?=some v->(R.flatMap Zab.enc)[k*11+j]?=some v:=fun j v hj=>ZaF Zab.len R k _ j v (List.getElem?_eq_getElem hc) hj
   generalize R[k]=r at *
   obtain⟨nm,fr,to,mo,⟨dk,dw,dd⟩,⟨cs',cb⟩,sv,le⟩:=r
   simp only[Zab.enc]at hgn hg1
   dsimp only at hi
   have m1:(if y<fr then fr else y)=max y fr:=by split <;> omega
   have m2:(if max y fr<to then to else max y fr)=max (max y fr) to:=by split <;> omega
   by_cases hto:to=1048576
   ·have b2:(!decide (to=1048576))=false:=by rw[decide_eq_true hto];rfl
    rw[if_pos hto]at hi
    repeat (first|(apply RL_pu;rfl;exact ZqI)|(refine js ?_;(refine bx ?_;intro bk))|refine walk1 ?_)
    exact⟨⟨k+1,max y fr⟩,OA,⟨OA,hi⟩,SFA,SOA⟩
   ·have b2:(!decide (to=1048576))=true:=by rw[decide_eq_false hto];rfl
    rw[if_neg hto]at hi
    repeat (first|(apply RL_pu;rfl;exact ZqI)|(refine js ?_;(refine bx ?_;intro bk))|refine walk1 ?_)
    exact⟨⟨k+1,max (max y fr) to⟩,OA,⟨OA,hi⟩,SFA,SOA⟩
  ·simp only[decide_eq_false_iff_not,Int.ofNat_lt]at hc
   rw[List.drop_eq_nil_of_le (by omega),yrR]at hi
   subst hi
   repeat (first|(refine js ?_;(refine bx ?_;intro bk))|refine walk ?_)
   exact rtB
 ·have b1:decide ((1:Int)<z.eras.length)=false:=decide_eq_false (by omega)
  rw[if_neg h1]at hy0
  subst hy0
  repeat (first|(apply RL_pu;rfl;(apply ZaC;rfl;rfl;exact b1))|(refine js ?_;(first|(apply Zag (h:=fun w' hw _=>hfi w' hw);rfl;rintro v O' ⟨B,d,rfl,rfl⟩)|(refine bx ?_;intro bk)))|refine walk1 ?_)
  refine Zao [(7,.slice B R.length d),(33,.slice B R.length d),(34,.int .i64 R.length)] [.row (.slice B R.length d) 82 11 R.length (R.flatMap Zab.enc)] (fun g:YrG=>[(35,.int .i64 g.k),(9,.int .i64 g.y)]) (fun _=>[]) (fun g=>g.k<=R.length/\yrR (R.drop g.k) g.y=res) (fun g=>R.length - g.k) ⟨0,1849⟩ SFA SOA ⟨Nat.zero_le _,hres⟩ ?_
  clear hres
  rintro⟨k,y⟩ ⟨hkl,hi⟩
  dsimp only at hkl hi ⊢
  repeat (first|(refine js ?_;(refine bx ?_;intro bk))|refine walk ?_)
  refine Zaf rfl (fun hc=>?_) (fun hc=>?_)
  ·simp only[decide_eq_true_eq,Int.ofNat_lt]at hc
   rw[Zap hc,yrR]at hi
   have hg1:=ZaF Zab.len R k _ 0 _ (List.getElem?_eq_getElem hc) rfl
   have hgn:∀ j v,(Zab.enc R[k])[j]?=some v->(R.flatMap Zab.enc)[k*11+j]?=some v:=fun j v hj=>ZaF Zab.len R k _ j v (List.getElem?_eq_getElem hc) hj
   generalize R[k]=r at *
   obtain⟨nm,fr,to,mo,⟨dk,dw,dd⟩,⟨cs',cb⟩,sv,le⟩:=r
   simp only[Zab.enc]at hgn hg1
   dsimp only at hi
   have m1:(if y<fr then fr else y)=max y fr:=by split <;> omega
   have m2:(if max y fr<to then to else max y fr)=max (max y fr) to:=by split <;> omega
   by_cases hto:to=1048576
   ·have b2:(!decide (to=1048576))=false:=by rw[decide_eq_true hto];rfl
    rw[if_pos hto]at hi
    repeat (first|(apply RL_pu;rfl;exact ZqI)|(refine js ?_;(refine bx ?_;intro bk))|refine walk1 ?_)
    exact⟨⟨k+1,max y fr⟩,OA,⟨OA,hi⟩,SFA,SOA⟩
   ·have b2:(!decide (to=1048576))=true:=by rw[decide_eq_false hto];rfl
    rw[if_neg hto]at hi
    repeat (first|(apply RL_pu;rfl;exact ZqI)|(refine js ?_;(refine bx ?_;intro bk))|refine walk1 ?_)
    exact⟨⟨k+1,max (max y fr) to⟩,OA,⟨OA,hi⟩,SFA,SOA⟩
  ·simp only[decide_eq_false_iff_not,Int.ofNat_lt]at hc
   rw[List.drop_eq_nil_of_le (by omega),yrR]at hi
   subst hi
   repeat (first|(refine js ?_;(refine bx ?_;intro bk))|refine walk ?_)
   exact rtB
def ruS (sv:Int):Zab:=⟨ByteArray.empty,0,0,0,⟨0,0,0⟩,⟨0,0⟩,sv,ByteArray.empty⟩
theorem ZqH {G:Prop}(h:G:=by(first|(apply Pu_indexAddr;rfl;rfl;omega;omega;exact hna2)|(apply Pu_loadON;rfl;exact hca2;rfl)|(apply Zaz;rfl;rfl;exact b3))):G:=h
theorem Zta (Ar Az Al As:Option Addr)(cr cz cl cs:Nat)(a:Zai)(k:Nat)(z:Za5)(e:DEra)(w:World)(h:ZdG w Ar Az Al As cr cz cl cs a)(hf:accD a=none)(hk:a.zones[k]?=some z)(he:z.eras[z.eras.length - 1]?=some e)
  (hkd:e.kind≠2) (hE1:FtE e) (hsv : -1000000<=e.save/\e.save<=1000000) :
  Does Tryz.prog 8 [srcV Ar Az Al As cr cz cl cs a,.int .i64 k] w (fun v O=>v = .tuple #[.agg (Za4 e e.save ByteArray.empty).enc.toArray,.int .i64 0]/\O=[]):=by
 obtain⟨hna,cs1,⟨A,c,hE,rfl⟩,hca⟩:=h.A.z k _ hk
 have hl:0<z.eras.length:=by have:=(List.getElem?_eq_some_iff.1 he).1;omega
 have hfi:=fun w' (hw:Bel w.heap.size w w')=>Zlj Ar Az Al As cr cz cl cs a k z A c w' (h.up hw) hf hk hna (hca.up hw (Nat.le_refl _)) (hE.up hw) (List.length_pos_iff.1 hl)
 have hal:=fun w' (hw:Bel w.heap.size w w')=>Zgq e (ruS e.save) w' (h.L.up hw) hE1 ⟨Nat.zero_le _,hsv⟩
 have hel:=(h.S.zs z (List.mem_of_getElem? hk)).2.1
 have hRl:=Zfa h.S.nr z.eras
 obtain⟨hna2,hca2⟩:=hE.rd _ _ he
 rw[show z.eras.length - 1=((z.eras.length:Int) - 1).toNat by omega]at hca2
 change ∀ w',Bel w.heap.size w w'->Does _ _ _ w' (fun v O=>v = .agg (Za4 e e.save ByteArray.empty).enc.toArray/\O=[]) at hal
 generalize Za4 e e.save ByteArray.empty=p at *
 have b3:(!decide (e.kind=2))=true:=by rw[decide_eq_false hkd];rfl
 generalize Za9 a z.eras=R at *
 clear h hf hk hca he hE hkd hE1 hsv
 obtain⟨off,kd,esv,st,fm,⟨ui,uy,um,⟨ud1,ud2,ud3⟩,⟨uc1,uc2⟩⟩⟩:=e
 obtain⟨p1,p2,p3,p4,⟨p5,p6,p7,p8,p9⟩,⟨q1,q2,q3,q4,q5⟩⟩:=p
 change Zal w _ [.int .i64 off,.int .i64 kd,.int .i64 esv,.string st,.string fm,.bool ui,.int .i64 uy,.int .i64 um,.int .i64 ud1,.int .i64 ud2,.int .i64 ud3,.int .i64 uc1,.int .i64 uc2]at hca2
 change ∀ w',Bel w.heap.size w w'->Does _ _ [.agg #[.int .i64 off,.int .i64 kd,.int .i64 esv,.string st,.string fm,.bool ui,.int .i64 uy,.int .i64 um,.int .i64 ud1,.int .i64 ud2,.int .i64 ud3,.int .i64 uc1,.int .i64 uc2],.agg #[.string ByteArray.empty,.int .i64 0,.int .i64 0,.int .i64 0,.int .i64 0,.int .i64 0,.int .i64 0,.int .i64 0,.int .i64 0,.int .i64 esv,.string ByteArray.empty]] w' (fun v O=>v = .agg #[.string p1,.int .i64 p2,.string p3,.int .i64 p4,.int .i64 p5,.int .i64 p6,.int .i64 p7,.int .i64 p8,.int .i64 p9,.int .i64 q1,.int .i64 q2,.int .i64 q3,.int .i64 q4,.int .i64 q5]/\O=[]) at hal
 dsimp only at b3 ⊢
 refine Zaa Tryz.func8 rfl rfl rfl rfl ?_
 repeat (first|(apply RL_pu;rfl;exact ZqH)|(apply RD_Q;rfl;rfl;decide +kernel;rfl;rfl;exact QyFtO4)|refine walk1 ?_|(refine jg ?_;(try intro F);(first|(apply Zag (h:=fun w' hw _=>hfi w' hw);rfl;rintro v O' ⟨B,d,rfl,rfl⟩)|(refine Zac hal ?_)|(refine bx ?_;intro bk)|(refine stA ?_));first|refine⟨_,EndsA,QFFtO4,?_⟩|refine fin ?_)|(refine jn ?_;(try intro F);(first|(refine bx ?_;intro bk)|(refine stA ?_)|(apply Zae;first|exact ZqH|exact PuA));first|refine⟨_,EndsA,QFFtO4,?_⟩|refine fin ?_)|(apply RD_W;rfl;intro bk))
 exact rtC
structure OfG where
 k:Nat
 s:Option Nat
 e:Option Nat
theorem ZqG {G:Prop}(h:G:=by(first|(apply ZaI;rfl;rfl;omega;omega;(intro w' _ hO;exact(Za0 (hO.of (A := .row (.slice B R.length d) 82 11 R.length (R.flatMap Zab.enc)) (by repeat' constructor)) hg1).1))|(apply Zba;rfl;(focus repeat' constructor);exact hgn;rfl)|(apply Zaz;rfl;rfl;exact b2)|(apply Zaw;rfl;rfl;exact b4))):G:=h
theorem Zyz {G:Prop}(h:G:=by(first|(apply ZaI;rfl;rfl;omega;omega;(intro w' _ hO;exact(Za0 (hO.of (A := .row (.slice B R.length d) 82 11 R.length (R.flatMap Zab.enc)) (by repeat' constructor)) hg1).1))|(apply Zba;rfl;(focus repeat' constructor);exact hgn;rfl)|(apply Zaz;rfl;rfl;exact b2))):G:=h
theorem Zvw {G:Prop}(h:G:=by(first|(apply Zu6;exact⟨_,Tryz.underlying89⟩;rfl)|(apply Pu_nilCheck;rfl)|(apply Zba;rfl;(focus repeat' constructor);exact hgi;exact Zab.len r)|(apply Zba;rfl;(focus repeat' constructor);exact hgj;exact Zab.len q))):G:=h
theorem ZxV {G:Prop}(h:G:=by first|(apply Qy_y;rfl;exact Zvw)|exact QyA):G:=h
theorem Zx7 {G:Prop}(h:G:=by repeat (first|exact QF.nil|(apply QF.mk;rfl;rfl;decide +kernel;exact ZxV))):G:=h
theorem Zxw (Ar Az Al As:Option Addr)(cr cz cl cs:Nat)(a:Zai)(k:Nat)(z:Za5)(e:DEra)(i j:Nat)(r q:Zab)(w:World)(h:ZdG w Ar Az Al As cr cz cl cs a)(hF:FtG w)(hf:accD a=none)(hk:a.zones[k]?=some z)(he:z.eras[z.eras.length - 1]?=some e)
  (hkd:e.kind=2) (hE1:FtE e) (hse:seF (Za9 a z.eras) 0 (none,none)=(some i,some j)) (hri:(Za9 a z.eras)[i]?=some r) (hrj:(Za9 a z.eras)[j]?=some q) (hr:FtRu r) (hq:FtRu q) :
  Does Tryz.prog 8 [srcV Ar Az Al As cr cz cl cs a,.int .i64 k] w (fun v O=>v = .tuple #[.agg (Zga e r q).enc.toArray,.int .i64 0]/\O=[]):=by
 obtain⟨hna,cs1,⟨A,c,hE,rfl⟩,hca⟩:=h.A.z k _ hk
 have hl:0<z.eras.length:=by have:=(List.getElem?_eq_some_iff.1 he).1;omega
 have hfi:=fun w' (hw:Bel w.heap.size w w')=>Zlj Ar Az Al As cr cz cl cs a k z A c w' (h.up hw) hf hk hna (hca.up hw (Nat.le_refl _)) (hE.up hw) (List.length_pos_iff.1 hl)
 have htw:=fun w' (hw:Bel w.heap.size w w')=>ZmS e r q w' (h.L.up hw) (h.G.up hw) (hF.up hw) hE1 hr hq
 have hel:=(h.S.zs z (List.mem_of_getElem? hk)).2.1
 have hRl:=Zfa h.S.nr z.eras
 obtain⟨hna2,hca2⟩:=hE.rd _ _ he
 rw[show z.eras.length - 1=((z.eras.length:Int) - 1).toNat by omega]at hca2
 generalize Zga e r q=p at *
 have b3:(!decide (e.kind=2))=false:=by rw[decide_eq_true hkd];rfl
 generalize Za9 a z.eras=R at *
 have hgi:∀ m v,(Zab.enc r)[m]?=some v->(R.flatMap Zab.enc)[i*11+m]?=some v:=fun m v hm=>ZaF Zab.len R i _ m v hri hm
 have hgj:∀ m v,(Zab.enc q)[m]?=some v->(R.flatMap Zab.enc)[j*11+m]?=some v:=fun m v hm=>ZaF Zab.len R j _ m v hrj hm
 clear h hf hk hca he hE hkd hE1 hri hrj hr hq hF
 obtain⟨off,kd,esv,st,fm,⟨ui,uy,um,⟨ud1,ud2,ud3⟩,⟨uc1,uc2⟩⟩⟩:=e
 obtain⟨p1,p2,p3,p4,⟨p5,p6,p7,p8,p9⟩,⟨q1,q2,q3,q4,q5⟩⟩:=p
 change Zal w _ [.int .i64 off,.int .i64 kd,.int .i64 esv,.string st,.string fm,.bool ui,.int .i64 uy,.int .i64 um,.int .i64 ud1,.int .i64 ud2,.int .i64 ud3,.int .i64 uc1,.int .i64 uc2]at hca2
 change ∀ w',Bel w.heap.size w w'->Does _ _ [.agg #[.int .i64 off,.int .i64 kd,.int .i64 esv,.string st,.string fm,.bool ui,.int .i64 uy,.int .i64 um,.int .i64 ud1,.int .i64 ud2,.int .i64 ud3,.int .i64 uc1,.int .i64 uc2],.agg r.enc.toArray,.agg q.enc.toArray] w' (fun v O=>v = .agg #[.string p1,.int .i64 p2,.string p3,.int .i64 p4,.int .i64 p5,.int .i64 p6,.int .i64 p7,.int .i64 p8,.int .i64 p9,.int .i64 q1,.int .i64 q2,.int .i64 q3,.int .i64 q4,.int .i64 q5]/\O=[]) at htw
 dsimp only at b3 ⊢
 refine Zaa Tryz.func8 rfl rfl rfl rfl ?_
 repeat (first|(apply RL_pu;rfl;exact ZqH)|(apply RD_Q;rfl;rfl;decide +kernel;rfl;rfl;exact QyFtO4)|refine walk1 ?_|(refine jg ?_;(try intro F);(first|(apply Zag (h:=fun w' hw _=>hfi w' hw);rfl;rintro v O' ⟨B,d,rfl,rfl⟩)|(refine bx ?_;intro bk)|(refine stA ?_));first|refine⟨_,EndsA,QFFtO4,?_⟩|refine fin ?_)|(refine jn ?_;(try intro F);(first|(refine bx ?_;intro bk)|(refine stA ?_)|(apply Zae;first|exact ZqH|exact PuA));first|refine⟨_,EndsA,QFFtO4,?_⟩|refine fin ?_)|(apply RD_W;rfl;intro bk))
 rename_i b2 b4
 generalize bk=b9
 refine Zao [(4,.pointer (some ⟨b4,0,none⟩)),(7,.slice B R.length d),(9,.pointer (some ⟨b9,0,none⟩)),(41,.slice B R.length d),(42,.int .i64 R.length)] [.row (.slice B R.length d) 82 11 R.length (R.flatMap Zab.enc),.blk b9 [.int .i64 off,.int .i64 kd,.int .i64 esv,.string st,.string fm,.bool ui,.int .i64 uy,.int .i64 um,.int .i64 ud1,.int .i64 ud2,.int .i64 ud3,.int .i64 uc1,.int .i64 uc2] 75,.blk b4 [.string ByteArray.empty,.int .i64 0,.string ByteArray.empty,.int .i64 0,.int .i64 0,.int .i64 0,.int .i64 0,.int .i64 0,.int .i64 0,.int .i64 0,.int .i64 0,.int .i64 0,.int .i64 0,.int .i64 0] 41]
  (fun g:OfG=>[(43,.int .i64 g.k),(10,.pointer (g.s.map fun i=>(adr B).add (i*11))),(11,.pointer (g.e.map fun i=>(adr B).add (i*11)))]) (fun _=>[]) (fun g=>g.k<=R.length/\seF (R.drop g.k) g.k (g.s,g.e)=(some i,some j)) (fun g=>R.length - g.k) ⟨0,none,none⟩ SFA SOA ⟨Nat.zero_le _,hse⟩ ?_
 clear hse
 rintro⟨k,s,t⟩ ⟨hkl,hi⟩
 dsimp only at hkl hi ⊢
 repeat (first|refine walk ?_|(refine jn ?_;(try intro F);(first|(refine bx ?_;intro bk)|(refine stA ?_)|(apply Zae;exact PuA));refine fin ?_)|(apply RD_W;rfl;intro bk))
 refine Zaf rfl (fun hc=>?_) (fun hc=>?_)
 ·simp only[decide_eq_true_eq,Int.ofNat_lt]at hc
  rw[Zap hc,seF]at hi
  have hg1:=ZaF Zab.len R k _ 0 _ (List.getElem?_eq_getElem hc) rfl
  have hgn:∀ j v,(Zab.enc R[k])[j]?=some v->(R.flatMap Zab.enc)[k*11+j]?=some v:=fun j v hj=>ZaF Zab.len R k _ j v (List.getElem?_eq_getElem hc) hj
  generalize R[k]=r1 at *
  obtain⟨nm,fr,to,mo,⟨dk,dw,dd⟩,⟨cs',cb⟩,sv,le⟩:=r1
  simp only[Zab.enc]at hgn hg1
  dsimp only at hi
  by_cases hto:to=1048576
  ·have b2:(!decide (to=1048576))=false:=by rw[decide_eq_true hto];rfl
   rw[if_pos hto]at hi
   by_cases hsv:sv=0
   ·have b4:decide (sv=0)=true:=decide_eq_true hsv
    rw[if_pos hsv]at hi
    repeat (first|(apply RL_pu;rfl;exact ZqG)|(apply RD_Q;rfl;rfl;decide +kernel;rfl;rfl;exact QyFtO5)|refine walk1 ?_|(refine jn ?_;(try intro F);(first|(refine bx ?_;intro bk)|(refine stA ?_)|(apply Zae;first|exact ZqG|exact PuA));first|refine⟨_,EndsA,QFFtO5,?_⟩|refine fin ?_)|(apply RD_W;rfl;intro bk))
    exact⟨⟨k+1,s,some k⟩,OA,⟨OA,hi⟩,SFA,SOA⟩
   ·have b4:decide (sv=0)=false:=decide_eq_false hsv
    rw[if_neg hsv]at hi
    repeat (first|(apply RL_pu;rfl;exact ZqG)|(apply RD_Q;rfl;rfl;decide +kernel;rfl;rfl;exact QyFtO5)|refine walk1 ?_|(refine jn ?_;(try intro F);(first|(refine bx ?_;intro bk)|(refine stA ?_)|(apply Zae;first|exact ZqG|exact PuA));first|refine⟨_,EndsA,QFFtO5,?_⟩|refine fin ?_)|(apply RD_W;rfl;intro bk))
    exact⟨⟨k+1,some k,t⟩,OA,⟨OA,hi⟩,SFA,SOA⟩
  ·have b2:(!decide (to=1048576))=true:=by rw[decide_eq_false hto];rfl
   rw[if_neg hto]at hi
   repeat (first|(apply RL_pu;rfl;exact Zyz)|(apply RD_Q;rfl;rfl;decide +kernel;rfl;rfl;exact QyFtO6)|refine walk1 ?_|(refine jn ?_;(try intro F);(first|(refine bx ?_;intro bk)|(refine stA ?_)|(apply Zae;first|exact Zyz|exact PuA));first|refine⟨_,EndsA,QFFtO6,?_⟩|refine fin ?_)|(apply RD_W;rfl;intro bk))
   exact⟨⟨k+1,s,t⟩,OA,⟨OA,hi⟩,SFA,SOA⟩
 ·simp only[decide_eq_false_iff_not,Int.ofNat_lt]at hc
  rw[List.drop_eq_nil_of_le (by omega),seF]at hi
  obtain⟨rfl,rfl⟩:=Prod.mk.inj hi
  simp only[Option.map_some]
  repeat (first|(apply RL_pu;rfl;exact Zvw)|(apply RD_Q;rfl;rfl;decide +kernel;rfl;rfl;exact ZxV)|refine walk1 ?_|(refine jg ?_;(try intro F);(first|(refine Zac htw ?_)|(refine bx ?_;intro bk)|(refine stA ?_));first|refine⟨_,EndsA,Zx7,?_⟩|refine fin ?_)|(refine jn ?_;(try intro F);(first|(refine bx ?_;intro bk)|(refine stA ?_)|(apply Zae;first|exact Zvw|exact PuA));first|refine⟨_,EndsA,Zx7,?_⟩|refine fin ?_)|(apply RD_W;rfl;intro bk))
  exact rtC
end Go.Proofs.YtdlmhmmhdbbliaaGreatDoor
