/- Parts of the proof. -/
import Derived.Test.YtdlmhmmhdbbliaaGreatDoorV32
import Derived.Test.YtdlmhmmhdbbliaaGreatDoorV19
import Derived.Test.YtdlmhmmhdbbliaaGreatDoorV08
import Derived.Test.YtdlmhmmhdbbliaaGreatDoorV09
import Derived.Test.YtdlmhmmhdbbliaaGreatDoorV22
set_option maxHeartbeats 4000000
set_option linter.unusedVariables false
set_option linter.unusedSimpArgs false
namespace Go.Proofs.YtdlmhmmhdbbliaaGreatDoor
open Go Go.RowKit Go.Wk
attribute [local irreducible] W RL Does Zau Zak retQ Calls Pu Stp RD Qy Ay Zaj
theorem ZsM {l:List Zab}(h:RsSm l)(e:Zad) : -1000000000<=(ruE l e).save/\(ruE l e).save<=1000000000:=by
 unfold ruE
 rw[List.getD_eq_getElem?_getD]
 cases hx:l[e.rule.toNat]? with
 | none=>exact⟨by decide,by decide⟩
 | some r=>exact h.s r (List.mem_of_getElem? hx)
theorem Zzg {l:List Zab}(h:RsSm l) : -1000000000<=(iniS l).1/\(iniS l).1<=1000000000:=by
 unfold iniS
 cases fstD l true 0 with
 | none =>
  dsimp only
  exact⟨by decide,by decide⟩
 | some e =>
  dsimp only
  cases fstD l false (ruE l e).save with
  | none=>exact ZsM h e
  | some o=>exact ZsM h o
theorem Zzx {l:List Zab}(h:RsSm l)(n:Int) : -1000000000<=(befS l n).1/\(befS l n).1<=1000000000:=by
 unfold befS
 cases befD l n with
 | none=>exact Zzg h
 | some e=>exact ZsM h e
theorem Zyh {G:Prop}(h:G:=by(apply Zaw;rfl;rfl;first|exact q0|exact q1)):G:=h
set_option maxHeartbeats 4000000 in
theorem ZtF (A:Option Addr)(c:Nat)(l:List Zab)(e:Zad)(off:Int)(w:World)(hG:Glob w)(hA:RdSl w A c Zab.enc 11 l)(h:RsSm l)(he:0<=e.rule/\e.rule<l.length)(hnm : -1000000000000000000<=e.nominal/\e.nominal<=1000000000000000000)(ho : -1000000000<=off/\off<=1000000000) :
  Does Tryz.prog 291 [.slice A l.length c,.agg e.enc.toArray,.int .i64 off] w (fun v O=>v = .int .i64 (ZcF l e off)/\O=[]):=by
 have hle:=hA.le
 have hcp:=hA.cap
 simp only[maxLen]at hcp
 obtain⟨ru,hru⟩:∃ ru,l[e.rule.toNat]?=some ru:=⟨_,List.getElem?_eq_getElem (by omega)⟩
 obtain⟨hna,hca⟩:=hA.rd _ _ hru
 have hba:=fun w' (hw:Bel w.heap.size w w')=>ZoW A c l w' (hA.up hw)
 have hbf:=fun w' (hw:Bel w.heap.size w w')=>Zd3 A c l e.nominal w' (hG.up hw) (hA.up hw) h (by omega)
 have hbd:=Zzx h e.nominal
 have hld:=ZeQ l h.r
 have hld2 : -1000000000<=max (Zah l) (-10800)/\max (Zah l) (-10800)<=0:=by omega
 unfold ZcF
 rw[ZpP hru]
 obtain⟨ey,er,en⟩:=e
 dsimp only at he hnm hru hca hbf hbd ⊢
 have b1:decide (er<0)=false:=decide_eq_false (by omega)
 have b2:decide ((l.length:Int)<=er)=false:=decide_eq_false (by omega)
 have hcb:w.cell? ((((adr A).add (er.toNat*11)).add 7).add 1)=some (.int .i64 ru.at_.base):=by
  rw[Za6]
  exact hca 8 _ rfl
 clear hru hca
 generalize ru.at_.base=rb at *
 generalize max (Zah l) (-10800)=mb at *
 unfold stV at hbf
 generalize befS l en=st at *
 obtain⟨sv,sl⟩:=st
 dsimp only at hbd hbf ⊢
 show Does _ _ [_,.agg #[.int .i64 ey,.int .i64 er,.int .i64 en],_] w _
 refine Zaa Tryz.func291 rfl rfl rfl rfl ?_
 repeat (first|refine und ?_|(apply RL_pu;rfl;(first|(apply ZaS;rfl;rfl;exact b1)|(apply Zcr;rfl;rfl;exact b2)|exact PuI|(apply Pu_loadO1;rfl;exact hcb)))|(refine js ?_;(refine bx ?_;intro bk))|refine walk1 ?_)
 rename_i b4 b7
 generalize bk=b8
 refine Zaf rfl (fun hc=>?_) (fun hc=>?_)
 ·obtain rfl:rb=1:=of_decide_eq_true hc
  rw[if_pos rfl]
  obtain⟨x1,hx1⟩:∃ x1,mb=x1:=⟨_,rfl⟩
  rw[hx1]at hba hld2 ⊢
  repeat (first|(refine js ?_;(first|(refine Zac hba ?_)|(apply ZbG (f:=292) (us:=[]) (vs:=[.int .i64 x1]) (cs:=[.pointer (some ⟨b7,0,none⟩),.pointer (some ⟨b8,0,none⟩)]) (h:=Zfi (.blk b4 [.int .i64 ey,.int .i64 er,.int .i64 en] 92) x1 en b7 b8 w (by omega) (by omega));rfl;rfl;exact SOA;rintro v O' ⟨rfl,rfl⟩)|(apply ZbG (f:=292) (us:=[]) (vs:=[.int .i64 off]) (cs:=[.pointer (some ⟨b7,0,none⟩),.pointer (some ⟨b8,0,none⟩)]) (h:=Zfi (.blk b4 [.int .i64 ey,.int .i64 er,.int .i64 en] 92) off (en - x1) b7 b8 w (by omega) (by omega));rfl;rfl;exact SOA;rintro v O' ⟨rfl,rfl⟩)|(refine bx ?_;intro bk)))|refine walk ?_)
  exact rtA
 ·have hn1:¬ rb=1:=of_decide_eq_false hc
  have q1:decide (rb=1)=false:=decide_eq_false hn1
  rw[if_neg hn1]
  by_cases h0:rb=0
  ·have q0:decide (rb=0)=true:=decide_eq_true h0
   rw[if_pos h0]
   obtain⟨x1,hx1⟩:∃ x1,sv=x1:=⟨_,rfl⟩
   rw[hx1]at hbf hbd ⊢
   repeat (first|(apply RL_pu;rfl;exact Zyh)|(refine js ?_;(first|(refine Zac hbf ?_)|(apply ZbG (f:=292) (us:=[]) (vs:=[.int .i64 x1]) (cs:=[.pointer (some ⟨b7,0,none⟩),.pointer (some ⟨b8,0,none⟩)]) (h:=Zfi (.blk b4 [.int .i64 ey,.int .i64 er,.int .i64 en] 92) x1 en b7 b8 w (by omega) (by omega));rfl;rfl;exact SOA;rintro v O' ⟨rfl,rfl⟩)|(apply ZbG (f:=292) (us:=[]) (vs:=[.int .i64 off]) (cs:=[.pointer (some ⟨b7,0,none⟩),.pointer (some ⟨b8,0,none⟩)]) (h:=Zfi (.blk b4 [.int .i64 ey,.int .i64 er,.int .i64 en] 92) off (en - x1) b7 b8 w (by omega) (by omega));rfl;rfl;exact SOA;rintro v O' ⟨rfl,rfl⟩)|(refine bx ?_;intro bk)))|refine walk1 ?_)
   exact rtA
  ·have q0:decide (rb=0)=false:=decide_eq_false h0
   rw[if_neg h0]
   repeat (first|(apply RL_pu;rfl;exact Zyh)|(refine js ?_;(refine bx ?_;intro bk))|refine walk1 ?_)
   exact rtA
end Go.Proofs.YtdlmhmmhdbbliaaGreatDoor
namespace Go.Wk
open Go Go.RowKit
def atGo (l:List Zab)(off t:Int):Nat->Int->Int × ByteArray
 | 0,nm=>befS l nm
 | k+1,nm=>match befD l nm with
  | none=>iniS l
  | some e=>if ZcF l e off<=t then behS l e else atGo l off t k e.nominal
def atS (l:List Zab)(off t:Int):Int × ByteArray:=atGo l off t 3 (t+259200)
end Go.Wk
namespace Go.Proofs.YtdlmhmmhdbbliaaGreatDoor
open Go Go.RowKit Go.Wk
attribute [local irreducible] W RL Does Zau Zak retQ Calls Pu Stp RD Qy Ay Zaj
theorem ZoV (least nominal:Int)(hl:least<=0)(r:Zab)(i:Int):∀ (k:Nat) (y:Int),EvOk (beIn least nominal r i y k)
 | 0,_=>fun e he=>by cases he
 | k+1,y=>by
  rw[beIn]
  have h:=Zs6 least hl r i y
  split
  ·rename_i e he
   split
   ·intro e2 h2;cases h2;exact h e he
   ·exact ZoV least nominal hl r i k (y - 1)
  ·exact ZoV least nominal hl r i k (y - 1)
theorem Zqt (least nominal yr:Int)(hl:least<=0):∀ (l:List Zab) (i:Nat) (b:Option Zad),EvOk b->EvOk (Zem least nominal yr l i b)
 | [],_,_,h=>h
 | r::l,i,b,h=>by
  rw[Zem]
  refine Zqt least nominal yr hl l (i+1) _ ?_
  have he:=ZoV least nominal hl r i 20 (min (lastY r) (yr+2))
  generalize beIn least nominal r i (min (lastY r) (yr+2)) 20=o at *
  cases o with
  | none=>exact h
  | some e =>
   cases b with
   | none=>exact he
   | some x =>
    dsimp only
    split
    ·exact he
    ·exact h
theorem Zzy {l:List Zab}(h:RsSm l)(n:Int):EvOk (befD l n):=Zqt _ _ _ (ZeQ l h.r).2 l 0 none fun e he=>by cases he
structure AtG where
 k:Nat
 nm:Int
theorem Zyg {G:Prop}(h:G:=by(apply Zcg;rfl;rfl;exact q1)):G:=h
set_option maxHeartbeats 4000000 in
theorem Zsz (A:Option Addr)(c:Nat)(l:List Zab)(off t:Int)(w:World)(hG:Glob w)(hA:RdSl w A c Zab.enc 11 l)(h:RsSm l)(ho : -1000000000<=off/\off<=1000000000)(ht : -1000000000000000000<=t/\t<=1000000000000000000) :
  Does Tryz.prog 290 [.slice A l.length c,.int .i64 off,.int .i64 t] w (fun v O=>v=stV (atS l off t)/\O=[]):=by
 have hadd:=fun w'=>Zw9 t 259200 (by omega) w'
 have hbf:=fun nm (hb : -4611686018427387904<=nm/\nm<=4611686018427387904) w' (hw:Bel w.heap.size w w')=>Zeg A c l nm w' (hG.up hw) (hA.up hw) h.n h.b hb
 have hib:=fun w' (hw:Bel w.heap.size w w')=>ZhJ A c l w' (hG.up hw) (hA.up hw) h
 have hst:=fun nm (hb : -4611686018427387904<=nm/\nm<=4611686018427387904) w' (hw:Bel w.heap.size w w')=>Zd3 A c l nm w' (hG.up hw) (hA.up hw) h hb
 obtain⟨res,hres⟩:∃ res,atS l off t=res:=⟨_,rfl⟩
 rw[hres]
 unfold atS at hres
 unfold stV at hib hst ⊢
 refine Zaa Tryz.func290 rfl rfl rfl rfl ?_
 repeat (first|(refine js ?_;(first|(refine Zac (fun w' _=>hadd w') ?_)|(refine bx ?_;intro bk)))|refine walk ?_)
 generalize bk=b6
 refine Zao [(0,.slice A l.length c),(1,.int .i64 off),(2,.int .i64 t),(6,.pointer (some ⟨b6,0,none⟩))] [.blk b6 [.int .i64 0,.string ByteArray.empty] 151] (fun g:AtG=>[(18,.int .i64 g.k),(7,.int .i64 g.nm)]) (fun _=>[]) (fun g=>g.k<=3/\(-4611686018427387904<=g.nm/\g.nm<=4611686018427387904)/\atGo l off t (3 - g.k) g.nm=res) (fun g=>3 - g.k) ⟨0,t+259200⟩ SFA SOA ⟨Nat.zero_le _,by dsimp only;omega,hres⟩ ?_
 clear hres
 rintro⟨k,nm⟩ ⟨hk,hnb,hi⟩
 dsimp only at hk hnb hi ⊢
 repeat (first|(refine js ?_;(refine bx ?_;intro bk))|refine walk ?_)
 refine Zaf rfl (fun hc=>?_) (fun hc=>?_)
 ·have hk3:k<3:=by have:=of_decide_eq_true hc;omega
  have hb1:=hbf nm hnb
  have hat:=Zuq l nm
  have hbd:=Zzy h nm
  rw[show 3 - k=(2 - k)+1 by omega,atGo]at hi
  generalize befD l nm=o at *
  rcases o with _|⟨ey,er,en⟩
  ·dsimp only at hi
   subst hi
   simp only[evV,Zad.enc,dEv0,Option.isSome]at hb1
   repeat (first|(refine js ?_;(first|(refine Zac hb1 ?_)|(refine Zac hib ?_)|(refine bx ?_;intro bk)))|refine walk ?_)
   exact ret_1 _ [] (.cellB rfl (by repeat' constructor) rfl rfl) .nil ⟨rfl,rfl⟩
  ·dsimp only at hi
   have hen:=hbd _ rfl
   dsimp only at hen
   simp only[evV,Zad.enc,Option.isSome]at hb1
   have hins:=fun w' (hw:Bel w.heap.size w w')=>ZtF A c l ⟨ey,er,en⟩ off w' (hG.up hw) (hA.up hw) h (hat _ rfl) (by dsimp only;omega) ho
   have hbh:=fun w' (hw:Bel w.heap.size w w')=>ZcV A c l ⟨ey,er,en⟩ w' (hA.up hw) (hat _ rfl)
   unfold stV at hbh
   generalize ZcF l ⟨ey,er,en⟩ off=I at *
   by_cases hle:I<=t
   ·have q1:decide (I<=t)=true:=decide_eq_true hle
    rw[if_pos hle]at hi
    subst hi
    repeat (first|(apply RL_pu;rfl;exact Zyg)|(refine js ?_;(first|(refine Zac hb1 ?_)|(refine Zac hins ?_)|(refine Zac hbh ?_)|(refine bx ?_;intro bk)))|refine walk1 ?_)
    exact ret_1 _ [] (.cellB rfl (by repeat' constructor) rfl rfl) .nil ⟨rfl,rfl⟩
   ·have q1:decide (I<=t)=false:=decide_eq_false hle
    rw[if_neg hle]at hi
    repeat (first|(apply RL_pu;rfl;exact Zyg)|(refine js ?_;(first|(refine Zac hb1 ?_)|(refine Zac hins ?_)|(refine bx ?_;intro bk)))|refine walk1 ?_)
    exact⟨⟨k+1,en⟩,OA,⟨OA,by dsimp only;omega,by dsimp only;rw[show 3 - (k+1)=2 - k by omega];exact hi⟩,SFA,SOA⟩
 ·obtain rfl:k=3:=by have:=of_decide_eq_false hc;omega
  have hs:=hst nm hnb
  rw[show atGo l off t (3 - 3) nm=befS l nm from rfl]at hi
  subst hi
  repeat (first|(refine js ?_;(first|(refine Zac hs ?_)|(refine bx ?_;intro bk)))|refine walk ?_)
  exact ret_1 _ [] (.cellB rfl (by repeat' constructor) rfl rfl) .nil ⟨rfl,rfl⟩
end Go.Proofs.YtdlmhmmhdbbliaaGreatDoor
namespace Go.Wk
open Go Go.RowKit
def bsE (e:DEra)(l:List Zab):Int:=if e.kind=2 then max (Zah l) (-10800) else 0
def bfE (e:DEra)(l:List Zab)(nm:Int):Int:=if e.kind=1 then e.save else if e.kind=2 then (befS l nm).1 else 0
def endB (e:DEra)(l:List Zab):Int:=bfE e l (ZaH e.til (bsE e l)).1
def endT (e:DEra)(l:List Zab):Int :=
 if e.til.at_.base=0 then 86400*(onD e.til.year e.til.month e.til.day).1+e.til.at_.sec - endB e l - e.off
 else if e.til.at_.base=1 then 86400*(onD e.til.year e.til.month e.til.day).1+e.til.at_.sec - e.off
 else 86400*(onD e.til.year e.til.month e.til.day).1+e.til.at_.sec
structure UnOk (e:DEra)(l:List Zab):Prop where
 k:0<=e.kind/\e.kind<=2
 o:Zbv e.off=true
 s:Zbv e.save=true
 c:ZaW e.til (bsE e l)=0
 b:Zbv (endB e l)=true
end Go.Wk
namespace Go.Proofs.YtdlmhmmhdbbliaaGreatDoor
open Go Go.RowKit Go.Wk
attribute [local irreducible] W RL Does Zau Zak retQ Calls Pu Stp RD Qy Ay Zaj
theorem Zqb {n:Int}(h:Zbv n=true) : -604799<=n/\n<=604799:=by
 unfold Zbv at h
 simpa using h
theorem Zyb {G:Prop}(h:G:=by(first|(apply Zeo;rfl;(constructor <;> omega))|(apply Zcr;rfl;rfl;exact b1))):G:=h
theorem ZeD (n:Int)(w:World):Does Tryz.prog 148 [.int .i64 n,.int .i64 604799] w (fun v O=>v = .bool (Zbv n)/\O=[]):=by
 unfold Zbv
 refine Zaa Tryz.func148 rfl rfl rfl rfl ?_
 by_cases h : -604799<=n
 ·have b1:decide (-604799<=n)=true:=decide_eq_true h
  rw[b1,Bool.true_and]
  repeat (first|refine und ?_|(apply RL_pu;rfl;exact Zyb)|refine walk1 ?_)
  exact rtA
 ·have b1:decide (-604799<=n)=false:=decide_eq_false h
  rw[b1,Bool.false_and]
  repeat (first|refine und ?_|(apply RL_pu;rfl;exact Zyb)|refine walk1 ?_)
  exact rtA
theorem ZqV (e:DEra)(A:Option Addr)(c:Nat)(l:List Zab)(w:World)(hA:RdSl w A c Zab.enc 11 l):Does Tryz.prog 150 [.agg e.enc.toArray,.slice A l.length c] w (fun v O=>v = .int .i64 (Go.Wk.bsE e l)/\O=[]):=by
 have hl:=fun w' (hw:Bel w.heap.size w w')=>Zc1 A c l w' (hA.up hw)
 unfold Go.Wk.bsE
 generalize Zah l=m at *
 have hmx:(if m < -10800 then -10800 else m)=max m (-10800):=by split <;> omega
 obtain⟨off,kd,esv,st,fm,⟨ui,uy,um,⟨ud1,ud2,ud3⟩,⟨uc1,uc2⟩⟩⟩:=e
 dsimp only
 show Does _ _ [.agg #[.int .i64 off,.int .i64 kd,.int .i64 esv,.string st,.string fm,.bool ui,.int .i64 uy,.int .i64 um,.int .i64 ud1,.int .i64 ud2,.int .i64 ud3,.int .i64 uc1,.int .i64 uc2],_] w _
 refine Zaa Tryz.func150 rfl rfl rfl rfl ?_
 by_cases h:kd=2
 ·have b1:(!decide (kd=2))=false:=by rw[decide_eq_true h];rfl
  rw[if_pos h]
  repeat (first|(apply RL_pu;rfl;(first|(apply Zaz;rfl;rfl;exact b1)|(apply Zf9;rfl;rfl;exact hmx)))|(refine js ?_;(first|(refine Zac hl ?_)|(refine bx ?_;intro bk)))|refine walk1 ?_)
  exact rtA
 ·have b1:(!decide (kd=2))=true:=by rw[decide_eq_false h];rfl
  rw[if_neg h]
  repeat (first|(apply RL_pu;rfl;(apply Zaz;rfl;rfl;exact b1))|(refine js ?_;(refine bx ?_;intro bk))|refine walk1 ?_)
  exact rtA
theorem Zya {G:Prop}(h:G:=by(apply Zaw;rfl;rfl;first|exact b1|exact b2)):G:=h
theorem ZqT (e:DEra)(A:Option Addr)(c:Nat)(l:List Zab)(nm:Int)(w:World)(hG:Glob w)(hA:RdSl w A c Zab.enc 11 l)(h:RsSm l)(hn : -4611686018427387904<=nm/\nm<=4611686018427387904) :
  Does Tryz.prog 151 [.agg e.enc.toArray,.slice A l.length c,.int .i64 nm] w (fun v O=>v = .int .i64 (bfE e l nm)/\O=[]):=by
 have hb:=fun w' (hw:Bel w.heap.size w w')=>Zd3 A c l nm w' (hG.up hw) (hA.up hw) h hn
 unfold bfE
 unfold stV at hb
 generalize befS l nm=x at *
 obtain⟨sv,sl⟩:=x
 obtain⟨off,kd,esv,st,fm,⟨ui,uy,um,⟨ud1,ud2,ud3⟩,⟨uc1,uc2⟩⟩⟩:=e
 dsimp only at hb ⊢
 show Does _ _ [.agg #[.int .i64 off,.int .i64 kd,.int .i64 esv,.string st,.string fm,.bool ui,.int .i64 uy,.int .i64 um,.int .i64 ud1,.int .i64 ud2,.int .i64 ud3,.int .i64 uc1,.int .i64 uc2],_,_] w _
 refine Zaa Tryz.func151 rfl rfl rfl rfl ?_
 by_cases h1:kd=1
 ·have b1:decide (kd=1)=true:=decide_eq_true h1
  rw[if_pos h1]
  repeat (first|(apply RL_pu;rfl;(apply Zaw;rfl;rfl;exact b1))|(refine js ?_;(refine bx ?_;intro bk))|refine walk1 ?_)
  exact rtA
 ·have b1:decide (kd=1)=false:=decide_eq_false h1
  rw[if_neg h1]
  by_cases h2:kd=2
  ·have b2:decide (kd=2)=true:=decide_eq_true h2
   rw[if_pos h2]
   repeat (first|(apply RL_pu;rfl;exact Zya)|(refine js ?_;(first|(refine Zac hb ?_)|(refine bx ?_;intro bk)))|refine walk1 ?_)
   exact rtA
  ·have b2:decide (kd=2)=false:=decide_eq_false h2
   rw[if_neg h2]
   repeat (first|(apply RL_pu;rfl;exact Zya)|(refine js ?_;(refine bx ?_;intro bk))|refine walk1 ?_)
   exact rtA
theorem Zva {G:Prop}(h:G:=by(first|(apply ZaS;rfl;rfl;exact t1)|(apply ZaC;rfl;rfl;exact t2)|(apply Zaw;rfl;rfl;first|exact k1|exact u0|exact u1))):G:=h
theorem ZxM {G:Prop}(h:G:=by first|(apply Qy_y;rfl;exact Zva)|exact QyA):G:=h
theorem Zdy {G:Prop}(h:G:=by repeat (first|exact QF.nil|(apply QF.mk;rfl;rfl;decide +kernel;exact ZxM))):G:=h
theorem ZjX {G G':Prop}(k:G')(h:Hold G'->G:=by intro k9;(first|refine und ?_|(apply RL_pu;rfl;exact Zva)|(apply RD_Q;rfl;rfl;decide +kernel;rfl;rfl;exact ZxM)|refine walk1 ?_|(refine jg ?_;(try intro F);(first|(refine Zac (fun w' _=>w1 w') ?_)|(refine Zac (fun w' _=>w2 w') ?_)|(refine Zac (fun w' _=>w3 w') ?_)|(refine Zac hb ?_)|(refine Zac hn ?_)|(refine Zac hs ?_)|(refine Zac hc ?_));first|refine⟨_,EndsA,Zdy,?_⟩|refine fin ?_)|(refine jn ?_;(try intro F);(apply Zae;first|exact Zva|exact PuA);first|refine⟨_,EndsA,Zdy,?_⟩|refine fin ?_));exact k9.out):G:=h ⟨k⟩
set_option maxHeartbeats 4000000 in
theorem ZqU (e:DEra)(A:Option Addr)(c:Nat)(l:List Zab)(w:World)(hG:Glob w)(hA:RdSl w A c Zab.enc 11 l)(h:RsSm l)(hu:UnOk e l) :
  Does Tryz.prog 97 [.agg e.enc.toArray,.slice A l.length c] w (fun v O=>v = .tuple #[.int .i64 (endT e l),.int .i64 0]/\O=[]):=by
 have w1:=fun w'=>ZeD e.off w'
 have w2:=fun w'=>ZeD e.save w'
 have w3:=fun w'=>ZeD (endB e l) w'
 rw[hu.o]at w1
 rw[hu.s]at w2
 rw[hu.b]at w3
 have ho:=Zqb hu.o
 have hbb:=Zqb hu.b
 obtain⟨_,hcl⟩:=ZfS hu.c
 have hb:=fun w' (hw:Bel w.heap.size w w')=>ZqV e A c l w' (hA.up hw)
 have hn:=fun w' (hw:Bel w.heap.size w w')=>ZeI e.til (Go.Wk.bsE e l) w' (hG.up hw)
 have hn2:(ZaH e.til (Go.Wk.bsE e l)).2=0:=by
  unfold ZaH
  rw[if_neg (by rw[hu.c];decide)]
 have hnb : -4611686018427387904<=(ZaH e.til (Go.Wk.bsE e l)).1/\(ZaH e.til (Go.Wk.bsE e l)).1<=4611686018427387904:=by
  have h1:=ZhC e.til.year e.til.month e.til.day
  have h2:=(ZfS hu.c).1
  unfold ZaH
  rw[if_neg (by rw[hu.c];decide)]
  dsimp only
  split <;> omega
 have hs:=fun w' (hw:Bel w.heap.size w w')=>ZqT e A c l (ZaH e.til (Go.Wk.bsE e l)).1 w' (hG.up hw) (hA.up hw) h hnb
 have hc:=fun w' (hw:Bel w.heap.size w w')=>ZhB e.til hcl w' (hG.up hw)
 have hob:=ZhC e.til.year e.til.month e.til.day
 have hk:=hu.k
 rw[hn2]at hn
 change ∀ w',Bel w.heap.size w w'->Does _ _ _ w' (fun v O=>v = .int .i64 (endB e l)/\O=[]) at hs
 unfold endT
 generalize endB e l=bf at *
 generalize (ZaH e.til (Go.Wk.bsE e l)).1=nm at *
 generalize Go.Wk.bsE e l=bs at *
 generalize (onD e.til.year e.til.month e.til.day).1=dn at *
 clear hu hG hA h hn2 hnb
 obtain⟨off,kd,esv,st,fm,⟨ui,uy,um,⟨ud1,ud2,ud3⟩,⟨uc1,uc2⟩⟩⟩:=e
 dsimp only at ho hcl hk w1 w2 hc ⊢
 have t1:decide (kd<0)=false:=decide_eq_false (by omega)
 have t2:decide (2<kd)=false:=decide_eq_false (by omega)
 show Does _ _ [.agg #[.int .i64 off,.int .i64 kd,.int .i64 esv,.string st,.string fm,.bool ui,.int .i64 uy,.int .i64 um,.int .i64 ud1,.int .i64 ud2,.int .i64 ud3,.int .i64 uc1,.int .i64 uc2],_] w _
 by_cases h0:uc2=0
 ·have u0:decide (uc2=0)=true:=decide_eq_true h0
  rw[if_pos h0]
  by_cases h1:kd=1
  ·have k1:decide (kd=1)=true:=decide_eq_true h1
   refine Zaa Tryz.func97 rfl rfl rfl rfl ?_
   repeat (first|refine ZjX ?_|(refine jg ?_;(try intro F);(refine bx ?_;intro bk);first|refine⟨_,EndsA,Zdy,?_⟩|refine fin ?_)|(refine jn ?_;(try intro F);(refine bx ?_;intro bk);first|refine⟨_,EndsA,Zdy,?_⟩|refine fin ?_))
   exact rtB
  ·have k1:decide (kd=1)=false:=decide_eq_false h1
   refine Zaa Tryz.func97 rfl rfl rfl rfl ?_
   repeat (first|refine ZjX ?_|(refine jg ?_;(try intro F);(refine bx ?_;intro bk);first|refine⟨_,EndsA,Zdy,?_⟩|refine fin ?_)|(refine jn ?_;(try intro F);(refine bx ?_;intro bk);first|refine⟨_,EndsA,Zdy,?_⟩|refine fin ?_))
   exact rtB
 ·have u0:decide (uc2=0)=false:=decide_eq_false h0
  rw[if_neg h0]
  by_cases h2:uc2=1
  ·have u1:decide (uc2=1)=true:=decide_eq_true h2
   rw[if_pos h2]
   by_cases h1:kd=1
   ·have k1:decide (kd=1)=true:=decide_eq_true h1
    refine Zaa Tryz.func97 rfl rfl rfl rfl ?_
    repeat (first|refine ZjX ?_|(refine jg ?_;(try intro F);(refine bx ?_;intro bk);first|refine⟨_,EndsA,Zdy,?_⟩|refine fin ?_)|(refine jn ?_;(try intro F);(refine bx ?_;intro bk);first|refine⟨_,EndsA,Zdy,?_⟩|refine fin ?_))
    exact rtB
   ·have k1:decide (kd=1)=false:=decide_eq_false h1
    refine Zaa Tryz.func97 rfl rfl rfl rfl ?_
    repeat (first|refine ZjX ?_|(refine jg ?_;(try intro F);(refine bx ?_;intro bk);first|refine⟨_,EndsA,Zdy,?_⟩|refine fin ?_)|(refine jn ?_;(try intro F);(refine bx ?_;intro bk);first|refine⟨_,EndsA,Zdy,?_⟩|refine fin ?_))
    exact rtB
  ·have u1:decide (uc2=1)=false:=decide_eq_false h2
   rw[if_neg h2]
   by_cases h1:kd=1
   ·have k1:decide (kd=1)=true:=decide_eq_true h1
    refine Zaa Tryz.func97 rfl rfl rfl rfl ?_
    repeat (first|refine ZjX ?_|(refine jg ?_;(try intro F);(refine bx ?_;intro bk);first|refine⟨_,EndsA,Zdy,?_⟩|refine fin ?_)|(refine jn ?_;(try intro F);(refine bx ?_;intro bk);first|refine⟨_,EndsA,Zdy,?_⟩|refine fin ?_))
    exact rtB
   ·have k1:decide (kd=1)=false:=decide_eq_false h1
    refine Zaa Tryz.func97 rfl rfl rfl rfl ?_
    repeat (first|refine ZjX ?_|(refine jg ?_;(try intro F);(refine bx ?_;intro bk);first|refine⟨_,EndsA,Zdy,?_⟩|refine fin ?_)|(refine jn ?_;(try intro F);(refine bx ?_;intro bk);first|refine⟨_,EndsA,Zdy,?_⟩|refine fin ?_))
    exact rtB
end Go.Proofs.YtdlmhmmhdbbliaaGreatDoor
namespace Go.Wk
open Go Go.RowKit
structure ZbH where
 start:Int
 fin:Int
 era:Int
deriving DecidableEq
def ZbH.enc (x:ZbH):List Value:=[.int .i64 x.start,.int .i64 x.fin,.int .i64 x.era]
theorem ZbH.len (x:ZbH):x.enc.length=3:=rfl
def spIn (t:Int)(x:ZbH):Bool:=decide (x.start<=t)&&decide (t<x.fin)
def Zew (t:Int):List ZbH->Nat->Int
 | [],_ => -1
 | x::l,i=>if spIn t x then i else Zew t l (i+1)
def sp0:ZbH:=⟨0,0,0⟩
def Zj0 (l:List ZbH)(t:Int):ZbH × Bool:=if Zew t l 0<0 then (sp0,false) else (l.getD (Zew t l 0).toNat sp0,true)
theorem Zl5 (t:Int):∀ (l:List ZbH) (i:Nat),Zew t l i = -1\/((i:Int)<=Zew t l i/\Zew t l i<i+l.length)
 | [],i => .inl rfl
 | x::l,i=>by
  rw[Zew]
  split
  ·right
   simp
   omega
  ·rcases Zl5 t l (i+1) with h|h
   ·exact .inl h
   ·right
    rw[List.length_cons]
    omega
end Go.Wk
namespace Go.Proofs.YtdlmhmmhdbbliaaGreatDoor
open Go Go.RowKit Go.Wk
attribute [local irreducible] W RL Does Zau Zak retQ Calls Pu Stp RD Qy Ay Zaj
theorem ZyI {G:Prop}(h:G:=by(first|(apply Pu_loadO1;rfl;exact hb 0 _ rfl)|(apply Zcg;rfl;rfl;exact b1))):G:=h
theorem ZsC (x:ZbH)(t:Int)(b:Nat)(w:World)(hb:Zal w ⟨b,0,none⟩ [.int .i64 t]):Does Tryz.prog 100 [.agg x.enc.toArray,.pointer (some ⟨b,0,none⟩)] w (fun v O=>v = .bool (spIn t x)/\O=[]):=by
 obtain⟨s,f,k⟩:=x
 unfold spIn
 dsimp only
 show Does _ _ [.agg #[.int .i64 s,.int .i64 f,.int .i64 k],_] w _
 refine Zaa Tryz.func100 rfl rfl rfl rfl ?_
 by_cases h:s<=t
 ·have b1:decide (s<=t)=true:=decide_eq_true h
  rw[b1,Bool.true_and]
  repeat (first|refine und ?_|(apply RL_pu;rfl;exact ZyI)|(refine js ?_;(refine bx ?_;intro bk))|refine walk1 ?_)
  exact rtA
 ·have b1:decide (s<=t)=false:=decide_eq_false h
  rw[b1,Bool.false_and]
  repeat (first|refine und ?_|(apply RL_pu;rfl;exact ZyI)|(refine js ?_;(refine bx ?_;intro bk))|refine walk1 ?_)
  exact rtA
theorem ZsB (A:Option Addr)(c:Nat)(l:List ZbH)(t:Int)(b:Nat)(w:World)(hA:RdSl w A c ZbH.enc 3 l)(hb:Zal w ⟨b,0,none⟩ [.int .i64 t]) :
  Does Tryz.prog 99 [.slice A l.length c,.func (.func 100) #[] #[.pointer (some ⟨b,0,none⟩)]] w (fun v O=>v = .int .i64 (Zew t l 0)/\O=[]):=by
 have hle:=hA.le
 have hcp:=hA.cap
 simp only[maxLen]at hcp
 have hin:=fun x w' (hw:Bel w.heap.size w w')=>ZsC x t b w' (hb.up hw (Nat.le_refl _))
 obtain⟨res,hres⟩:∃ res,Zew t l 0=res:=⟨_,rfl⟩
 rw[hres]
 refine Zaa Tryz.func99 rfl rfl rfl rfl ?_
 repeat (first|refine walk ?_)
 refine Zao [(0,.slice A l.length c),(1,.func (.func 100) #[] #[.pointer (some ⟨b,0,none⟩)]),(7,.int .i64 l.length)] [] (fun k:Nat=>[(8,.int .i64 k)]) (fun _=>[]) (fun k=>k<=l.length/\Zew t (l.drop k) k=res) (fun k=>l.length - k) 0 SFA SOA ⟨Nat.zero_le _,hres⟩ ?_
 clear hres
 rintro k ⟨hk,hi⟩
 repeat (first|refine walk ?_)
 refine Zaf rfl (fun hc=>?_) (fun hc=>?_)
 ·have hkl:k<l.length:=by simpa using hc
  obtain⟨hna,hca⟩:=hA.rd k _ (List.getElem?_eq_getElem hkl)
  rw[Zap hkl,Zew]at hi
  have hx:=hin l[k]
  generalize l[k]=x at *
  generalize spIn t x=q at *
  obtain⟨s,f,e⟩:=x
  change Zal w _ [.int .i64 s,.int .i64 f,.int .i64 e]at hca
  cases q with
  | true =>
   rw[if_pos rfl]at hi
   subst hi
   repeat (first|(apply RL_pu;rfl;exact PuI)|(refine js ?_;(apply Zar (f:=100) (us:=[]) (vs:=[.agg #[.int .i64 s,.int .i64 f,.int .i64 e]]) (cs:=[.pointer (some ⟨b,0,none⟩)]) (h:=fun w' hw _=>hx w' hw);rfl;rfl;rintro v O' ⟨rfl,rfl⟩))|refine walk1 ?_)
   exact rtA
  | false =>
   rw[if_neg (by decide)]at hi
   repeat (first|(apply RL_pu;rfl;exact PuI)|(refine js ?_;(apply Zar (f:=100) (us:=[]) (vs:=[.agg #[.int .i64 s,.int .i64 f,.int .i64 e]]) (cs:=[.pointer (some ⟨b,0,none⟩)]) (h:=fun w' hw _=>hx w' hw);rfl;rfl;rintro v O' ⟨rfl,rfl⟩))|refine walk1 ?_)
   exact⟨k+1,OA,⟨OA,hi⟩,SFA,SOA⟩
 ·obtain rfl:k=l.length:=by simp only[decide_eq_false_iff_not,Int.ofNat_lt]at hc;omega
  rw[List.drop_length,Zew]at hi
  subst hi
  repeat (first|refine walk ?_)
  exact rtA
theorem ZyH {G:Prop}(h:G:=by(apply ZaS;rfl;rfl;exact b1)):G:=h
theorem Zn6 (A:Option Addr)(c:Nat)(l:List ZbH)(t:Int)(w:World)(hA:RdSl w A c ZbH.enc 3 l) :
  Does Tryz.prog 66 [.slice A l.length c,.int .i64 t] w (fun v O=>v = .tuple #[.agg (Zj0 l t).1.enc.toArray,.bool (Zj0 l t).2]/\O=[]):=by
 have hle:=hA.le
 have hcp:=hA.cap
 simp only[maxLen]at hcp
 have hix:=fun(b:Nat) w' (hw:Bel w.heap.size w w') hb=>ZsB A c l t b w' (hA.up hw) hb
 have hrg:=Zl5 t l 0
 unfold Zj0
 generalize Zew t l 0=i at *
 refine Zaa Tryz.func66 rfl rfl rfl rfl ?_
 by_cases h:i<0
 ·have b1:decide (i<0)=true:=decide_eq_true h
  rw[if_pos h]
  repeat (first|(apply RL_pu;rfl;exact ZyH)|(refine js ?_;(first|(apply Zag (h:=fun w' hw hH=>hix _ w' hw (hH.cells (by repeat' constructor)));rfl;rintro v O' ⟨rfl,rfl⟩)|(refine bx ?_;intro bk)))|refine walk1 ?_)
  exact rtC
 ·have b1:decide (i<0)=false:=decide_eq_false h
  rw[if_neg h]
  obtain⟨x,hx⟩:∃ x,l[i.toNat]?=some x:=⟨_,List.getElem?_eq_getElem (by omega)⟩
  obtain⟨hna,hca⟩:=hA.rd _ _ hx
  rw[List.getD_eq_getElem?_getD,hx,Option.getD_some]
  obtain⟨s,f,e⟩:=x
  change Zal w _ [.int .i64 s,.int .i64 f,.int .i64 e]at hca
  repeat (first|(apply RL_pu;rfl;(first|exact ZyH|exact PuI))|(refine js ?_;(first|(apply Zag (h:=fun w' hw hH=>hix _ w' hw (hH.cells (by repeat' constructor)));rfl;rintro v O' ⟨rfl,rfl⟩)|(refine bx ?_;intro bk)))|refine walk1 ?_)
  exact rtC
def KnP (rs:List Zab)(m:List (ByteArray × Value)):Prop:=∀ k v,mget m k=some v->∃ A c,v = .slice A (ofB rs k).length c
def KnAt (rs:List Zab)(m:List (ByteArray × Value))(w:World):Prop:=∀ k A n c,mget m k=some (.slice A n c)->RdSl w A c Zab.enc 11 (ofB rs k)
def ruEr (rs:List Zab)(e:DEra):List Zab:=if e.kind=2 then ofB rs e.set else []
def ZAM (Ar Az Al As:Option Addr)(cr cz cl cs:Nat)(s:Zai)(b:Nat):Value := .agg #[.slice Ar s.rules.length cr,.slice Az s.zones.length cz,.slice Al s.links.length cl,.slice As s.shifts.length cs,.map (some b)]
def BkR (rs:List Zab)(b:Nat)(e:DEra)(R:List It)(v:Value)(O':List It):Prop :=
 ∃ A c m' S',v = .slice A (ruEr rs e).length c/\KnP rs m'/\O' = .mp b m' :: .fact S' (fun w=>KnAt rs m' w/\RdSl w A c Zab.enc 11 (ruEr rs e))::R
theorem Zpx {P:Program}{f:FuncId}{args:List Value}{w:World}{I:List It}{R R':Value->List It->Prop}(h:Zaj P f args w I R)(hr:∀ v O base w',R v O->Zay base O w'->∃ O',R' v O'/\Zay base O' w'):Zaj P f args w I R':=by
 unfold Zaj at h ⊢
 exact fun w' hB hH=>Calls.mono (h w' hB hH) fun _ _ ⟨v,O,h1,h2,h3,h4⟩=>by
  obtain⟨O',h5,h6⟩:=hr v O _ _ h4 h3
  exact⟨v,O',h1,h2,h6,h5⟩
theorem ZyG {G:Prop}(h:G:=by(first|(apply Zaz;rfl;rfl;exact b1)|(apply Zb5;rfl;rfl;(focus repeat' constructor);exact hv;exact hs))):G:=h
theorem ZoS (Ar Az Al As:Option Addr)(cr cz cl cs:Nat)(s:Zai)(b:Nat)(m:List (ByteArray × Value))(S:Nat->Prop)(P:World->Prop)(R:List It)(e:DEra)(wr:World)(hA:Zav wr Ar Az Al As cr cz cl cs s)(hn:s.rules.length<=1000000)(hP:KnP s.rules m)(hK:∀ w,P w->KnAt s.rules m w) :
  Zaj Tryz.prog 98 [ZAM Ar Az Al As cr cz cl cs s b,.agg e.enc.toArray] wr (.mp b m :: .fact S P::R) (BkR s.rules b e R):=by
 have hof:=fun w' (hw:Bel wr.heap.size wr w')=>Zfe Ar Az Al As cr cz cl cs s e.set w' (hA.up hw) hn
 unfold BkR ruEr
 obtain⟨off,kd,esv,st,fm,⟨ui,uy,um,⟨ud1,ud2,ud3⟩,⟨uc1,uc2⟩⟩⟩:=e
 dsimp only at hof ⊢
 show Zaj _ _ [.agg #[.slice Ar s.rules.length cr,.slice Az s.zones.length cz,.slice Al s.links.length cl,.slice As s.shifts.length cs,.map (some b)],.agg #[.int .i64 off,.int .i64 kd,.int .i64 esv,.string st,.string fm,.bool ui,.int .i64 uy,.int .i64 um,.int .i64 ud1,.int .i64 ud2,.int .i64 ud3,.int .i64 uc1,.int .i64 uc2]] wr _ _
 by_cases hk:kd=2
 ·have b1:(!decide (kd=2))=false:=by rw[decide_eq_true hk];rfl
  rw[if_pos hk]
  cases hg:mget m st with
  | some v =>
   obtain⟨A,c,rfl⟩:=hP st v hg
   have hv:(mget m st).getD (.slice none 0 0) = .slice A (ofB s.rules st).length c:=by rw[hg];rfl
   have hs:(mget m st).isSome=true:=by rw[hg];rfl
   refine ZaG Tryz.func98 rfl rfl rfl rfl ?_
   refine ZgL [.fact S P] (.mp b m::R) (fun w=>KnAt s.rules m w/\RdSl w A c Zab.enc 11 (ofB s.rules st)) (.cons (.there .here) (.cons .here (.refl _))) (fun w' hi=>⟨hK _ (Zef (hi _ List.mem_cons_self)),hK _ (Zef (hi _ List.mem_cons_self)) st A _ c hg⟩) ?_
   repeat (first|(apply RL_pu;rfl;exact ZyG)|(refine js ?_;(refine bx ?_;intro bk))|refine walk1 ?_)
   exact ret_1 _ _ (.tmp rfl) (.drop (.drop (.cons (.there .here) (.cons .here (.refl _))))) ⟨A,c,m,_,rfl,hP,rfl⟩
  | none =>
   have hv:(mget m st).getD (.slice none 0 0) = .slice none 0 0:=by rw[hg];rfl
   have hs:(mget m st).isSome=false:=by rw[hg];rfl
   refine Zpx (R:=fun v O=>∃ A3 c3,v = .slice A3 (ofB s.rules st).length c3/\O=[.fact S P,.row (.slice A3 (ofB s.rules st).length c3) 82 11 (ofB s.rules st).length ((ofB s.rules st).flatMap Zab.enc)]++(.mp b (mset m st (.slice A3 (ofB s.rules st).length c3))::R)) ?_ ?_
   ·refine ZaG Tryz.func98 rfl rfl rfl rfl ?_
    repeat (first|(apply RL_pu;rfl;exact ZyG)|(refine js ?_;(first|(apply Zag (h:=fun w' hw _=>hof w' hw);rfl;rintro v O' ⟨A3,c3,rfl,rfl⟩)|(refine bx ?_;intro bk)))|refine walk1 ?_)
    exact ret_1 _ _ (.tmp rfl) (.cons (.there (.there (.there (.there .here)))) (.cons .here (.cons (.there (.there .here)) (.drop (.drop (.refl _)))))) ⟨A3,c3,rfl,rfl⟩
   ·rintro v O base w' ⟨A3,c3,rfl,rfl⟩ hH
    have hrr:∀ w',(∀ i∈[It.fact S P,.row (.slice A3 (ofB s.rules st).length c3) 82 11 (ofB s.rules st).length ((ofB s.rules st).flatMap Zab.enc)],i.sat w')->KnAt s.rules (mset m st (.slice A3 (ofB s.rules st).length c3)) w'/\RdSl w' A3 c3 Zab.enc 11 (ofB s.rules st):=by
     intro w' hi
     have h1:=hK _ (Zef (hi _ List.mem_cons_self))
     have h2:=Zbn Zab.len (hi _ (List.mem_cons_of_mem _ List.mem_cons_self))
     refine⟨fun k A n c hk=>?_,h2⟩
     rw[ZeM]at hk
     by_cases hks:k=st
     ·subst hks
      rw[if_pos rfl]at hk
      cases hk
      exact h2
     ·rw[if_neg hks]at hk
      exact h1 k A n c hk
    refine⟨_,⟨A3,c3,mset m st (.slice A3 (ofB s.rules st).length c3),foot [It.fact S P,.row (.slice A3 (ofB s.rules st).length c3) 82 11 (ofB s.rules st).length ((ofB s.rules st).flatMap Zab.enc)],rfl,fun k v hk=>?_,rfl⟩,(hH.fact hrr).sub (.cons (.there .here) (.cons .here (.refl _)))⟩
    rw[ZeM]at hk
    by_cases hks:k=st
    ·subst hks
     rw[if_pos rfl]at hk
     cases hk
     exact⟨A3,c3,rfl⟩
    ·rw[if_neg hks]at hk
     exact hP k v hk
 ·have b1:(!decide (kd=2))=true:=by rw[decide_eq_false hk];rfl
  rw[if_neg hk]
  refine ZaG Tryz.func98 rfl rfl rfl rfl ?_
  refine ZgL [.fact S P] (.mp b m::R) (fun w=>KnAt s.rules m w/\RdSl w none 0 Zab.enc 11 []) (.cons (.there .here) (.cons .here (.refl _))) (fun w' hi=>⟨hK _ (Zef (hi _ List.mem_cons_self)),Zok _ _ _⟩) ?_
  repeat (first|(apply RL_pu;rfl;(apply Zaz;rfl;rfl;exact b1))|(refine js ?_;(refine bx ?_;intro bk))|refine walk1 ?_)
  exact ret_1 _ _ (.tmp rfl) (.drop (.drop (.cons (.there .here) (.cons .here (.refl _))))) ⟨none,0,m,_,rfl,hP,rfl⟩
end Go.Proofs.YtdlmhmmhdbbliaaGreatDoor
