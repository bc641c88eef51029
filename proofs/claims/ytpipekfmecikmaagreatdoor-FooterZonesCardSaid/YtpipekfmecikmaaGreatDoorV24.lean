/- Parts of the proof. -/
import Derived.Test.YtpipekfmecikmaaGreatDoorV09
import Derived.Test.YtpipekfmecikmaaGreatDoorV23
import Derived.Test.YtpipekfmecikmaaGreatDoorV20
import Derived.Test.YtpipekfmecikmaaGreatDoorV11
import Derived.Test.YtpipekfmecikmaaGreatDoorV15
import Derived.Test.YtpipekfmecikmaaGreatDoorV13
import Derived.Test.YtpipekfmecikmaaGreatDoorV06
import Derived.Test.YtpipekfmecikmaaGreatDoorV21
import Derived.Test.YtpipekfmecikmaaGreatDoorV10
set_option maxHeartbeats 4000000
set_option linter.unusedVariables false
set_option linter.unusedSimpArgs false
namespace Go.Proofs.YtpipekfmecikmaaGreatDoor
open Go Go.RowKit Go.Wk
attribute [local irreducible] W RL Does Zat Zaj retQ Calls Pu Stp RD Qy Ay Zak
end Go.Proofs.YtpipekfmecikmaaGreatDoor
namespace Go.Wk
open Go Go.RowKit
section
variable {P:Program}{n:Nat}{wr:World}{fr:Fr}{O:List It}{ty:TypeId}
theorem Ztz {t t':TypeId}{x:Operand}{ad:Addr}(hu:∃ te,P.underlying t=some (.pointer te))(hx:ev fr x=some (.pointer (some ad))):Pu P n wr fr O (.binOp .neq t x (.const (.pointer none)) t') ty (.bool true):=fun a w hs _ _ _ _=>by
 obtain⟨te,hu⟩:=hu
 have hc:a.eval (.const (.pointer none)) = .pointer none:=rfl
 have h:(binOp .neq t (.pointer (some ad)) (.pointer none)).run P w = .ok (.bool true) w:=by
  have:∀ d,(Op.equalIn (d+1) t (.pointer (some ad)) (.pointer none)).run P w = .ok false w:=fun d=>by
   simp[Op.equalIn,run_underlying hu]
  have hb:binOp .neq t (.pointer (some ad)) (.pointer none)=(do pure (.bool (!(<- Op.equal t (.pointer (some ad)) (.pointer none))))):=rfl
  rw[hb,show Op.equal t (.pointer (some ad)) (.pointer none)=Op.equalIn (9999+1) t (.pointer (some ad)) (.pointer none) from rfl]
  simp only[Sem.run_bind,this 9999,Result.andThen_ok,Sem.run_pure,Bool.not_false]
 have hg:(eqGuard .neq t x (.const (.pointer none)) (.pointer (some ad)) (.pointer none)).run P w = .ok () w:=by
  simp[eqGuard]
 simp only[execOp,hs.sim.ev hx,hc,Sem.run_bind,hg,Result.andThen_ok,h,Sem.run_pure]
end
end Go.Wk
namespace Go.Proofs.YtpipekfmecikmaaGreatDoor
open Go Go.RowKit Go.Wk
attribute [local irreducible] W RL Does Zat Zaj retQ Calls Pu Stp RD Qy Ay Zak
theorem Zug {G:Prop}(h:G:=by(apply Zal;rfl;rfl;exact hb)):G:=h
theorem Zv4 (Ar Az Al As:Option Addr)(cr cz cl cs:Nat)(a:DSource)(zone e:Int)(w:World)(h:∀ w',Bel w.heap.size w w'->Does Tryz.prog 39 [srcV Ar Az Al As cr cz cl cs a,.int .i64 zone] w' (fun v O=>v = .tuple #[.slice none 0 0,.slice none 0 0,.int .i64 e]/\O=[]))(hne:e≠0) :
  Does Tryz.prog 9 [srcV Ar Az Al As cr cz cl cs a,.int .i64 zone] w (fun v O=>v = .tuple #[.agg #[.string ByteArray.empty,.int .i64 0,.string ByteArray.empty,.int .i64 0,.int .i64 0,.int .i64 0,.int .i64 0,.int .i64 0,.int .i64 0,.int .i64 0,.int .i64 0,.int .i64 0,.int .i64 0,.int .i64 0],.int .i64 e]/\O=[]):=by
 have hb:(!decide (e=0))=true:=by rw[decide_eq_false hne];rfl
 refine Zaa Tryz.func9 rfl rfl rfl rfl ?_
 repeat (first|(apply RL_pu;rfl;exact Zug)|(apply RD_Q;rfl;rfl;decide +kernel;rfl;rfl;exact QyFtO0)|refine walk1 ?_|(refine jg ?_;(try intro F);(first|(refine Zab h ?_)|(refine bx ?_;intro bk)|(refine stA ?_));first|refine⟨_,EndsA,QFFtO0,?_⟩|refine fin ?_)|(refine jn ?_;(try intro F);(first|(refine bx ?_;intro bk)|(refine stA ?_)|(apply Zac;first|exact Zug|exact PuA));first|refine⟨_,EndsA,QFFtO0,?_⟩|refine fin ?_)|(apply RD_W;rfl;intro bk))
 exact rtC
theorem ZoA (Ar Az Al As:Option Addr)(cr cz cl cs:Nat)(a:DSource)(zone e:Int)(w:World)(h:∀ w',Bel w.heap.size w w'->Does Tryz.prog 39 [srcV Ar Az Al As cr cz cl cs a,.int .i64 zone] w' (fun v O=>v = .tuple #[.slice none 0 0,.slice none 0 0,.int .i64 e]/\O=[]))(hne:e≠0) :
  Does Tryz.prog 11 [srcV Ar Az Al As cr cz cl cs a,.int .i64 zone] w (fun v O=>v = .tuple #[.int .i64 0,.int .i64 e]/\O=[]):=by
 have hb:(!decide (e=0))=true:=by rw[decide_eq_false hne];rfl
 refine Zaa Tryz.func11 rfl rfl rfl rfl ?_
 repeat (first|(apply RL_pu;rfl;exact Zug)|(refine js ?_;(first|(refine Zab h ?_)|(refine bx ?_;intro bk)))|refine walk1 ?_)
 exact rtB
structure YrG where
 k:Nat
 y:Int
theorem Zb0 {a:DSource}(h:a.rules.length<=1000000)(l:List DEra):(ZaJ a l).length<=1000000:=by
 unfold ZaJ
 split
 ·exact Nat.le_trans (List.length_filter_le _ _) h
 ·exact Nat.zero_le _
theorem ZpX {G:Prop}(h:G:=by(first|(apply Zap;rfl;rfl;omega;omega;(intro w' _ hO;exact(ZaD (hO.of (A := .row (.slice B R.length d) 68 11 R.length (R.flatMap DRule.enc)) (by repeat' constructor)) hg1).1))|(apply ZaS;rfl;(focus repeat' constructor);exact hgn;rfl)|(apply Zfj;rfl;rfl;first|exact m1|exact m2)|(apply Zal;rfl;rfl;exact b2))):G:=h
theorem Zj2 (Ar Az Al As:Option Addr)(cr cz cl cs:Nat)(a:DSource)(k:Nat)(z:DZone)(w:World)(h:Zb7 w Ar Az Al As cr cz cl cs a)(hf:accD a=none)(hk:a.zones[k]?=some z)(hne:z.eras≠[])
  (hb : -1000000000<=Zhf a z.eras/\Zhf a z.eras<=1000000000) :
  Does Tryz.prog 11 [srcV Ar Az Al As cr cz cl cs a,.int .i64 k] w (fun v O=>v = .tuple #[.int .i64 (Zhf a z.eras),.int .i64 0]/\O=[]):=by
 obtain⟨hna,cs1,⟨A,c,hE,rfl⟩,hca⟩:=h.A.z k _ hk
 have hfi:=fun w' (hw:Bel w.heap.size w w')=>Zkt Ar Az Al As cr cz cl cs a k z A c w' (h.up hw) hf hk hna (hca.up hw (Nat.le_refl _)) (hE.up hw) hne
 have hl:0<z.eras.length:=List.length_pos_iff.2 hne
 have hel:=(h.S.zs z (List.mem_of_getElem? hk)).2.1
 have hRl:=Zb0 h.S.nr z.eras
 have hy0:yr0 z.eras=if 1<z.eras.length then (z.eras.getD (z.eras.length - 2) dE0).til.year else 1849:=rfl
 unfold Zhf at *
 generalize ZaJ a z.eras=R at *
 clear h hk hca
 obtain⟨y0,hyy⟩:∃ y0,yr0 z.eras=y0:=⟨_,rfl⟩
 rw[hyy]at hy0 hb ⊢
 obtain⟨res,hres⟩:∃ res,yrR R y0=res:=⟨_,rfl⟩
 rw[hres]at hb ⊢
 refine Zaa Tryz.func11 rfl rfl rfl rfl ?_
 by_cases h1:1<z.eras.length
 ·have b1:decide ((1:Int)<z.eras.length)=true:=decide_eq_true (by omega)
  rw[if_pos h1]at hy0
  obtain⟨e,he⟩:∃ e,z.eras[z.eras.length - 2]?=some e:=⟨_,List.getElem?_eq_getElem (by omega)⟩
  rw[List.getD_eq_getElem?_getD,he]at hy0
  simp only[Option.getD_some]at hy0
  obtain⟨hna2,hca2⟩:=hE.rd _ _ he
  rw[show z.eras.length - 2=((z.eras.length:Int) - 2).toNat by omega]at hca2
  have hu:w.cell? ((((adr A).add (((z.eras.length:Int) - 2).toNat*13)).add 5).add 1)=some (.int .i64 y0):=by
   rw[Zbo]
   exact hca2 6 _ (by rw[hy0];rfl)
  clear hca2 he hE hy0
  repeat (first|(apply RL_pu;rfl;(first|(apply Zaw;rfl;rfl;exact b1)|(apply Pu_indexAddr;rfl;rfl;omega;omega;exact hna2)|(apply Pu_loadO1;rfl;exact hu)))|(refine js ?_;(first|(apply Zae (h:=fun w' hw _=>hfi w' hw);rfl;rintro v O' ⟨B,d,rfl,rfl⟩)|(refine bx ?_;intro bk)))|refine walk1 ?_)
  refine Zai [(7,.slice B R.length d),(33,.slice B R.length d),(34,.int .i64 R.length)] [.row (.slice B R.length d) 68 11 R.length (R.flatMap DRule.enc)] (fun g:YrG=>[(35,.int .i64 g.k),(9,.int .i64 g.y)]) (fun _=>[]) (fun g=>g.k<=R.length/\yrR (R.drop g.k) g.y=res) (fun g=>R.length - g.k) ⟨0,y0⟩ SFA SOA ⟨Nat.zero_le _,hres⟩ ?_
  clear hres
  rintro⟨k,y⟩ ⟨hkl,hi⟩
  dsimp only at hkl hi ⊢
  repeat (first|(refine js ?_;(refine bx ?_;intro bk))|refine walk ?_)
  refine Zaf rfl (fun hc=>?_) (fun hc=>?_)
  ·simp only[decide_eq_true_eq,Int.ofNat_lt]at hc
   rw[Zag hc,yrR]at hi
   have hg1:=Zao DRule.len R k _ 0 _ (List.getElem?_eq_getElem hc) rfl
   have hgn:∀ j v,(DRule.enc R[k])[j]?=some v->(R.flatMap DRule.enc)[k*11+j]?=some v:=fun j v hj=>Zao DRule.len R k _ j v (List.getElem?_eq_getElem hc) hj
   generalize R[k]=r at *
   obtain⟨nm,fr,to,mo,⟨dk,dw,dd⟩,⟨cs',cb⟩,sv,le⟩:=r
   simp only[DRule.enc]at hgn hg1
   dsimp only at hi
   have m1:(if y<fr then fr else y)=max y fr:=by split <;> omega
   have m2:(if max y fr<to then to else max y fr)=max (max y fr) to:=by split <;> omega
   by_cases hto:to=1048576
   ·have b2:(!decide (to=1048576))=false:=by rw[decide_eq_true hto];rfl
    rw[if_pos hto]at hi
    repeat (first|(apply RL_pu;rfl;exact ZpX)|(refine js ?_;(refine bx ?_;intro bk))|refine walk1 ?_)
    exact⟨⟨k+1,max y fr⟩,OA,⟨OA,hi⟩,SFA,SOA⟩
   ·have b2:(!decide (to=1048576))=true:=by rw[decide_eq_false hto];rfl
    rw[if_neg hto]at hi
    repeat (first|(apply RL_pu;rfl;exact ZpX)|(refine js ?_;(refine bx ?_;intro bk))|refine walk1 ?_)
    exact⟨⟨k+1,max (max y fr) to⟩,OA,⟨OA,hi⟩,SFA,SOA⟩
  ·simp only[decide_eq_false_iff_not,Int.ofNat_lt]at hc
   rw[List.drop_eq_nil_of_le (by omega),yrR]at hi
   subst hi
   repeat (first|(refine js ?_;(refine bx ?_;intro bk))|refine walk ?_)
   exact rtB
 ·have b1:decide ((1:Int)<z.eras.length)=false:=decide_eq_false (by omega)
  rw[if_neg h1]at hy0
  subst hy0
  repeat (first|(apply RL_pu;rfl;(apply Zaw;rfl;rfl;exact b1))|(refine js ?_;(first|(apply Zae (h:=fun w' hw _=>hfi w' hw);rfl;rintro v O' ⟨B,d,rfl,rfl⟩)|(refine bx ?_;intro bk)))|refine walk1 ?_)
  refine Zai [(7,.slice B R.length d),(33,.slice B R.length d),(34,.int .i64 R.length)] [.row (.slice B R.length d) 68 11 R.length (R.flatMap DRule.enc)] (fun g:YrG=>[(35,.int .i64 g.k),(9,.int .i64 g.y)]) (fun _=>[]) (fun g=>g.k<=R.length/\yrR (R.drop g.k) g.y=res) (fun g=>R.length - g.k) ⟨0,1849⟩ SFA SOA ⟨Nat.zero_le _,hres⟩ ?_
  clear hres
  rintro⟨k,y⟩ ⟨hkl,hi⟩
  dsimp only at hkl hi ⊢
  repeat (first|(refine js ?_;(refine bx ?_;intro bk))|refine walk ?_)
  refine Zaf rfl (fun hc=>?_) (fun hc=>?_)
  ·simp only[decide_eq_true_eq,Int.ofNat_lt]at hc
   rw[Zag hc,yrR]at hi
   have hg1:=Zao DRule.len R k _ 0 _ (List.getElem?_eq_getElem hc) rfl
   have hgn:∀ j v,(DRule.enc R[k])[j]?=some v->(R.flatMap DRule.enc)[k*11+j]?=some v:=fun j v hj=>Zao DRule.len R k _ j v (List.getElem?_eq_getElem hc) hj
   generalize R[k]=r at *
   obtain⟨nm,fr,to,mo,⟨dk,dw,dd⟩,⟨cs',cb⟩,sv,le⟩:=r
   simp only[DRule.enc]at hgn hg1
   dsimp only at hi
   have m1:(if y<fr then fr else y)=max y fr:=by split <;> omega
   have m2:(if max y fr<to then to else max y fr)=max (max y fr) to:=by split <;> omega
   by_cases hto:to=1048576
   ·have b2:(!decide (to=1048576))=false:=by rw[decide_eq_true hto];rfl
    rw[if_pos hto]at hi
    repeat (first|(apply RL_pu;rfl;exact ZpX)|(refine js ?_;(refine bx ?_;intro bk))|refine walk1 ?_)
    exact⟨⟨k+1,max y fr⟩,OA,⟨OA,hi⟩,SFA,SOA⟩
   ·have b2:(!decide (to=1048576))=true:=by rw[decide_eq_false hto];rfl
    rw[if_neg hto]at hi
    repeat (first|(apply RL_pu;rfl;exact ZpX)|(refine js ?_;(refine bx ?_;intro bk))|refine walk1 ?_)
    exact⟨⟨k+1,max (max y fr) to⟩,OA,⟨OA,hi⟩,SFA,SOA⟩
  ·simp only[decide_eq_false_iff_not,Int.ofNat_lt]at hc
   rw[List.drop_eq_nil_of_le (by omega),yrR]at hi
   subst hi
   repeat (first|(refine js ?_;(refine bx ?_;intro bk))|refine walk ?_)
   exact rtB
def ruS (sv:Int):DRule:=⟨ByteArray.empty,0,0,0,⟨0,0,0⟩,⟨0,0⟩,sv,ByteArray.empty⟩
theorem ZpW {G:Prop}(h:G:=by(first|(apply Pu_indexAddr;rfl;rfl;omega;omega;exact hna2)|(apply Pu_loadON;rfl;exact hca2;rfl)|(apply Zal;rfl;rfl;exact b3))):G:=h
theorem Zr5 (Ar Az Al As:Option Addr)(cr cz cl cs:Nat)(a:DSource)(k:Nat)(z:DZone)(e:DEra)(w:World)(h:Zb7 w Ar Az Al As cr cz cl cs a)(hf:accD a=none)(hk:a.zones[k]?=some z)(he:z.eras[z.eras.length - 1]?=some e)
  (hkd:e.kind≠2) (hE1:FtE e) (hsv : -1000000<=e.save/\e.save<=1000000) :
  Does Tryz.prog 9 [srcV Ar Az Al As cr cz cl cs a,.int .i64 k] w (fun v O=>v = .tuple #[.agg (Zbi e e.save ByteArray.empty).enc.toArray,.int .i64 0]/\O=[]):=by
 obtain⟨hna,cs1,⟨A,c,hE,rfl⟩,hca⟩:=h.A.z k _ hk
 have hl:0<z.eras.length:=by have:=(List.getElem?_eq_some_iff.1 he).1;omega
 have hfi:=fun w' (hw:Bel w.heap.size w w')=>Zkt Ar Az Al As cr cz cl cs a k z A c w' (h.up hw) hf hk hna (hca.up hw (Nat.le_refl _)) (hE.up hw) (List.length_pos_iff.1 hl)
 have hal:=fun w' (hw:Bel w.heap.size w w')=>ZfC e (ruS e.save) w' (h.L.up hw) hE1 ⟨Nat.zero_le _,hsv⟩
 have hel:=(h.S.zs z (List.mem_of_getElem? hk)).2.1
 have hRl:=Zb0 h.S.nr z.eras
 obtain⟨hna2,hca2⟩:=hE.rd _ _ he
 rw[show z.eras.length - 1=((z.eras.length:Int) - 1).toNat by omega]at hca2
 change ∀ w',Bel w.heap.size w w'->Does _ _ _ w' (fun v O=>v = .agg (Zbi e e.save ByteArray.empty).enc.toArray/\O=[]) at hal
 generalize Zbi e e.save ByteArray.empty=p at *
 have b3:(!decide (e.kind=2))=true:=by rw[decide_eq_false hkd];rfl
 generalize ZaJ a z.eras=R at *
 clear h hf hk hca he hE hkd hE1 hsv
 obtain⟨off,kd,esv,st,fm,⟨ui,uy,um,⟨ud1,ud2,ud3⟩,⟨uc1,uc2⟩⟩⟩:=e
 obtain⟨p1,p2,p3,p4,⟨p5,p6,p7,p8,p9⟩,⟨q1,q2,q3,q4,q5⟩⟩:=p
 change Zau w _ [.int .i64 off,.int .i64 kd,.int .i64 esv,.string st,.string fm,.bool ui,.int .i64 uy,.int .i64 um,.int .i64 ud1,.int .i64 ud2,.int .i64 ud3,.int .i64 uc1,.int .i64 uc2]at hca2
 change ∀ w',Bel w.heap.size w w'->Does _ _ [.agg #[.int .i64 off,.int .i64 kd,.int .i64 esv,.string st,.string fm,.bool ui,.int .i64 uy,.int .i64 um,.int .i64 ud1,.int .i64 ud2,.int .i64 ud3,.int .i64 uc1,.int .i64 uc2],.agg #[.string ByteArray.empty,.int .i64 0,.int .i64 0,.int .i64 0,.int .i64 0,.int .i64 0,.int .i64 0,.int .i64 0,.int .i64 0,.int .i64 esv,.string ByteArray.empty]] w' (fun v O=>v = .agg #[.string p1,.int .i64 p2,.string p3,.int .i64 p4,.int .i64 p5,.int .i64 p6,.int .i64 p7,.int .i64 p8,.int .i64 p9,.int .i64 q1,.int .i64 q2,.int .i64 q3,.int .i64 q4,.int .i64 q5]/\O=[]) at hal
 dsimp only at b3 ⊢
 refine Zaa Tryz.func9 rfl rfl rfl rfl ?_
 repeat (first|(apply RL_pu;rfl;exact ZpW)|(apply RD_Q;rfl;rfl;decide +kernel;rfl;rfl;exact QyFtO4)|refine walk1 ?_|(refine jg ?_;(try intro F);(first|(apply Zae (h:=fun w' hw _=>hfi w' hw);rfl;rintro v O' ⟨B,d,rfl,rfl⟩)|(refine Zab hal ?_)|(refine bx ?_;intro bk)|(refine stA ?_));first|refine⟨_,EndsA,QFFtO4,?_⟩|refine fin ?_)|(refine jn ?_;(try intro F);(first|(refine bx ?_;intro bk)|(refine stA ?_)|(apply Zac;first|exact ZpW|exact PuA));first|refine⟨_,EndsA,QFFtO4,?_⟩|refine fin ?_)|(apply RD_W;rfl;intro bk))
 exact rtC
structure OfG where
 k:Nat
 s:Option Nat
 e:Option Nat
theorem ZpV {G:Prop}(h:G:=by(first|(apply Zap;rfl;rfl;omega;omega;(intro w' _ hO;exact(ZaD (hO.of (A := .row (.slice B R.length d) 68 11 R.length (R.flatMap DRule.enc)) (by repeat' constructor)) hg1).1))|(apply ZaS;rfl;(focus repeat' constructor);exact hgn;rfl)|(apply Zal;rfl;rfl;exact b2)|(apply Zan;rfl;rfl;exact b4))):G:=h
theorem ZxO {G:Prop}(h:G:=by(first|(apply Zap;rfl;rfl;omega;omega;(intro w' _ hO;exact(ZaD (hO.of (A := .row (.slice B R.length d) 68 11 R.length (R.flatMap DRule.enc)) (by repeat' constructor)) hg1).1))|(apply ZaS;rfl;(focus repeat' constructor);exact hgn;rfl)|(apply Zal;rfl;rfl;exact b2))):G:=h
theorem Zuf {G:Prop}(h:G:=by(first|(apply Ztz;exact⟨_,Tryz.underlying88⟩;rfl)|(apply Pu_nilCheck;rfl)|(apply ZaS;rfl;(focus repeat' constructor);exact hgi;exact DRule.len r)|(apply ZaS;rfl;(focus repeat' constructor);exact hgj;exact DRule.len q))):G:=h
theorem ZwH {G:Prop}(h:G:=by first|(apply Qy_y;rfl;exact Zuf)|exact QyA):G:=h
theorem ZwZ {G:Prop}(h:G:=by repeat (first|exact QF.nil|(apply QF.mk;rfl;rfl;decide +kernel;exact ZwH))):G:=h
theorem Zv3 (Ar Az Al As:Option Addr)(cr cz cl cs:Nat)(a:DSource)(k:Nat)(z:DZone)(e:DEra)(i j:Nat)(r q:DRule)(w:World)(h:Zb7 w Ar Az Al As cr cz cl cs a)(hF:FtG w)(hf:accD a=none)(hk:a.zones[k]?=some z)(he:z.eras[z.eras.length - 1]?=some e)
  (hkd:e.kind=2) (hE1:FtE e) (hse:seF (ZaJ a z.eras) 0 (none,none)=(some i,some j)) (hri:(ZaJ a z.eras)[i]?=some r) (hrj:(ZaJ a z.eras)[j]?=some q) (hr:FtRu r) (hq:FtRu q) :
  Does Tryz.prog 9 [srcV Ar Az Al As cr cz cl cs a,.int .i64 k] w (fun v O=>v = .tuple #[.agg (Zgv e r q).enc.toArray,.int .i64 0]/\O=[]):=by
 obtain⟨hna,cs1,⟨A,c,hE,rfl⟩,hca⟩:=h.A.z k _ hk
 have hl:0<z.eras.length:=by have:=(List.getElem?_eq_some_iff.1 he).1;omega
 have hfi:=fun w' (hw:Bel w.heap.size w w')=>Zkt Ar Az Al As cr cz cl cs a k z A c w' (h.up hw) hf hk hna (hca.up hw (Nat.le_refl _)) (hE.up hw) (List.length_pos_iff.1 hl)
 have htw:=fun w' (hw:Bel w.heap.size w w')=>ZlO e r q w' (h.L.up hw) (h.G.up hw) (hF.up hw) hE1 hr hq
 have hel:=(h.S.zs z (List.mem_of_getElem? hk)).2.1
 have hRl:=Zb0 h.S.nr z.eras
 obtain⟨hna2,hca2⟩:=hE.rd _ _ he
 rw[show z.eras.length - 1=((z.eras.length:Int) - 1).toNat by omega]at hca2
 generalize Zgv e r q=p at *
 have b3:(!decide (e.kind=2))=false:=by rw[decide_eq_true hkd];rfl
 generalize ZaJ a z.eras=R at *
 have hgi:∀ m v,(DRule.enc r)[m]?=some v->(R.flatMap DRule.enc)[i*11+m]?=some v:=fun m v hm=>Zao DRule.len R i _ m v hri hm
 have hgj:∀ m v,(DRule.enc q)[m]?=some v->(R.flatMap DRule.enc)[j*11+m]?=some v:=fun m v hm=>Zao DRule.len R j _ m v hrj hm
 clear h hf hk hca he hE hkd hE1 hri hrj hr hq hF
 obtain⟨off,kd,esv,st,fm,⟨ui,uy,um,⟨ud1,ud2,ud3⟩,⟨uc1,uc2⟩⟩⟩:=e
 obtain⟨p1,p2,p3,p4,⟨p5,p6,p7,p8,p9⟩,⟨q1,q2,q3,q4,q5⟩⟩:=p
 change Zau w _ [.int .i64 off,.int .i64 kd,.int .i64 esv,.string st,.string fm,.bool ui,.int .i64 uy,.int .i64 um,.int .i64 ud1,.int .i64 ud2,.int .i64 ud3,.int .i64 uc1,.int .i64 uc2]at hca2
 change ∀ w',Bel w.heap.size w w'->Does _ _ [.agg #[.int .i64 off,.int .i64 kd,.int .i64 esv,.string st,.string fm,.bool ui,.int .i64 uy,.int .i64 um,.int .i64 ud1,.int .i64 ud2,.int .i64 ud3,.int .i64 uc1,.int .i64 uc2],.agg r.enc.toArray,.agg q.enc.toArray] w' (fun v O=>v = .agg #[.string p1,.int .i64 p2,.string p3,.int .i64 p4,.int .i64 p5,.int .i64 p6,.int .i64 p7,.int .i64 p8,.int .i64 p9,.int .i64 q1,.int .i64 q2,.int .i64 q3,.int .i64 q4,.int .i64 q5]/\O=[]) at htw
 dsimp only at b3 ⊢
 refine Zaa Tryz.func9 rfl rfl rfl rfl ?_
 repeat (first|(apply RL_pu;rfl;exact ZpW)|(apply RD_Q;rfl;rfl;decide +kernel;rfl;rfl;exact QyFtO4)|refine walk1 ?_|(refine jg ?_;(try intro F);(first|(apply Zae (h:=fun w' hw _=>hfi w' hw);rfl;rintro v O' ⟨B,d,rfl,rfl⟩)|(refine bx ?_;intro bk)|(refine stA ?_));first|refine⟨_,EndsA,QFFtO4,?_⟩|refine fin ?_)|(refine jn ?_;(try intro F);(first|(refine bx ?_;intro bk)|(refine stA ?_)|(apply Zac;first|exact ZpW|exact PuA));first|refine⟨_,EndsA,QFFtO4,?_⟩|refine fin ?_)|(apply RD_W;rfl;intro bk))
 rename_i b2 b4
 generalize bk=b9
 refine Zai [(4,.pointer (some ⟨b4,0,none⟩)),(7,.slice B R.length d),(9,.pointer (some ⟨b9,0,none⟩)),(41,.slice B R.length d),(42,.int .i64 R.length)] [.row (.slice B R.length d) 68 11 R.length (R.flatMap DRule.enc),.blk b9 [.int .i64 off,.int .i64 kd,.int .i64 esv,.string st,.string fm,.bool ui,.int .i64 uy,.int .i64 um,.int .i64 ud1,.int .i64 ud2,.int .i64 ud3,.int .i64 uc1,.int .i64 uc2] 75,.blk b4 [.string ByteArray.empty,.int .i64 0,.string ByteArray.empty,.int .i64 0,.int .i64 0,.int .i64 0,.int .i64 0,.int .i64 0,.int .i64 0,.int .i64 0,.int .i64 0,.int .i64 0,.int .i64 0,.int .i64 0] 33]
  (fun g:OfG=>[(43,.int .i64 g.k),(10,.pointer (g.s.map fun i=>(adr B).add (i*11))),(11,.pointer (g.e.map fun i=>(adr B).add (i*11)))]) (fun _=>[]) (fun g=>g.k<=R.length/\seF (R.drop g.k) g.k (g.s,g.e)=(some i,some j)) (fun g=>R.length - g.k) ⟨0,none,none⟩ SFA SOA ⟨Nat.zero_le _,hse⟩ ?_
 clear hse
 rintro⟨k,s,t⟩ ⟨hkl,hi⟩
 dsimp only at hkl hi ⊢
 repeat (first|refine walk ?_|(refine jn ?_;(try intro F);(first|(refine bx ?_;intro bk)|(refine stA ?_)|(apply Zac;exact PuA));refine fin ?_)|(apply RD_W;rfl;intro bk))
 refine Zaf rfl (fun hc=>?_) (fun hc=>?_)
 ·simp only[decide_eq_true_eq,Int.ofNat_lt]at hc
  rw[Zag hc,seF]at hi
  have hg1:=Zao DRule.len R k _ 0 _ (List.getElem?_eq_getElem hc) rfl
  have hgn:∀ j v,(DRule.enc R[k])[j]?=some v->(R.flatMap DRule.enc)[k*11+j]?=some v:=fun j v hj=>Zao DRule.len R k _ j v (List.getElem?_eq_getElem hc) hj
  generalize R[k]=r1 at *
  obtain⟨nm,fr,to,mo,⟨dk,dw,dd⟩,⟨cs',cb⟩,sv,le⟩:=r1
  simp only[DRule.enc]at hgn hg1
  dsimp only at hi
  by_cases hto:to=1048576
  ·have b2:(!decide (to=1048576))=false:=by rw[decide_eq_true hto];rfl
   rw[if_pos hto]at hi
   by_cases hsv:sv=0
   ·have b4:decide (sv=0)=true:=decide_eq_true hsv
    rw[if_pos hsv]at hi
    repeat (first|(apply RL_pu;rfl;exact ZpV)|(apply RD_Q;rfl;rfl;decide +kernel;rfl;rfl;exact QyFtO5)|refine walk1 ?_|(refine jn ?_;(try intro F);(first|(refine bx ?_;intro bk)|(refine stA ?_)|(apply Zac;first|exact ZpV|exact PuA));first|refine⟨_,EndsA,QFFtO5,?_⟩|refine fin ?_)|(apply RD_W;rfl;intro bk))
    exact⟨⟨k+1,s,some k⟩,OA,⟨OA,hi⟩,SFA,SOA⟩
   ·have b4:decide (sv=0)=false:=decide_eq_false hsv
    rw[if_neg hsv]at hi
    repeat (first|(apply RL_pu;rfl;exact ZpV)|(apply RD_Q;rfl;rfl;decide +kernel;rfl;rfl;exact QyFtO5)|refine walk1 ?_|(refine jn ?_;(try intro F);(first|(refine bx ?_;intro bk)|(refine stA ?_)|(apply Zac;first|exact ZpV|exact PuA));first|refine⟨_,EndsA,QFFtO5,?_⟩|refine fin ?_)|(apply RD_W;rfl;intro bk))
    exact⟨⟨k+1,some k,t⟩,OA,⟨OA,hi⟩,SFA,SOA⟩
  ·have b2:(!decide (to=1048576))=true:=by rw[decide_eq_false hto];rfl
   rw[if_neg hto]at hi
   repeat (first|(apply RL_pu;rfl;exact ZxO)|(apply RD_Q;rfl;rfl;decide +kernel;rfl;rfl;exact QyFtO6)|refine walk1 ?_|(refine jn ?_;(try intro F);(first|(refine bx ?_;intro bk)|(refine stA ?_)|(apply Zac;first|exact ZxO|exact PuA));first|refine⟨_,EndsA,QFFtO6,?_⟩|refine fin ?_)|(apply RD_W;rfl;intro bk))
   exact⟨⟨k+1,s,t⟩,OA,⟨OA,hi⟩,SFA,SOA⟩
 ·simp only[decide_eq_false_iff_not,Int.ofNat_lt]at hc
  rw[List.drop_eq_nil_of_le (by omega),seF]at hi
  obtain⟨rfl,rfl⟩:=Prod.mk.inj hi
  simp only[Option.map_some]
  repeat (first|(apply RL_pu;rfl;exact Zuf)|(apply RD_Q;rfl;rfl;decide +kernel;rfl;rfl;exact ZwH)|refine walk1 ?_|(refine jg ?_;(try intro F);(first|(refine Zab htw ?_)|(refine bx ?_;intro bk)|(refine stA ?_));first|refine⟨_,EndsA,ZwZ,?_⟩|refine fin ?_)|(refine jn ?_;(try intro F);(first|(refine bx ?_;intro bk)|(refine stA ?_)|(apply Zac;first|exact Zuf|exact PuA));first|refine⟨_,EndsA,ZwZ,?_⟩|refine fin ?_)|(apply RD_W;rfl;intro bk))
  exact rtC
end Go.Proofs.YtpipekfmecikmaaGreatDoor
namespace Go.Proofs.YtpipekfmecikmaaGreatDoor
open Go Go.RowKit Go.Wk
def seU (a:Option Nat × Option Nat)(r:DRule)(i:Nat):Option Nat × Option Nat:=if r.save=0 then (a.1,some i) else (some i,a.2)
theorem ZsA:∀ (l:List DRule) (i:Nat) (a:Option Nat × Option Nat),(l.filter fun r=>decide (r.to=1048576))=[]->seF l i a=a/\∀ (k:Nat) r,l[k]?=some r->r.to≠1048576
 | [],_,_,_=>⟨rfl,fun k r h=>by simp at h⟩
 | x::l,i,a,h=>by
  rw[List.filter_cons]at h
  by_cases hx:x.to=1048576
  ·rw[if_pos (decide_eq_true hx)]at h;cases h
  rw[if_neg (by simp[hx])]at h
  obtain⟨h1,h2⟩:=ZsA l (i+1) a h
  rw[seF,if_neg hx]
  refine⟨h1,fun k r hk=>?_⟩
  rcases k with _|k
  ·simp only[List.getElem?_cons_zero,Option.some.injEq]at hk
   subst hk
   exact hx
  ·exact h2 k r (by simpa using hk)
theorem Zwf {b:DRule}:∀ (l:List DRule) (i:Nat) (a:Option Nat × Option Nat),(l.filter fun r=>decide (r.to=1048576))=[b]->∃ k,l[k]?=some b/\b.to=1048576/\seF l i a=seU a b (i+k)/\∀ (j:Nat) r,l[j]?=some r->r.to=1048576->j=k
 | [],_,_,h=>by cases h
 | x::l,i,a,h=>by
  rw[List.filter_cons]at h
  by_cases hx:x.to=1048576
  ·rw[if_pos (decide_eq_true hx)]at h
   obtain⟨h9,h8⟩:=List.cons.inj h
   subst h9
   obtain⟨h1,h2⟩:=ZsA l (i+1) (seU a x i) h8
   refine⟨0,rfl,hx,?_,fun j r hj hr=>?_⟩
   ·rw[seF,if_pos hx]
    exact h1
   ·rcases j with _|j
    ·rfl
    ·exact absurd hr (h2 j r (by simpa using hj))
  ·rw[if_neg (by simp[hx])]at h
   obtain⟨k,h1,h2,h3,h4⟩:=Zwf l (i+1) a h
   refine⟨k+1,by simpa using h1,h2,?_,fun j r hj hr=>?_⟩
   ·rw[seF,if_neg hx,h3,show i+(k+1)=i+1+k by omega]
   ·rcases j with _|j
    ·simp only[List.getElem?_cons_zero,Option.some.injEq]at hj
     subst hj
     exact absurd hr hx
    ·rw[h4 j r (by simpa using hj) hr]
theorem Zwe {b c:DRule}:∀ (l:List DRule) (i:Nat) (a:Option Nat × Option Nat),(l.filter fun r=>decide (r.to=1048576))=[b,c]->∃ k m,k≠m/\l[k]?=some b/\l[m]?=some c/\b.to=1048576/\c.to=1048576/\seF l i a=seU (seU a b (i+k)) c (i+m)/\∀ (j:Nat) r,l[j]?=some r->r.to=1048576->j=k\/j=m
 | [],_,_,h=>by cases h
 | x::l,i,a,h=>by
  rw[List.filter_cons]at h
  by_cases hx:x.to=1048576
  ·rw[if_pos (decide_eq_true hx)]at h
   obtain⟨h9,h8⟩:=List.cons.inj h
   subst h9
   obtain⟨m,h1,h2,h3,h4⟩:=Zwf l (i+1) (seU a x i) h8
   refine⟨0,m+1,by omega,rfl,by simpa using h1,hx,h2,?_,fun j r hj hr=>?_⟩
   ·rw[seF,if_pos hx]
    show seF l (i+1) (seU a x i)=_
    rw[h3,show i+(m+1)=i+1+m by omega]
    rfl
   ·rcases j with _|j
    ·exact .inl rfl
    ·exact .inr (by rw[h4 j r (by simpa using hj) hr])
  ·rw[if_neg (by simp[hx])]at h
   obtain⟨k,m,h0,h1,h2,h3,h4,h5,h6⟩:=Zwe l (i+1) a h
   refine⟨k+1,m+1,by omega,by simpa using h1,by simpa using h2,h3,h4,?_,fun j r hj hr=>?_⟩
   ·rw[seF,if_neg hx,h5,show i+(k+1)=i+1+k by omega,show i+(m+1)=i+1+m by omega]
   ·rcases j with _|j
    ·simp only[List.getElem?_cons_zero,Option.some.injEq]at hj
     subst hj
     exact absurd hr hx
    ·rcases h6 j r (by simpa using hj) hr with h|h
     ·exact .inl (by rw[h])
     ·exact .inr (by rw[h])
theorem Zjl {l:List DRule}(h:Zff l=true):(seF l 0 (none,none)=(none,none)/\∀ (k:Nat) r,l[k]?=some r->r.to≠1048576) \/
  ∃ i j a b,i≠j/\l[i]?=some a/\l[j]?=some b/\a.to=1048576/\b.to=1048576/\a.save≠0/\b.save=0/\seF l 0 (none,none)=(some i,some j)/\∀ (k:Nat) r,l[k]?=some r->r.to=1048576->k=i\/k=j:=by
 unfold Zff at h
 split at h
 ·rename_i he
  exact .inl (ZsA l 0 _ he)
 ·rename_i b c he
  obtain⟨k,m,h0,h1,h2,h3,h4,h5,h6⟩:=Zwe l 0 (none,none) he
  rw[Nat.zero_add,Nat.zero_add]at h5
  have hbc:(decide (b.save=0) != decide (c.save=0))=true:=by
   simp only[Bool.and_eq_true]at h
   exact h.1.1.1
  by_cases hb:b.save=0
  ·have hc:c.save≠0:=fun hc=>by rw[decide_eq_true hb,decide_eq_true hc]at hbc;cases hbc
   refine .inr ⟨m,k,c,b,fun hh=>h0 hh.symm,h2,h1,h4,h3,hc,hb,?_,fun j r hj hr=>(h6 j r hj hr).symm⟩
   rw[h5]
   unfold seU
   rw[if_neg hc,if_pos hb]
  ·have hc:c.save=0:=by
    by_cases hc:c.save=0
    ·exact hc
    ·rw[decide_eq_false hb,decide_eq_false hc]at hbc;cases hbc
   refine .inr ⟨k,m,b,c,h0,h1,h2,h3,h4,hb,hc,?_,h6⟩
   rw[h5]
   unfold seU
   rw[if_pos hc,if_neg hb]
 ·cases h
def ofF (s:DSource)(l:List DEra):Zbx :=
 if (ZdD l).kind=2 then
  match seF (ofB s.rules (ZdD l).set) 0 (none,none) with
  | (some i,some j)=>Zgv (ZdD l) ((ofB s.rules (ZdD l).set).getD i dR0) ((ofB s.rules (ZdD l).set).getD j dR0)
  | _=>match befD (ofB s.rules (ZdD l).set) 1152921504606846976 with
   | some x=>Zbi (ZdD l) (ruE (ofB s.rules (ZdD l).set) x).save (ruE (ofB s.rules (ZdD l).set) x).letter
   | none=>Zbi (ZdD l) 0 ByteArray.empty
 else Zbi (ZdD l) (ZdD l).save ByteArray.empty
end Go.Proofs.YtpipekfmecikmaaGreatDoor
namespace Go.Wk
open Go Go.RowKit
section
variable {P:Program}{n:Nat}{wr:World}{fr:Fr}{O:List It}{ty:TypeId}
theorem Zq7 {t t':TypeId}{x:Operand}(hu:∃ te,P.underlying t=some (.pointer te))(hx:ev fr x=some (.pointer none)):Pu P n wr fr O (.binOp .neq t x (.const (.pointer none)) t') ty (.bool false):=fun a w hs _ _ _ _=>by
 obtain⟨te,hu⟩:=hu
 have hc:a.eval (.const (.pointer none)) = .pointer none:=rfl
 have h:(binOp .neq t (.pointer none) (.pointer none)).run P w = .ok (.bool false) w:=by
  have:∀ d,(Op.equalIn (d+1) t (.pointer none) (.pointer none)).run P w = .ok true w:=fun d=>by
   simp[Op.equalIn,run_underlying hu]
  have hb:binOp .neq t (.pointer none) (.pointer none)=(do pure (.bool (!(<- Op.equal t (.pointer none) (.pointer none))))):=rfl
  rw[hb,show Op.equal t (.pointer none) (.pointer none)=Op.equalIn (9999+1) t (.pointer none) (.pointer none) from rfl]
  simp only[Sem.run_bind,this 9999,Result.andThen_ok,Sem.run_pure,Bool.not_true]
 have hg:(eqGuard .neq t x (.const (.pointer none)) (.pointer none) (.pointer none)).run P w = .ok () w:=by
  simp[eqGuard]
 simp only[execOp,hs.sim.ev hx,hc,Sem.run_bind,hg,Result.andThen_ok,h,Sem.run_pure]
end
end Go.Wk
namespace Go.Proofs.YtpipekfmecikmaaGreatDoor
open Go Go.RowKit Go.Wk
attribute [local irreducible] W RL Does Zat Zaj retQ Calls Pu Stp RD Qy Ay Zak
theorem ZxQ {G:Prop}(h:G:=by(first|(apply Pu_indexAddr;rfl;rfl;omega;omega;exact hna2)|(apply Pu_loadON;rfl;exact hca2;rfl)|(apply Zal;rfl;rfl;exact b3))):G:=h
theorem ZpY {G:Prop}(h:G:=by(first|(apply Zap;rfl;rfl;omega;omega;(intro w' _ hO;exact(ZaD (hO.of (A := .row (.slice B R.length d) 68 11 R.length (R.flatMap DRule.enc)) (by repeat' constructor)) hg1).1))|(apply ZaS;rfl;(focus repeat' constructor);exact hgn;rfl)|(apply Zal;rfl;rfl;exact b2)|(apply Zan;rfl;rfl;exact b4))):G:=h
theorem ZxP {G:Prop}(h:G:=by(first|(apply Zap;rfl;rfl;omega;omega;(intro w' _ hO;exact(ZaD (hO.of (A := .row (.slice B R.length d) 68 11 R.length (R.flatMap DRule.enc)) (by repeat' constructor)) hg1).1))|(apply ZaS;rfl;(focus repeat' constructor);exact hgn;rfl)|(apply Zal;rfl;rfl;exact b2))):G:=h
theorem Zuh {G:Prop}(h:G:=by(first|(apply Zq7;exact⟨_,Tryz.underlying88⟩;rfl)|(apply Zap;rfl;rfl;omega;omega;(intro w' _ hO;exact(ZaD (hO.of (A := .row (.slice B R.length d) 68 11 R.length (R.flatMap DRule.enc)) (by repeat' constructor)) hgx1).1))|(apply ZaS;rfl;(focus repeat' constructor);exact hgx;exact DRule.len r))):G:=h
theorem ZwI {G:Prop}(h:G:=by first|(apply Qy_y;rfl;exact Zuh)|exact QyA):G:=h
theorem Zw0 {G:Prop}(h:G:=by repeat (first|exact QF.nil|(apply QF.mk;rfl;rfl;decide +kernel;exact ZwI))):G:=h
theorem Zu7 (Ar Az Al As:Option Addr)(cr cz cl cs:Nat)(a:DSource)(k:Nat)(z:DZone)(e:DEra)(x:Zad)(r:DRule)(w:World)(h:Zb7 w Ar Az Al As cr cz cl cs a)(hf:accD a=none)(hk:a.zones[k]?=some z)(he:z.eras[z.eras.length - 1]?=some e)
  (hkd:e.kind=2) (hE1:FtE e) (hse:seF (ZaJ a z.eras) 0 (none,none)=(none,none)) (hbx:befD (ZaJ a z.eras) 1152921504606846976=some x) (hx:0<=x.rule) (hrx:(ZaJ a z.eras)[x.rule.toNat]?=some r) (hr:FtRu r) (hR:ZyP (ZaJ a z.eras)) :
  Does Tryz.prog 9 [srcV Ar Az Al As cr cz cl cs a,.int .i64 k] w (fun v O=>v = .tuple #[.agg (Zbi e r.save r.letter).enc.toArray,.int .i64 0]/\O=[]):=by
 obtain⟨hna,cs1,⟨A,c,hE,rfl⟩,hca⟩:=h.A.z k _ hk
 have hl:0<z.eras.length:=by have:=(List.getElem?_eq_some_iff.1 he).1;omega
 have hfi:=fun w' (hw:Bel w.heap.size w w')=>Zkt Ar Az Al As cr cz cl cs a k z A c w' (h.up hw) hf hk hna (hca.up hw (Nat.le_refl _)) (hE.up hw) (List.length_pos_iff.1 hl)
 have htw:=fun w' (hw:Bel w.heap.size w w')=>ZfC e r w' (h.L.up hw) hE1 hr
 have hel:=(h.S.zs z (List.mem_of_getElem? hk)).2.1
 have hRl:=Zb0 h.S.nr z.eras
 have hbf:=fun B d w' (hw:Bel w.heap.size w w') (hA:RdSl w' B d DRule.enc 11 (ZaJ a z.eras))=>Zkv B d (ZaJ a z.eras) 1152921504606846976 w' (h.G.up hw) hA hRl hR (by decide)
 rw[hbx]at hbf
 obtain⟨hna2,hca2⟩:=hE.rd _ _ he
 rw[show z.eras.length - 1=((z.eras.length:Int) - 1).toNat by omega]at hca2
 generalize Zbi e r.save r.letter=p at *
 have b3:(!decide (e.kind=2))=false:=by rw[decide_eq_true hkd];rfl
 generalize ZaJ a z.eras=R at *
 have hxl:x.rule.toNat<R.length:=(List.getElem?_eq_some_iff.1 hrx).1
 have hgx1:=Zao DRule.len R x.rule.toNat _ 0 _ hrx rfl
 have hgx:∀ m v,(DRule.enc r)[m]?=some v->(R.flatMap DRule.enc)[x.rule.toNat*11+m]?=some v:=fun m v hm=>Zao DRule.len R _ _ m v hrx hm
 clear h hf hk hca he hE hkd hE1 hrx hr hbx hR
 obtain⟨off,kd,esv,st,fm,⟨ui,uy,um,⟨ud1,ud2,ud3⟩,⟨uc1,uc2⟩⟩⟩:=e
 obtain⟨p1,p2,p3,p4,⟨p5,p6,p7,p8,p9⟩,⟨q1,q2,q3,q4,q5⟩⟩:=p
 obtain⟨xy,xr,xn⟩:=x
 change Zau w _ [.int .i64 off,.int .i64 kd,.int .i64 esv,.string st,.string fm,.bool ui,.int .i64 uy,.int .i64 um,.int .i64 ud1,.int .i64 ud2,.int .i64 ud3,.int .i64 uc1,.int .i64 uc2]at hca2
 change ∀ w',Bel w.heap.size w w'->Does _ _ [.agg #[.int .i64 off,.int .i64 kd,.int .i64 esv,.string st,.string fm,.bool ui,.int .i64 uy,.int .i64 um,.int .i64 ud1,.int .i64 ud2,.int .i64 ud3,.int .i64 uc1,.int .i64 uc2],.agg r.enc.toArray] w' (fun v O=>v = .agg #[.string p1,.int .i64 p2,.string p3,.int .i64 p4,.int .i64 p5,.int .i64 p6,.int .i64 p7,.int .i64 p8,.int .i64 p9,.int .i64 q1,.int .i64 q2,.int .i64 q3,.int .i64 q4,.int .i64 q5]/\O=[]) at htw
 change ∀ B d w',Bel w.heap.size w w'->RdSl w' B d DRule.enc 11 R->Does _ _ _ w' (fun v O=>v = .tuple #[.agg #[.int .i64 xy,.int .i64 xr,.int .i64 xn],.bool true]/\O=[]) at hbf
 dsimp only at b3 hx hxl hgx1 hgx ⊢
 refine Zaa Tryz.func9 rfl rfl rfl rfl ?_
 repeat (first|(apply RL_pu;rfl;exact ZxQ)|(apply RD_Q;rfl;rfl;decide +kernel;rfl;rfl;exact QyFtN0)|refine walk1 ?_|(refine jg ?_;(try intro F);(first|(apply Zae (h:=fun w' hw _=>hfi w' hw);rfl;rintro v O' ⟨B,d,rfl,rfl⟩)|(refine bx ?_;intro bk)|(refine stA ?_));first|refine⟨_,EndsA,QFFtN0,?_⟩|refine fin ?_)|(refine jn ?_;(try intro F);(first|(refine bx ?_;intro bk)|(refine stA ?_)|(apply Zac;first|exact ZxQ|exact PuA));first|refine⟨_,EndsA,QFFtN0,?_⟩|refine fin ?_)|(apply RD_W;rfl;intro bk))
 rename_i b2 b4
 generalize bk=b9
 refine Zai [(4,.pointer (some ⟨b4,0,none⟩)),(7,.slice B R.length d),(9,.pointer (some ⟨b9,0,none⟩)),(41,.slice B R.length d),(42,.int .i64 R.length)] [.row (.slice B R.length d) 68 11 R.length (R.flatMap DRule.enc),.blk b9 [.int .i64 off,.int .i64 kd,.int .i64 esv,.string st,.string fm,.bool ui,.int .i64 uy,.int .i64 um,.int .i64 ud1,.int .i64 ud2,.int .i64 ud3,.int .i64 uc1,.int .i64 uc2] 75,.blk b4 [.string ByteArray.empty,.int .i64 0,.string ByteArray.empty,.int .i64 0,.int .i64 0,.int .i64 0,.int .i64 0,.int .i64 0,.int .i64 0,.int .i64 0,.int .i64 0,.int .i64 0,.int .i64 0,.int .i64 0] 33]
  (fun g:OfG=>[(43,.int .i64 g.k),(10,.pointer (g.s.map fun i=>(adr B).add (i*11))),(11,.pointer (g.e.map fun i=>(adr B).add (i*11)))]) (fun _=>[]) (fun g=>g.k<=R.length/\seF (R.drop g.k) g.k (g.s,g.e)=(none,none)) (fun g=>R.length - g.k) ⟨0,none,none⟩ SFA SOA ⟨Nat.zero_le _,hse⟩ ?_
 clear hse
 rintro⟨k,s,t⟩ ⟨hkl,hi⟩
 dsimp only at hkl hi ⊢
 repeat (first|refine walk ?_|(refine jn ?_;(try intro F);(first|(refine bx ?_;intro bk)|(refine stA ?_)|(apply Zac;exact PuA));refine fin ?_)|(apply RD_W;rfl;intro bk))
 refine Zaf rfl (fun hc=>?_) (fun hc=>?_)
 ·simp only[decide_eq_true_eq,Int.ofNat_lt]at hc
  rw[Zag hc,seF]at hi
  have hg1:=Zao DRule.len R k _ 0 _ (List.getElem?_eq_getElem hc) rfl
  have hgn:∀ j v,(DRule.enc R[k])[j]?=some v->(R.flatMap DRule.enc)[k*11+j]?=some v:=fun j v hj=>Zao DRule.len R k _ j v (List.getElem?_eq_getElem hc) hj
  generalize R[k]=r1 at *
  obtain⟨nm,fr,to,mo,⟨dk,dw,dd⟩,⟨cs',cb⟩,sv,le⟩:=r1
  simp only[DRule.enc]at hgn hg1
  dsimp only at hi
  by_cases hto:to=1048576
  ·have b2:(!decide (to=1048576))=false:=by rw[decide_eq_true hto];rfl
   rw[if_pos hto]at hi
   by_cases hsv:sv=0
   ·have b4:decide (sv=0)=true:=decide_eq_true hsv
    rw[if_pos hsv]at hi
    repeat (first|(apply RL_pu;rfl;exact ZpY)|(apply RD_Q;rfl;rfl;decide +kernel;rfl;rfl;exact QyFtN1)|refine walk1 ?_|(refine jn ?_;(try intro F);(first|(refine bx ?_;intro bk)|(refine stA ?_)|(apply Zac;first|exact ZpY|exact PuA));first|refine⟨_,EndsA,QFFtN1,?_⟩|refine fin ?_)|(apply RD_W;rfl;intro bk))
    exact⟨⟨k+1,s,some k⟩,OA,⟨OA,hi⟩,SFA,SOA⟩
   ·have b4:decide (sv=0)=false:=decide_eq_false hsv
    rw[if_neg hsv]at hi
    repeat (first|(apply RL_pu;rfl;exact ZpY)|(apply RD_Q;rfl;rfl;decide +kernel;rfl;rfl;exact QyFtN1)|refine walk1 ?_|(refine jn ?_;(try intro F);(first|(refine bx ?_;intro bk)|(refine stA ?_)|(apply Zac;first|exact ZpY|exact PuA));first|refine⟨_,EndsA,QFFtN1,?_⟩|refine fin ?_)|(apply RD_W;rfl;intro bk))
    exact⟨⟨k+1,some k,t⟩,OA,⟨OA,hi⟩,SFA,SOA⟩
  ·have b2:(!decide (to=1048576))=true:=by rw[decide_eq_false hto];rfl
   rw[if_neg hto]at hi
   repeat (first|(apply RL_pu;rfl;exact ZxP)|(apply RD_Q;rfl;rfl;decide +kernel;rfl;rfl;exact QyFtN2)|refine walk1 ?_|(refine jn ?_;(try intro F);(first|(refine bx ?_;intro bk)|(refine stA ?_)|(apply Zac;first|exact ZxP|exact PuA));first|refine⟨_,EndsA,QFFtN2,?_⟩|refine fin ?_)|(apply RD_W;rfl;intro bk))
   exact⟨⟨k+1,s,t⟩,OA,⟨OA,hi⟩,SFA,SOA⟩
 ·simp only[decide_eq_false_iff_not,Int.ofNat_lt]at hc
  rw[List.drop_eq_nil_of_le (by omega),seF]at hi
  obtain⟨rfl,rfl⟩:=Prod.mk.inj hi
  simp only[Option.map_none]
  repeat (first|refine und ?_|(apply RL_pu;rfl;exact Zuh)|(apply RD_Q;rfl;rfl;decide +kernel;rfl;rfl;exact ZwI)|refine walk1 ?_|(refine jg ?_;(try intro F);(first|(refine ZaM (fun w' hw hO=>hbf B d w' hw (ZaX DRule.len (hO.of (A := .row (.slice B R.length d) 68 11 R.length (R.flatMap DRule.enc)) (by repeat' constructor)))) ?_)|(refine Zab htw ?_)|(refine bx ?_;intro bk)|(refine stA ?_));first|refine⟨_,EndsA,Zw0,?_⟩|refine fin ?_)|(refine jn ?_;(try intro F);(first|(refine bx ?_;intro bk)|(refine stA ?_)|(apply Zac;first|exact Zuh|exact PuA));first|refine⟨_,EndsA,Zw0,?_⟩|refine fin ?_)|(apply RD_W;rfl;intro bk))
  exact rtC
def px0:Zbx:=⟨ByteArray.empty,0,ByteArray.empty,0,dt0,dt0⟩
def ofR (a:DSource)(zone:Int):Zbx × Int:=match accD a with
 | some (_,e)=>(px0,e)
 | none=>if zone<0\/(a.zones.length:Int)<=zone then (px0,3) else (ofF a ((a.zones[zone.toNat]?).map (·.eras) |>.getD []),0)
def yrD (a:DSource)(zone:Int):Int × Int:=match accD a with
 | some (_,e)=>(0,e)
 | none=>if zone<0\/(a.zones.length:Int)<=zone then (0,3) else (Zhf a ((a.zones[zone.toNat]?).map (·.eras) |>.getD []),0)
theorem Zix {a:DSource}(h:accD a=none){z:DZone}(hz:z∈a.zones):∃ e,z.eras[z.eras.length - 1]?=some e/\ZdD z.eras=e/\ZuE a.rules z.eras (z.eras.length - 1) e/\z.eras≠[]:=by
 obtain⟨_,_,_,hg⟩:=ZjP h
 have hne:=(Ze7 _ _ hg z hz).1
 have hl:0<z.eras.length:=List.length_pos_iff.2 hne
 obtain⟨e,he,e2⟩:=ZnI (l:=z.eras) (k:=z.eras.length - 1) (d:=dE0) (by omega)
 exact⟨e,he,e2,Zn7 h hz he,hne⟩
theorem Zzk (Ar Az Al As:Option Addr)(cr cz cl cs:Nat)(a:DSource)(k:Nat)(z:DZone)(w:World)(h:Zb7 w Ar Az Al As cr cz cl cs a)(hF:FtG w)(hf:accD a=none)(hk:a.zones[k]?=some z) :
  Does Tryz.prog 9 [srcV Ar Az Al As cr cz cl cs a,.int .i64 k] w (fun v O=>v = .tuple #[.agg (ofF a z.eras).enc.toArray,.int .i64 0]/\O=[]):=by
 have hz:=List.mem_of_getElem? hk
 obtain⟨e,he,hle,hE,_⟩:=Zix hf hz
 have ho:=hE.off
 have hE1:FtE e:=⟨((h.S.zs z hz).2.2 e (List.mem_of_getElem? he)).2,by omega⟩
 unfold ofF
 rw[hle]
 by_cases h2:e.kind=2
 ·have hru:ZaJ a z.eras=ofB a.rules e.set:=by unfold ZaJ;rw[hle,if_pos h2]
  rw[if_pos h2]
  have hS:=hE.set h2
  have hrs:=(hS.small (Nat.le_trans (List.length_filter_le _ _) h.S.nr)).b
  rw[<- hru]at hS hrs ⊢
  have hfr:∀ r∈ZaJ a z.eras,FtRu r:=fun r hr=>by
   obtain⟨q1,q2⟩:=hS.sv (List.mem_map.2 ⟨r,hr,rfl⟩)
   exact⟨by dsimp only at q2;omega,by dsimp only at q1;omega⟩
  rcases Zjl hS.last with⟨c1,c2⟩|⟨i,j,r,q,c1,c2,c3,c4,c5,c6,c7,c8,c9⟩
  ·rw[c1]
   dsimp only
   obtain⟨x,n,r,y,x1,hn,hy⟩:=hS.bef_some (n:=1152921504606846976) (by decide)
   have hxr:=(ZbO hy).2.1
   have hru2:ruE (ZaJ a z.eras) x=r:=by
    unfold ruE
    rw[hxr,List.getD_eq_getElem?_getD,Int.toNat_natCast,hn]
    rfl
   rw[x1]
   dsimp only
   rw[hru2]
   exact Zu7 Ar Az Al As cr cz cl cs a k z e x r w h hf hk he h2 hE1 c1 x1 (by omega) (by rw[hxr,Int.toNat_natCast];exact hn) (hfr r (List.mem_of_getElem? hn)) hrs
  ·rw[c8]
   dsimp only
   rw[List.getD_eq_getElem?_getD,List.getD_eq_getElem?_getD,c2,c3]
   exact Zv3 Ar Az Al As cr cz cl cs a k z e i j r q w h hF hf hk he h2 hE1 c8 c2 c3 (hfr r (List.mem_of_getElem? c2)) (hfr q (List.mem_of_getElem? c3))
 ·rw[if_neg h2]
  exact Zr5 Ar Az Al As cr cz cl cs a k z e w h hf hk he h2 hE1 (by have:=hE.save;omega)
theorem Zrd:∀ (l:List DRule) (y:Int),(∀ r∈l,Zcv r)->1849<=y/\y<=2149->1849<=yrR l y/\yrR l y<=2149
 | [],y,_,h=>h
 | r::l,y,hr,h=>by
  have h1:=hr r List.mem_cons_self
  have h2:=h1.f0
  have h3:=h1.f1
  have h4:=h1.t1
  rw[yrR]
  refine Zrd l _ (fun q hq=>hr q (List.mem_cons_of_mem _ hq)) ?_
  split <;> omega
theorem Zs2 {a:DSource}(h:accD a=none){z:DZone}(hz:z∈a.zones):(1849<=yr0 z.eras/\yr0 z.eras<=2149)/\∀ r∈ZaJ a z.eras,Zcv r:=by
 obtain⟨e,he,hle,hE,hne⟩:=Zix h hz
 refine⟨?_,fun r hr=>?_⟩
 ·unfold yr0
  by_cases h1:1<z.eras.length
  ·rw[if_pos h1]
   obtain⟨b,hb,e2⟩:=ZnI (l:=z.eras) (k:=z.eras.length - 2) (d:=dE0) (by omega)
   rw[e2]
   have hB:=Zn7 h hz hb
   obtain⟨_,h2,_⟩:=hB.til (by omega)
   have hl:=hB.least
   unfold ZaI at h2
   rw[if_neg (by omega)]at h2
   by_cases c1:b.til.is=false
   ·rw[if_pos c1]at h2;omega
   rw[if_neg c1]at h2
   by_cases c2:b.til.year<1850\/2149<b.til.year\/ZaH b.til.at_=false
   ·rw[if_pos c2]at h2;omega
   ·omega
  ·rw[if_neg h1];decide
 ·unfold ZaJ at hr
  rw[hle]at hr
  by_cases h2:e.kind=2
  ·rw[if_pos h2]at hr
   exact(hE.set h2).rule r hr
  ·rw[if_neg h2]at hr
   cases hr
theorem Zzj (Ar Az Al As:Option Addr)(cr cz cl cs:Nat)(a:DSource)(zone:Int)(w:World)(h:Zb7 w Ar Az Al As cr cz cl cs a)(hF:FtG w) :
  Does Tryz.prog 9 [srcV Ar Az Al As cr cz cl cs a,.int .i64 zone] w (fun v O=>v = .tuple #[.agg (ofR a zone).1.enc.toArray,.int .i64 (ofR a zone).2]/\O=[]):=by
 unfold ofR
 cases ha:accD a with
 | some x =>
  obtain⟨p,e⟩:=x
  exact Zv4 Ar Az Al As cr cz cl cs a zone e w (fun w' hw=>Zo5 Ar Az Al As cr cz cl cs a zone p e w' (h.up hw) ha (Zfi ha)) (Zfi ha)
 | none =>
  dsimp only
  by_cases hz:zone<0\/(a.zones.length:Int)<=zone
  ·rw[if_pos hz]
   exact Zv4 Ar Az Al As cr cz cl cs a zone 3 w (fun w' hw=>Zo4 Ar Az Al As cr cz cl cs a zone w' (h.up hw) ha hz) (by decide)
  ·rw[if_neg hz]
   obtain⟨k,rfl⟩:∃ k:Nat,(k:Int)=zone:=⟨zone.toNat,by omega⟩
   have hk:=List.getElem?_eq_getElem (l:=a.zones) (i:=k) (by omega)
   rw[Int.toNat_natCast,hk]
   exact Zzk Ar Az Al As cr cz cl cs a k _ w h hF ha hk
theorem ZuG (Ar Az Al As:Option Addr)(cr cz cl cs:Nat)(a:DSource)(zone:Int)(w:World)(h:Zb7 w Ar Az Al As cr cz cl cs a) :
  Does Tryz.prog 11 [srcV Ar Az Al As cr cz cl cs a,.int .i64 zone] w (fun v O=>v = .tuple #[.int .i64 (yrD a zone).1,.int .i64 (yrD a zone).2]/\O=[]):=by
 unfold yrD
 cases ha:accD a with
 | some x =>
  obtain⟨p,e⟩:=x
  exact ZoA Ar Az Al As cr cz cl cs a zone e w (fun w' hw=>Zo5 Ar Az Al As cr cz cl cs a zone p e w' (h.up hw) ha (Zfi ha)) (Zfi ha)
 | none =>
  dsimp only
  by_cases hz:zone<0\/(a.zones.length:Int)<=zone
  ·rw[if_pos hz]
   exact ZoA Ar Az Al As cr cz cl cs a zone 3 w (fun w' hw=>Zo4 Ar Az Al As cr cz cl cs a zone w' (h.up hw) ha hz) (by decide)
  ·rw[if_neg hz]
   obtain⟨k,rfl⟩:∃ k:Nat,(k:Int)=zone:=⟨zone.toNat,by omega⟩
   have hk:=List.getElem?_eq_getElem (l:=a.zones) (i:=k) (by omega)
   rw[Int.toNat_natCast,hk]
   have hzm:=List.mem_of_getElem? hk
   obtain⟨q1,q2⟩:=Zs2 ha hzm
   have q3:=Zrd _ _ q2 q1
   obtain⟨_,_,_,_,hne⟩:=Zix ha hzm
   exact Zj2 Ar Az Al As cr cz cl cs a k _ w h ha hk hne (by unfold Zhf;omega)
end Go.Proofs.YtpipekfmecikmaaGreatDoor
