/- Parts of the proof. -/
import Derived.Test.YtdlmhmmhdbbliaaGreatDoorV21
import Derived.Test.YtdlmhmmhdbbliaaGreatDoorV07
import Derived.Shelf.SlSortCmp.NoneTotal
import Derived.Shelf.Lay
import Derived.Test.YtdlmhmmhdbbliaaGreatDoorV06
set_option maxHeartbeats 4000000
set_option linter.unusedVariables false
set_option linter.unusedSimpArgs false
namespace Go.Proofs.YtdlmhmmhdbbliaaGreatDoor
open Go Go.RowKit Go.Wk Go.Lib
attribute [local irreducible] W RL Does Zau Zak retQ Calls Pu Stp RD Qy Ay Zaj RW
theorem LibW.up {w w':World}(h:LibW w)(hb:Bel w.heap.size w w'):LibW w' where
 mxl:=by
  obtain⟨m,hm⟩:=h.mxl
  exact⟨m,(hb.cell (World.block_lt_of_cell? w _ hm)).trans hm⟩
 syn:=by
  obtain⟨ev,h1,h2⟩:=h.syn
  exact⟨ev,(hb.cell (World.block_lt_of_cell? w _ h1)).trans h1,h2⟩
theorem Zld (s:ByteArray)(w:World)(hL:LibW w)(hs:s.size<=1000000000000):Does Tryz.prog 154 [.string s] w (fun v O=>v = .bool (ZbO s.data.toList).isSome/\O=[]):=by
 have hp:=fun w' (hw:Bel w.heap.size w w')=>Zre s w' (fun w2 hw2=>(hL.up hw).up hw2) hs
 refine Zaa Tryz.func154 rfl rfl rfl rfl ?_
 generalize ZbO s.data.toList=o at *
 cases o with
 | none =>
  simp only[prV]at hp
  repeat (first|(refine js ?_;(refine Zac hp ?_))|refine walk ?_)
  exact rtA
 | some x =>
  simp only[prV]at hp
  repeat (first|(refine js ?_;(refine Zac hp ?_))|refine walk ?_)
  exact rtA
theorem Zlo (f p:List UInt8):(cutV f p).1.length+(cutV f p).2.1.length<=f.length:=by
 unfold cutV
 split
 ·rename_i a b h
  have:=Zne h
  simp only[List.length_nil]at this
  dsimp only
  omega
 ·simp
def arV (l:List UInt8):Value := .tuple #[.string ⟨(cutV l [37,115]).1.toArray⟩,.string ⟨(cutV l [37,115]).2.1.toArray⟩,.bool (Zcc l).isSome]
theorem ZAP (l:List UInt8):(Zcc l).isSome=((cutV l [37,115]).2.2&&(Zdf ((cutV l [37,115]).1++(cutV l [37,115]).2.1)&&decide (((cutV l [37,115]).1++(cutV l [37,115]).2.1).length<=5))):=by
 unfold Zcc cutV
 cases ZdE [37,115] l [] with
 | none=>rfl
 | some ab =>
  obtain⟨a,b⟩:=ab
  dsimp only
  by_cases h1:Zdf (a++b)=true
  ·by_cases h2:(a++b).length<=5
   ·rw[if_pos ⟨h1,h2⟩,h1,decide_eq_true h2];rfl
   ·rw[if_neg (fun h=>h2 h.2),decide_eq_false h2,Bool.and_false,Bool.and_false];rfl
  ·rw[if_neg (fun h=>h1 h.1),show Zdf (a++b)=false from by simpa using h1,Bool.false_and,Bool.and_false];rfl
theorem Zz2 {G:Prop}(h:G:=by(first|(apply Ze4;rfl;rfl;exact hss)|(apply ZaS;rfl;rfl;exact hil)|(apply Zcg;rfl;rfl;exact h5))):G:=h
theorem ZnV {G G':Prop}(k:G')(h:Hold G'->G:=by intro k9;(first|(apply RL_pu;rfl;exact Zz2)|(refine js ?_;(first|(refine Zac hc ?_)|(refine Zac (fun w' hw=>hix w') ?_)))|refine walk1 ?_);exact k9.out):G:=h ⟨k⟩
theorem Zjj (f:ByteArray)(w:World)(hL:LibW w)(hs:f.size<=1000000000):Does Tryz.prog 103 [.string f] w (fun v O=>v=arV f.data.toList/\O=[]):=by
 have hc:=fun w' (hw:Bel w.heap.size w w')=>Zln f ⟨#[37,115]⟩ w' (hL.up hw) (by omega)
 rw[show(⟨#[37,115]⟩:ByteArray).data.toList=[37,115] from rfl]at hc
 have hl:=Zlo f.data.toList [37,115]
 have hfs:f.data.toList.length=f.size:=by simp
 rw[hfs]at hl
 unfold arV
 rw[ZAP]
 obtain⟨ab,hab⟩:∃ ab,cutV f.data.toList [37,115]=ab:=⟨_,rfl⟩
 rw[hab]at hc hl ⊢
 obtain⟨a,b,ok⟩:=ab
 dsimp only at hc hl ⊢
 have hix:=fun w'=>ZwK (⟨a.toArray⟩++⟨b.toArray⟩) w'
 have hd:((⟨a.toArray⟩:ByteArray)++⟨b.toArray⟩).data.toList=a++b:=by simp
 have hs1:(⟨a.toArray⟩:ByteArray).size=a.length:=by show a.toArray.size=a.length;simp
 have hs2:(⟨b.toArray⟩:ByteArray).size=b.length:=by show b.toArray.size=b.length;simp
 have hsz:((⟨a.toArray⟩:ByteArray)++⟨b.toArray⟩).size=(a++b).length:=by rw[ByteArray.size_append,hs1,hs2,List.length_append]
 have h1:=ZtH ((⟨a.toArray⟩:ByteArray)++⟨b.toArray⟩) ((⟨a.toArray⟩:ByteArray)++⟨b.toArray⟩).size 0 (by omega)
 rw[List.drop_zero,hd]at h1
 have hil:decide (idxFunc (fun r=>ZdN (r:Int)) true ((⟨a.toArray⟩:ByteArray)++⟨b.toArray⟩)<0)=Zdf (a++b):=by
  rw[Bool.eq_iff_iff,decide_eq_true_eq]
  exact h1
 have h5:decide (((((⟨a.toArray⟩:ByteArray)++⟨b.toArray⟩).size:Nat):Int)<=5)=decide ((a++b).length<=5):=by
  rw[decide_eq_decide]
  omega
 have hss:(⟨a.toArray⟩:ByteArray).size+(⟨b.toArray⟩:ByteArray).size<=9223372036854775807:=by omega
 clear h1
 generalize idxFunc (fun r=>ZdN (r:Int)) true ((⟨a.toArray⟩:ByteArray)++⟨b.toArray⟩)=i at *
 generalize Zdf (a++b)=lt at *
 generalize decide ((a++b).length<=5)=l5 at *
 refine Zaa Tryz.func103 rfl rfl rfl rfl ?_
 cases ok with
 | false =>
  repeat refine ZnV ?_
  exact ZhR _ _ _ [] (.tmp rfl) (.tmp rfl) (.tmp rfl) .nil ⟨rfl,rfl⟩
 | true =>
  cases lt with
  | false =>
   repeat refine ZnV ?_
   exact ZhR _ _ _ [] (.tmp rfl) (.tmp rfl) (.tmp rfl) .nil ⟨rfl,rfl⟩
  | true =>
   repeat refine ZnV ?_
   exact ZhR _ _ _ [] (.tmp rfl) (.tmp rfl) (.tmp rfl) .nil ⟨rfl,rfl⟩
def ZmJ (ab0 ok ab1 ab2 ar q4 i0 i1 i2:Bool):Int:=if ab0 then 1 else if ok&&(ab1&&ab2) then 2 else if ar then 3 else if q4 then 4 else if i0||(ok&&(i1&&i2)) then 5 else 0
theorem Zp7 (l:List UInt8):ZbQ l=ZmJ (ZcW l) (cutV l [47]).2.2 (ZcW (cutV l [47]).1) (ZcW (cutV l [47]).2.1) (Zcc l).isSome (decide (l=[37,122])) (ZbO l).isSome (ZbO (cutV l [47]).1).isSome (ZbO (cutV l [47]).2.1).isSome:=by
 unfold ZbQ ZmJ cutV
 cases ZdE [47] l [] with
 | none=>simp
 | some ab=>simp
theorem ZiG (f:ByteArray)(w:World)(hL:LibW w)(hs:f.size<=1000000000):Does Tryz.prog 102 [.string f] w (fun v O=>v = .int .i64 (ZbQ f.data.toList)/\O=[]):=by
 have hc:=fun w' (hw:Bel w.heap.size w w')=>Zln f ⟨#[47]⟩ w' (hL.up hw) (by omega)
 rw[show(⟨#[47]⟩:ByteArray).data.toList=[47] from rfl]at hc
 have hl:=Zlo f.data.toList [47]
 have hfs:f.data.toList.length=f.size:=by simp
 rw[hfs]at hl
 have har:=fun w' (hw:Bel w.heap.size w w')=>Zjj f w' (hL.up hw) hs
 unfold arV at har
 rw[Zp7]
 have hq:decide (f=⟨#[37,122]⟩)=decide (f.data.toList=[37,122]):=by
  rw[decide_eq_decide]
  exact⟨fun h=>by rw[h],fun h=>by
   apply ByteArray.ext
   rw[<- Array.toArray_toList (xs:=f.data),h]⟩
 obtain⟨ab,hab⟩:∃ ab,cutV f.data.toList [47]=ab:=⟨_,rfl⟩
 rw[hab]at hc hl ⊢
 obtain⟨a,b,ok⟩:=ab
 dsimp only at hc hl ⊢
 have hs1:(⟨a.toArray⟩:ByteArray).size=a.length:=by show a.toArray.size=a.length;simp
 have hs2:(⟨b.toArray⟩:ByteArray).size=b.length:=by show b.toArray.size=b.length;simp
 have a0:=fun w'=>ZgJ f (by omega) w'
 have a1:=fun w'=>ZgJ ⟨a.toArray⟩ (by omega) w'
 have a2:=fun w'=>ZgJ ⟨b.toArray⟩ (by omega) w'
 have i0:=fun w' (hw:Bel w.heap.size w w')=>Zld f w' (hL.up hw) (by omega)
 have i1:=fun w' (hw:Bel w.heap.size w w')=>Zld ⟨a.toArray⟩ w' (hL.up hw) (by omega)
 have i2:=fun w' (hw:Bel w.heap.size w w')=>Zld ⟨b.toArray⟩ w' (hL.up hw) (by omega)
 rw[show Zr0 f=ZcW f.data.toList from rfl]at a0
 rw[show Zr0 ⟨a.toArray⟩=ZcW a from rfl]at a1
 rw[show Zr0 ⟨b.toArray⟩=ZcW b from rfl]at a2
 rw[show(⟨a.toArray⟩:ByteArray).data.toList=a from rfl]at i1
 rw[show(⟨b.toArray⟩:ByteArray).data.toList=b from rfl]at i2
 generalize ZcW f.data.toList=A0 at *
 generalize ZcW a=A1 at *
 generalize ZcW b=A2 at *
 generalize (ZbO f.data.toList).isSome=I0 at *
 generalize (ZbO a).isSome=I1 at *
 generalize (ZbO b).isSome=I2 at *
 generalize (Zcc f.data.toList).isSome=ar at *
 generalize decide (f.data.toList=[37,122])=q4 at *
 refine Zaa Tryz.func102 rfl rfl rfl rfl ?_
 repeat' (first|(apply RL_pu;rfl;(apply ZcY;rfl;rfl;exact hq))|(refine js ?_;(first|(refine Zac hc ?_)|(refine Zac har ?_)|(refine Zac (fun w' hw=>a0 w') ?_)|(refine Zac (fun w' hw=>a1 w') ?_)|(refine Zac (fun w' hw=>a2 w') ?_)|(refine Zac i0 ?_)|(refine Zac i1 ?_)|(refine Zac i2 ?_)))|refine walk1 ?_|refine und ?_|(refine Zat rfl rfl rfl (fun hc=>?_) (fun hc=>?_))|(refine Zas rfl rfl rfl (fun hc=>?_) (fun hc=>?_))|(refine Zaf rfl (fun hc=>?_) (fun hc=>?_)))
 all_goals first|(refine ret_1 _ [] (.tmp rfl) .nil ⟨?_,rfl⟩;first|rfl|(simp only[*,Bool.true_and,Bool.false_and,Bool.true_or,Bool.false_or,Bool.not_true,Bool.not_false];done)|(simp_all [ZmJ];done)|(simp_all [ZmJ];omega)|(simp_all [ZmJ];rw[Bool.eq_iff_iff];simp;omega))|(exfalso;simp_all [ZmJ];done)|(exfalso;simp_all [ZmJ];omega)|(exfalso;omega)
end Go.Proofs.YtdlmhmmhdbbliaaGreatDoor
namespace Go.Wk
open Go Go.RowKit
end Go.Wk
namespace Go.Proofs.YtdlmhmmhdbbliaaGreatDoor
open Go Go.RowKit Go.Wk Go.Lib
attribute [local irreducible] W RL Does Zau Zak retQ Calls Pu Stp RD Qy Ay Zaj RW
def ptsV:Option (List UInt8 × List UInt8)->Value
 | none => .tuple #[.string ByteArray.empty,.string ByteArray.empty,.bool false]
 | some (a,b) => .tuple #[.string ⟨a.toArray⟩,.string ⟨b.toArray⟩,.bool true]
theorem Zs0 (l:List UInt8):ZcB l=if (cutV l [47]).2.2=true/\(ZbQ l=2\/ZbQ l=5) then some ((cutV l [47]).1,(cutV l [47]).2.1) else none:=by
 unfold ZcB cutV
 cases ZdE [47] l [] with
 | none=>simp
 | some ab=>simp
theorem ZwG (l:List UInt8)(h:ZbQ l=3):Zcc l=some ((cutV l [37,115]).1,(cutV l [37,115]).2.1):=by
 have hs:(Zcc l).isSome=true:=by
  rw[Zp7]at h
  unfold ZmJ at h
  cases hx:(Zcc l).isSome with
  | true=>rfl
  | false =>
   rw[hx]at h
   exfalso
   revert h
   repeat' split
   all_goals first|decide|(intro h;omega)|simp_all
 unfold Zcc cutV at *
 cases hc:ZdE [37,115] l [] with
 | none=>rw[hc]at hs;cases hs
 | some ab =>
  rw[hc]at hs
  dsimp only at hs ⊢
  split at hs
  ·rename_i h1;rw[if_pos h1]
  ·cases hs
theorem ZvG {G:Prop}(h:G:=by(first|(apply ZlI;rfl;rfl;exact hw)|(apply ZaC;rfl;rfl;exact b1)|(apply ZaC;rfl;rfl;exact b2)|(apply Zaz;rfl;rfl;exact b3))):G:=h
theorem ZvF {G:Prop}(h:G:=by(first|(apply ZlI;rfl;rfl;exact hw)|(apply ZaC;rfl;rfl;exact b1)|(apply ZaC;rfl;rfl;exact b2))):G:=h
theorem Zjn (a b:Int)(ha:I64 a)(hb:I64 b)(w:World):Does Tryz.prog 106 [.int .i64 a,.int .i64 b] w (fun v O=>v = .tuple #[.int .i64 (if Zdr (a+b) then a+b else 0),.bool (Zdr (a+b))]/\O=[]):=by
 unfold I64 at ha hb
 have hw:IntKind.i64.wrap (a+b)=if a+b < -9223372036854775808 then a+b+18446744073709551616 else if 9223372036854775807<a+b then a+b - 18446744073709551616 else a+b:=by
  rw[IntKind.wrap_i64]
  repeat' split
  all_goals omega
 refine Zaa Tryz.func106 rfl rfl rfl rfl ?_
 by_cases hlo:a+b < -9223372036854775808
 ·rw[if_pos hlo]at hw
  have hok:Zdr (a+b)=false:=by unfold Zdr;rw[decide_eq_false (by omega)];rfl
  have b1:decide (a<a+b+18446744073709551616)=true:=decide_eq_true (by omega)
  have b2:decide (0<b)=false:=decide_eq_false (by omega)
  have b3:(!decide (b=0))=true:=by rw[decide_eq_false (by omega)];rfl
  rw[hok]
  repeat (first|(apply RL_pu;rfl;exact ZvG)|refine walk1 ?_)
  exact rtB
 rw[if_neg hlo]at hw
 by_cases hhi:9223372036854775807<a+b
 ·rw[if_pos hhi]at hw
  have hok:Zdr (a+b)=false:=by unfold Zdr;rw[decide_eq_false (show ¬ a+b<=9223372036854775807 by omega),Bool.and_false]
  have b1:decide (a<a+b - 18446744073709551616)=false:=decide_eq_false (by omega)
  have b2:decide (0<b)=true:=decide_eq_true (by omega)
  have b3:(!decide (b=0))=true:=by rw[decide_eq_false (by omega)];rfl
  rw[hok]
  repeat (first|(apply RL_pu;rfl;exact ZvG)|refine walk1 ?_)
  exact rtB
 rw[if_neg hhi]at hw
 have hok:Zdr (a+b)=true:=by unfold Zdr;rw[decide_eq_true (by omega),decide_eq_true (by omega)];rfl
 rw[hok,if_pos rfl]
 by_cases hp:0<b
 ·have b1:decide (a<a+b)=true:=decide_eq_true (by omega)
  have b2:decide (0<b)=true:=decide_eq_true hp
  repeat (first|(apply RL_pu;rfl;exact ZvF)|refine walk1 ?_)
  exact rtB
 ·have b1:decide (a<a+b)=false:=decide_eq_false (by omega)
  have b2:decide (0<b)=false:=decide_eq_false hp
  repeat (first|(apply RL_pu;rfl;exact ZvF)|refine walk1 ?_)
  exact rtB
theorem ZvE {G:Prop}(h:G:=by(apply Zaz;rfl;rfl;exact b2)):G:=h
theorem Zrc (f:ByteArray)(w:World)(hL:LibW w)(hs:f.size<=1000000000):Does Tryz.prog 101 [.string f] w (fun v O=>v=ptsV (ZcB f.data.toList)/\O=[]):=by
 have hc:=fun w' (hw:Bel w.heap.size w w')=>Zln f ⟨#[47]⟩ w' (hL.up hw) (by omega)
 rw[show(⟨#[47]⟩:ByteArray).data.toList=[47] from rfl]at hc
 have hk:=fun w' (hw:Bel w.heap.size w w')=>ZiG f w' (hL.up hw) hs
 rw[Zs0]
 generalize ZbQ f.data.toList=K at *
 generalize cutV f.data.toList [47]=ab at *
 obtain⟨a,b,ok⟩:=ab
 dsimp only at hc ⊢
 refine Zaa Tryz.func101 rfl rfl rfl rfl ?_
 cases ok with
 | false =>
  rw[if_neg (by rintro⟨h,_⟩;cases h)]
  repeat (first|refine und ?_|(refine js ?_;(first|(refine Zac hc ?_)|(refine Zac hk ?_)))|refine walk ?_)
  exact ZhR _ _ _ [] (.tmp rfl) (.tmp rfl) (.tmp rfl) .nil ⟨rfl,rfl⟩
 | true =>
  by_cases h2:K=2
  ·subst h2
   rw[if_pos ⟨rfl,.inl rfl⟩]
   repeat (first|(refine js ?_;(first|(refine Zac hc ?_)|(refine Zac hk ?_)))|refine walk ?_)
   exact ZhR _ _ _ [] (.tmp rfl) (.tmp rfl) (.tmp rfl) .nil ⟨rfl,rfl⟩
  ·have b2:(!decide (K=2))=true:=by rw[decide_eq_false h2];rfl
   by_cases h5:K=5
   ·subst h5
    rw[if_pos ⟨rfl,.inr rfl⟩]
    repeat (first|(apply RL_pu;rfl;exact ZvE)|(refine js ?_;(first|(refine Zac hc ?_)|(refine Zac hk ?_)))|refine walk1 ?_)
    exact ZhR _ _ _ [] (.tmp rfl) (.tmp rfl) (.tmp rfl) .nil ⟨rfl,rfl⟩
   ·have b5:(!decide (K=5))=true:=by rw[decide_eq_false h5];rfl
    rw[if_neg (by rintro⟨_,h|h⟩;exact h2 h;exact h5 h)]
    repeat (first|(apply RL_pu;rfl;(first|exact ZvE|(apply Zaz;rfl;rfl;exact b5)))|(refine js ?_;(first|(refine Zac hc ?_)|(refine Zac hk ?_)))|refine walk1 ?_)
    exact ZhR _ _ _ [] (.tmp rfl) (.tmp rfl) (.tmp rfl) .nil ⟨rfl,rfl⟩
theorem ZkC (s:ByteArray):(⟨s.data.toList.toArray⟩:ByteArray)=s:=by
 apply ByteArray.ext
 simp
theorem ZvD {G:Prop}(h:G:=by(apply Zaw;rfl;rfl;exact hb0)):G:=h
theorem ZjD {G:Prop}(h:G:=by(first|(apply Ze4;rfl;rfl;exact q1)|(apply Ze4;rfl;rfl;exact q2))):G:=h
theorem Zo5 {G:Prop}(h:G:=by first|(apply Qy_y;rfl;exact ZjD)|exact QyA):G:=h
theorem ZlC {G:Prop}(h:G:=by repeat (first|exact QF.nil|(apply QF.mk;rfl;rfl;decide +kernel;exact Zo5))):G:=h
theorem ZlM {G:Prop}(h:G:=by(apply ZbW;rfl;rfl;exact hb)):G:=h
theorem ZvC {G:Prop}(h:G:=by(first|(apply Zaw;rfl;rfl;exact hb3)|(apply Zaw;rfl;rfl;exact hb4)|(apply Zaw;rfl;rfl;exact hb1)|(apply Zaw;rfl;rfl;exact hb5))):G:=h
theorem Zfj (f letter:ByteArray)(off save:Int)(w:World)(hL:LibW w)(hs:f.size<=1000000000)(hl:letter.size<=1000000000)(ho:I64 off)(hv:I64 save) :
  Does Tryz.prog 67 [.string f,.int .i64 off,.agg #[.int .i64 save,.string letter]] w (fun v O=>v=xpV (ZbR f.data.toList off save letter.data.toList)/\O=[]):=by
 have hp:=fun w' (hw:Bel w.heap.size w w')=>Zrc f w' (hL.up hw) hs
 have hk:=fun w' (hw:Bel w.heap.size w w')=>ZiG f w' (hL.up hw) hs
 have har:=fun w' (hw:Bel w.heap.size w w')=>Zjj f w' (hL.up hw) hs
 have hsm:=fun w'=>Zjn off save ho hv w'
 have h3:=ZwG f.data.toList
 have hcl:=Zlo f.data.toList [37,115]
 have hfs:f.data.toList.length=f.size:=by simp
 rw[hfs]at hcl
 have hfb:=ZkC f
 unfold arV at har
 unfold ZbR
 refine Zaa Tryz.func67 rfl rfl rfl rfl ?_
 cases hP:ZcB f.data.toList with
 | some ab =>
  obtain⟨a,b⟩:=ab
  rw[hP]at hp
  simp only[ptsV]at hp
  dsimp only
  by_cases h0:save=0
  ·subst h0
   rw[if_pos rfl]
   repeat (first|refine walk ?_|(refine jg ?_;(try intro F);(first|(refine Zac hp ?_)|(refine bx ?_;intro bk));refine fin ?_)|(refine jn ?_;(try intro F);(first|(refine bx ?_;intro bk)|(apply Zae;exact PuA));refine fin ?_))
   exact rtB
  ·rw[if_neg h0]
   have hb0:decide (save=0)=false:=decide_eq_false h0
   repeat (first|(apply RL_pu;rfl;exact ZvD)|(apply RD_Q;rfl;rfl;decide +kernel;rfl;rfl;exact QyFmtC4)|refine walk1 ?_|(refine jg ?_;(try intro F);(first|(refine Zac hp ?_)|(refine bx ?_;intro bk));first|refine⟨_,EndsA,QFFmtC4,?_⟩|refine fin ?_)|(refine jn ?_;(try intro F);(first|(refine bx ?_;intro bk)|(apply Zae;first|exact ZvD|exact PuA));first|refine⟨_,EndsA,QFFmtC4,?_⟩|refine fin ?_))
   exact rtB
 | none =>
 rw[hP]at hp
 simp only[ptsV]at hp
 dsimp only
 generalize ZbQ f.data.toList=K at *
 by_cases hK3:K=3
 ·subst hK3
  rw[if_pos rfl,h3 rfl]
  dsimp only
  generalize (cutV f.data.toList [37,115]).1=a at *
  generalize (cutV f.data.toList [37,115]).2.1=b at *
  have hs1:(⟨a.toArray⟩:ByteArray).size=a.length:=by show a.toArray.size=a.length;simp
  have hs2:(⟨b.toArray⟩:ByteArray).size=b.length:=by show b.toArray.size=b.length;simp
  have q1:(⟨a.toArray⟩:ByteArray).size+letter.size<=9223372036854775807:=by omega
  have q2:((⟨a.toArray⟩:ByteArray)++letter).size+(⟨b.toArray⟩:ByteArray).size<=9223372036854775807:=by rw[ByteArray.size_append];omega
  have q3:(((⟨a.toArray⟩:ByteArray)++letter++⟨b.toArray⟩).size:Int)<=9223372036854775807:=by rw[ByteArray.size_append,ByteArray.size_append];omega
  have hx:((⟨a.toArray⟩:ByteArray)++letter++⟨b.toArray⟩).data.toList=a++letter.data.toList++b:=by simp
  have hXb:=ZkC ((⟨a.toArray⟩:ByteArray)++letter++⟨b.toArray⟩)
  have hab:=fun w'=>ZgJ ((⟨a.toArray⟩:ByteArray)++letter++⟨b.toArray⟩) q3 w'
  rw[show Zr0 ((⟨a.toArray⟩:ByteArray)++letter++⟨b.toArray⟩)=ZcW (a++letter.data.toList++b) from by unfold Zr0 ZcW;rw[hx]]at hab
  rw[hx]at hXb
  have hri:=fun w'=>Zg2 ((⟨a.toArray⟩:ByteArray)++letter++⟨b.toArray⟩) (ZcW (a++letter.data.toList++b)) w'
  cases hok:ZcW (a++letter.data.toList++b) with
  | false =>
   rw[hok]at hab hri
   rw[if_neg (by decide)]
   repeat (first|(apply RL_pu;rfl;exact ZjD)|(apply RD_Q;rfl;rfl;decide +kernel;rfl;rfl;exact Zo5)|refine walk1 ?_|(refine jg ?_;(try intro F);(first|(refine Zac hp ?_)|(refine Zac hk ?_)|(refine Zac har ?_)|(refine Zac (fun w' hw=>hab w') ?_)|(refine Zac (fun w' hw=>hri w') ?_)|(refine bx ?_;intro bk));first|refine⟨_,EndsA,ZlC,?_⟩|refine fin ?_)|(refine jn ?_;(try intro F);(first|(refine bx ?_;intro bk)|(apply Zae;first|exact ZjD|exact PuA));first|refine⟨_,EndsA,ZlC,?_⟩|refine fin ?_))
   exact rtB
  | true =>
   rw[hok]at hab hri
   rw[if_pos rfl]
   unfold xpV
   dsimp only
   rw[hXb]
   repeat (first|(apply RL_pu;rfl;exact ZjD)|(apply RD_Q;rfl;rfl;decide +kernel;rfl;rfl;exact Zo5)|refine walk1 ?_|(refine jg ?_;(try intro F);(first|(refine Zac hp ?_)|(refine Zac hk ?_)|(refine Zac har ?_)|(refine Zac (fun w' hw=>hab w') ?_)|(refine Zac (fun w' hw=>hri w') ?_)|(refine bx ?_;intro bk));first|refine⟨_,EndsA,ZlC,?_⟩|refine fin ?_)|(refine jn ?_;(try intro F);(first|(refine bx ?_;intro bk)|(apply Zae;first|exact ZjD|exact PuA));first|refine⟨_,EndsA,ZlC,?_⟩|refine fin ?_))
   exact rtB
 have hb3:decide (K=3)=false:=decide_eq_false hK3
 rw[if_neg hK3]
 by_cases hK4:K=4
 ·subst hK4
  rw[if_pos rfl]
  cases hok:Zdr (off+save) with
  | false =>
   rw[hok]at hsm
   rw[if_neg (by rintro⟨h,_⟩;cases h)]
   have htx:=fun w'=>ZeE 0 w'
   have hr2:=fun w'=>Zg2 ⟨(ZbS 0).toArray⟩ false w'
   rw[if_neg (by decide)]at hsm
   repeat (first|refine walk ?_|(refine jg ?_;(try intro F);(first|(refine Zac hp ?_)|(refine Zac hk ?_)|(refine Zac (fun w' hw=>hsm w') ?_)|(refine Zac (fun w' hw=>htx w') ?_)|(refine Zac (fun w' hw=>hr2 w') ?_)|(refine bx ?_;intro bk));refine fin ?_)|(refine jn ?_;(try intro F);(first|(refine bx ?_;intro bk)|(apply Zae;exact PuA));refine fin ?_))
   exact rtB
  | true =>
   rw[hok,if_pos rfl]at hsm
   have htx:=fun w'=>ZeE (off+save) w'
   have hri:=fun ok w'=>Zg2 ⟨(ZbS (off+save)).toArray⟩ ok w'
   by_cases he:ZbS (off+save)=[]
   ·rw[if_neg (by rintro⟨_,h⟩;exact h he)]
    have hr2:=hri false
    have hb:(!decide ((⟨(ZbS (off+save)).toArray⟩:ByteArray)=ByteArray.empty))=false:=by rw[he];decide
    repeat (first|(apply RL_pu;rfl;exact ZlM)|(apply RD_Q;rfl;rfl;decide +kernel;rfl;rfl;exact QyFmtC6)|refine walk1 ?_|(refine jg ?_;(try intro F);(first|(refine Zac hp ?_)|(refine Zac hk ?_)|(refine Zac (fun w' hw=>hsm w') ?_)|(refine Zac (fun w' hw=>htx w') ?_)|(refine Zac (fun w' hw=>hr2 w') ?_)|(refine bx ?_;intro bk));first|refine⟨_,EndsA,QFFmtC6,?_⟩|refine fin ?_)|(refine jn ?_;(try intro F);(first|(refine bx ?_;intro bk)|(apply Zae;first|exact ZlM|exact PuA));first|refine⟨_,EndsA,QFFmtC6,?_⟩|refine fin ?_))
    exact rtB
   ·rw[if_pos ⟨rfl,he⟩]
    have hr2:=hri true
    have hb:(!decide ((⟨(ZbS (off+save)).toArray⟩:ByteArray)=ByteArray.empty))=true:=by
     rw[decide_eq_false (fun h=>he (by simpa using congrArg (fun b:ByteArray=>b.data.toList) h))];rfl
    repeat (first|(apply RL_pu;rfl;exact ZlM)|(apply RD_Q;rfl;rfl;decide +kernel;rfl;rfl;exact QyFmtC6)|refine walk1 ?_|(refine jg ?_;(try intro F);(first|(refine Zac hp ?_)|(refine Zac hk ?_)|(refine Zac (fun w' hw=>hsm w') ?_)|(refine Zac (fun w' hw=>htx w') ?_)|(refine Zac (fun w' hw=>hr2 w') ?_)|(refine bx ?_;intro bk));first|refine⟨_,EndsA,QFFmtC6,?_⟩|refine fin ?_)|(refine jn ?_;(try intro F);(first|(refine bx ?_;intro bk)|(apply Zae;first|exact ZlM|exact PuA));first|refine⟨_,EndsA,QFFmtC6,?_⟩|refine fin ?_))
    exact rtB
 have hb4:decide (K=4)=false:=decide_eq_false hK4
 rw[if_neg hK4]
 by_cases hK1:K=1
 ·subst hK1
  rw[if_pos (.inl rfl)]
  unfold xpV
  dsimp only
  rw[hfb]
  repeat (first|refine walk ?_|(refine jg ?_;(try intro F);(first|(refine Zac hp ?_)|(refine Zac hk ?_)|(refine bx ?_;intro bk));refine fin ?_)|(refine jn ?_;(try intro F);(first|(refine bx ?_;intro bk)|(apply Zae;exact PuA));refine fin ?_))
  exact rtB
 have hb1:decide (K=1)=false:=decide_eq_false hK1
 by_cases hK5:K=5
 ·subst hK5
  rw[if_pos (.inr rfl)]
  unfold xpV
  dsimp only
  rw[hfb]
  repeat (first|refine walk ?_|(refine jg ?_;(try intro F);(first|(refine Zac hp ?_)|(refine Zac hk ?_)|(refine bx ?_;intro bk));refine fin ?_)|(refine jn ?_;(try intro F);(first|(refine bx ?_;intro bk)|(apply Zae;exact PuA));refine fin ?_))
  exact rtB
 have hb5:decide (K=5)=false:=decide_eq_false hK5
 rw[if_neg (by rintro(h|h);exact hK1 h;exact hK5 h)]
 repeat (first|(apply RL_pu;rfl;exact ZvC)|(apply RD_Q;rfl;rfl;decide +kernel;rfl;rfl;exact QyFmtC7)|refine walk1 ?_|(refine jg ?_;(try intro F);(first|(refine Zac hp ?_)|(refine Zac hk ?_)|(refine bx ?_;intro bk));first|refine⟨_,EndsA,QFFmtC7,?_⟩|refine fin ?_)|(refine jn ?_;(try intro F);(first|(refine bx ?_;intro bk)|(apply Zae;first|exact ZvC|exact PuA));first|refine⟨_,EndsA,QFFmtC7,?_⟩|refine fin ?_))
 exact rtB
structure LtG where
 k:Nat
 A:Option Addr
 c:Nat
 m:Nat
 ys:List Value
theorem ZvB {G:Prop}(h:G:=by(first|(apply ZaI;rfl;rfl;omega;omega;(intro w' _ hO;exact(Za0 (hO.of (A := .row (.slice A1 L.length c1) 9 1 L.length (L.flatMap Za2)) (by repeat' constructor)) hg1).1))|(apply ZlG;rfl;(focus repeat' constructor);exact hg1))):G:=h
theorem ZvA {G:Prop}(h:G:=by(apply ZbW;rfl;rfl;exact hb)):G:=h
theorem Zvz {G:Prop}(h:G:=by(apply Zaz;rfl;rfl;exact hb)):G:=h
theorem ZoE (e:DEra)(A:Option Addr)(c:Nat)(l:List Zab)(w:World)(hL:LibW w)(hA:RdSl w A c Zab.enc 11 l)(ho:I64 e.off)(hs:I64 e.save)(hr:∀ r∈l,I64 r.save)(hn:l.length<=1000000)(hfs:e.format.size<=1000000000)(hlt:∀ r∈l,r.letter.size<=1000000000) :
  Does Tryz.prog 187 [.agg e.enc.toArray,.slice A l.length c] w (fun v O=>v = .int .i64 (ZiP e l)/\O=[]):=by
 have hk:=fun w' (hw:Bel w.heap.size w w')=>ZiG e.format w' (hL.up hw) hfs
 have hx:=fun w' (hw:Bel w.heap.size w w')=>ZoG e A c l w' (hA.up hw) ho hs hr hn
 have hab:=fun(x:ByteArray) (hx:x.size<=1000000000) w' (hw:Bel w.heap.size w w')=>Zfj e.format x 0 0 w' (hL.up hw) hfs hx ⟨by decide,by decide⟩ ⟨by decide,by decide⟩
 unfold ZiP
 dsimp only
 obtain⟨L,hLt⟩:∃ L:List ByteArray,(if e.kind=2 then l.map (·.letter) else [ByteArray.empty])=L:=⟨_,rfl⟩
 have hLe:(if e.kind=2 then l.map (fun r=>r.letter.data.toList) else [[]])=L.map (·.data.toList):=by
  rw[<- hLt]
  split
  ·rw[List.map_map];rfl
  ·rfl
 have hLs:∀ x∈L,x.size<=1000000000:=by
  rw[<- hLt]
  intro x hx
  split at hx
  ·obtain⟨r,hr,rfl⟩:=List.mem_map.1 hx;exact hlt r hr
  ·simp only[List.mem_singleton]at hx;subst hx;decide
 have hLn:L.length<=1000001:=by
  rw[<- hLt]
  split
  ·rw[List.length_map];omega
  ·decide
 rw[hLe]
 obtain⟨off,kind,save,set,format,til⟩:=e
 dsimp only at ho hs hk hx hab hfs hLt ⊢
 generalize ZbQ format.data.toList=K at *
 obtain⟨xv,hxv⟩:∃ xv,Zf6 ⟨off,kind,save,set,format,til⟩ l=xv:=⟨_,rfl⟩
 rw[hxv]at hx ⊢
 obtain⟨xt,xe⟩:=xv
 simp only[xpV,DEra.enc]at hx hab ⊢
 refine Zaa Tryz.func187 rfl rfl rfl rfl ?_
 repeat (first|(refine js ?_;(refine bx ?_;intro bk))|refine ZhQ ?_)
 rename_i b2
 obtain⟨b1,hb1⟩:∃ b1,bk=b1:=⟨_,rfl⟩
 rw[hb1]
 clear hb1 bk
 refine ZzJ (fun fr' O'=>∃ A1 c1,Sub [(2,.pointer (some ⟨b2,0,none⟩)),(1,.slice A l.length c),(5,.slice A1 L.length c1)] fr'/\SubO [.row (.slice A1 L.length c1) 9 1 L.length (L.flatMap Za2),.blk b2 [.int .i64 off,.int .i64 kind,.int .i64 save,.string set,.string format,.bool til.is,.int .i64 til.year,.int .i64 til.month,.int .i64 til.day.kind,.int .i64 til.day.week,.int .i64 til.day.day,.int .i64 til.at_.sec,.int .i64 til.at_.base] 75] O') ?_ ?_
 ·refine Zaf rfl (fun h=>?_) (fun h=>?_)
  ·rw[if_pos (of_decide_eq_true h)]at hLt
   subst hLt
   repeat (first|(refine js ?_;(refine bx ?_;intro bk))|refine walk ?_)
   refine ZfA 9 1 ?_
   refine Zao [(2,.pointer (some ⟨b2,0,none⟩)),(1,.slice A l.length c),(19,.slice A l.length c),(20,.int .i64 l.length)] [.blk b2 [.int .i64 off,.int .i64 kind,.int .i64 save,.string set,.string format,.bool til.is,.int .i64 til.year,.int .i64 til.month,.int .i64 til.day.kind,.int .i64 til.day.week,.int .i64 til.day.day,.int .i64 til.at_.sec,.int .i64 til.at_.base] 75] (fun g:LtG=>[(5,.slice g.A g.m g.c),(21,.int .i64 g.k)]) (fun g=>[.row (.slice g.A g.m g.c) 9 1 g.m g.ys])
    (fun g=>g.k<=l.length/\g.m=g.k/\g.ys=((l.take g.k).map (·.letter)).flatMap Za2) (fun g=>l.length - g.k) ⟨0,none,0,0,[]⟩ SFA SOA ⟨Nat.zero_le _,rfl,rfl⟩ ?_
   rintro⟨k,A1,c1,m,ys⟩ ⟨hkl,hm,hy⟩
   dsimp only at hkl hm hy ⊢
   repeat (first|(refine js ?_;(refine bx ?_;intro bk))|refine walk ?_)
   refine Zaf rfl (fun hc=>?_) (fun hc=>?_)
   ·simp only[decide_eq_true_eq,Int.ofNat_lt]at hc
    obtain⟨hna,hca⟩:=hA.rd k _ (List.getElem?_eq_getElem hc)
    have htk:=List.take_append_getElem hc
    generalize l[k]=r at *
    repeat (first|(apply RL_pu;rfl;exact PuI)|(refine js ?_;(first|(apply ZaE;rfl;rfl;(intro A' c';(focus repeat' constructor));(intro w' _ hO;exact ZbP (hO.of (by repeat' constructor)));rfl;rfl;(simp only[maxLen];omega);omega;intro A' c' hc1 hc2 hc3)|(refine bx ?_;intro bk)))|refine walk1 ?_)
    exact⟨⟨k+1,A',c',m+1,ys++[.string r.letter]⟩,OA,⟨OA,OA,by dsimp only;rw[hy,<- htk];simp[Za2]⟩,SFA,SOA⟩
   ·obtain rfl:k=l.length:=by simp only[decide_eq_false_iff_not,Int.ofNat_lt]at hc;omega
    rw[List.take_length]at hy
    subst hm hy
    repeat (first|(refine js ?_;(refine bx ?_;intro bk))|refine walk ?_)
    rw[List.length_map]
    exact⟨A1,c1,SFA,SOA⟩
  ·rw[if_neg (of_decide_eq_false h)]at hLt
   subst hLt
   refine ZuD (b:=b1) (m:=1) 1 (by repeat' constructor) rfl (by decide) ?_
   repeat (first|(refine js ?_;(refine bx ?_;intro bk))|refine walk ?_)
   exact⟨some ⟨b1,0,none⟩,1,SFA,SOA⟩
 rintro fr' O' ⟨A1,c1,hf,hO⟩
 refine Zb0 hf hO ?_
 clear hf hO fr' O' hLt hLe b1
 by_cases k0:K=0
 ·subst k0
  rw[if_pos rfl]
  repeat (first|(refine js ?_;(first|(refine Zac hk ?_)|(refine bx ?_;intro bk)))|refine walk ?_)
  exact rtA
 have e0:decide (K=0)=false:=decide_eq_false k0
 rw[if_neg k0]
 by_cases k3:K=3
 ·subst k3
  rw[if_pos rfl]
  obtain⟨res,hres⟩:∃ res,Zee format.data.toList (L.map (·.data.toList))=res:=⟨_,rfl⟩
  rw[hres]
  repeat (first|(refine js ?_;(first|(refine Zac hk ?_)|(refine bx ?_;intro bk)))|refine walk ?_)
  refine Zao [(2,.pointer (some ⟨b2,0,none⟩)),(39,.slice A1 L.length c1),(40,.int .i64 L.length)] [.row (.slice A1 L.length c1) 9 1 L.length (L.flatMap Za2),.blk b2 [.int .i64 off,.int .i64 kind,.int .i64 save,.string set,.string format,.bool til.is,.int .i64 til.year,.int .i64 til.month,.int .i64 til.day.kind,.int .i64 til.day.week,.int .i64 til.day.day,.int .i64 til.at_.sec,.int .i64 til.at_.base] 75] (fun k:Nat=>[(41,.int .i64 k)]) (fun _=>[]) (fun k=>k<=L.length/\Zee format.data.toList ((L.drop k).map (·.data.toList))=res) (fun k=>L.length - k) 0 SFA SOA ⟨Nat.zero_le _,hres⟩ ?_
  rintro k ⟨hkl,hi⟩
  repeat (first|(refine js ?_;(refine bx ?_;intro bk))|refine walk ?_)
  refine Zaf rfl (fun hc=>?_) (fun hc=>?_)
  ·simp only[decide_eq_true_eq,Int.ofNat_lt]at hc
   have hg1:(L.flatMap Za2)[k*1]?=some (.string L[k]):=by
    have:=ZaF (enc:=Za2) (fun _=>rfl) L k _ 0 (.string L[k]) (List.getElem?_eq_getElem hc) rfl
    simpa using this
   rw[Zap hc,List.map_cons,Zee]at hi
   have hxs:=hLs _ (List.getElem_mem hc)
   generalize L[k]=x at *
   have ha:=hab x hxs
   generalize ZbR format.data.toList 0 0 x.data.toList=av at *
   obtain⟨at_,ae⟩:=av
   dsimp only at ha hi
   by_cases hz:ae=0
   ·subst hz
    rw[if_pos rfl]at hi
    repeat (first|(apply RL_pu;rfl;exact ZvB)|(refine js ?_;(first|(refine Zac ha ?_)|(refine bx ?_;intro bk)))|refine walk1 ?_)
    exact⟨k+1,OA,⟨OA,hi⟩,SFA,SOA⟩
   ·rw[if_neg hz]at hi
    subst hi
    have hb:(!decide (ae=0))=true:=by rw[decide_eq_false hz];rfl
    repeat (first|(apply RL_pu;rfl;(first|exact ZvB|(apply Zaz;rfl;rfl;exact hb)))|(refine js ?_;(first|(refine Zac ha ?_)|(refine bx ?_;intro bk)))|refine walk1 ?_)
    exact rtA
  ·simp only[decide_eq_false_iff_not,Int.ofNat_lt]at hc
   rw[List.drop_eq_nil_of_le (by omega)]at hi
   subst hi
   repeat (first|(refine js ?_;(refine bx ?_;intro bk))|refine walk ?_)
   exact rtA
 have e3:decide (K=3)=false:=decide_eq_false k3
 rw[if_neg k3]
 by_cases k45:K=4\/K=5
 ·rw[if_pos k45]
  by_cases hxe:xe=0
  ·subst hxe
   rcases k45 with rfl|rfl
   ·rw[if_neg (by rintro(h|⟨h,_⟩);exact h rfl;omega)]
    repeat (first|refine und ?_|(refine js ?_;(first|(refine Zac hk ?_)|(refine Zac hx ?_)|(refine bx ?_;intro bk)))|refine walk ?_)
    exact rtA
   ·by_cases hxt:xt=format.data.toList
    ·have hb:(!decide ((⟨xt.toArray⟩:ByteArray)=format))=false:=by rw[decide_eq_true (by rw[hxt])];rfl
     rw[if_neg (by rintro(h|⟨_,h⟩);exact h rfl;exact h hxt)]
     repeat (first|refine und ?_|(apply RL_pu;rfl;exact ZvA)|(refine js ?_;(first|(refine Zac hk ?_)|(refine Zac hx ?_)|(refine bx ?_;intro bk)))|refine walk1 ?_)
     exact rtA
    ·have hb:(!decide ((⟨xt.toArray⟩:ByteArray)=format))=true:=by rw[decide_eq_false (fun h=>hxt (by rw[<- h]))];rfl
     rw[if_pos (.inr ⟨rfl,hxt⟩)]
     repeat (first|refine und ?_|(apply RL_pu;rfl;exact ZvA)|(refine js ?_;(first|(refine Zac hk ?_)|(refine Zac hx ?_)|(refine bx ?_;intro bk)))|refine walk1 ?_)
     exact rtA
  ·have hb:(!decide (xe=0))=true:=by rw[decide_eq_false hxe];rfl
   rw[if_pos (.inl hxe)]
   rcases k45 with rfl|rfl
   ·repeat (first|refine und ?_|(apply RL_pu;rfl;exact Zvz)|(refine js ?_;(first|(refine Zac hk ?_)|(refine Zac hx ?_)|(refine bx ?_;intro bk)))|refine walk1 ?_)
    exact rtA
   ·repeat (first|refine und ?_|(apply RL_pu;rfl;exact Zvz)|(refine js ?_;(first|(refine Zac hk ?_)|(refine Zac hx ?_)|(refine bx ?_;intro bk)))|refine walk1 ?_)
    exact rtA
 rw[if_neg k45]
 have e4:decide (K=4)=false:=decide_eq_false (fun h=>k45 (.inl h))
 have e5:decide (K=5)=false:=decide_eq_false (fun h=>k45 (.inr h))
 repeat (first|(apply RL_pu;rfl;(first|(apply Zaw;rfl;rfl;exact e0)|(apply Zaw;rfl;rfl;exact e3)|(apply Zaw;rfl;rfl;exact e4)|(apply Zaw;rfl;rfl;exact e5)))|(refine js ?_;(first|(refine Zac hk ?_)|(refine bx ?_;intro bk)))|refine walk1 ?_)
 exact rtA
end Go.Proofs.YtdlmhmmhdbbliaaGreatDoor
namespace Go.Proofs.YtdlmhmmhdbbliaaGreatDoor
open Go Go.RowKit Go.Wk
attribute [local irreducible] W RL Does Zau Zak retQ Calls Pu Stp RD Qy Ay
theorem Zyw {G:Prop}(h:G:=by(first|(apply Pu_indexAddr;rfl;rfl;omega;omega;(first|exact hna))|(apply Pu_loadON;rfl;(first|exact hca);rfl))):G:=h
theorem Zfe (Ar Az Al As:Option Addr)(cr cz cl cs:Nat)(a:Zai)(set:ByteArray)(w:World)(hA:Zav w Ar Az Al As cr cz cl cs a)(hn:a.rules.length<=1000000) :
  Does Tryz.prog 55 [srcV Ar Az Al As cr cz cl cs a,.string set] w (Zr7 82 11 Zab.enc (ofB a.rules set)):=by
 generalize hres:ofB a.rules set=res
 refine Zaa Tryz.func55 rfl rfl rfl rfl ?_
 repeat (first|(refine js ?_;(refine bx ?_;intro bk))|refine walk ?_)
 refine ZfA 82 11 ?_
 refine Zao [(1,_),(2,_),(4,_),(9,_),(10,_)] [_] (fun g:AG Zab=>[(5,.slice g.A g.m g.c),(11,.int .i64 g.k)]) (fun g=>[.row (.slice g.A g.m g.c) 82 11 g.m g.xs]) (fun g=>g.k<=a.rules.length/\g.m=g.acc.length/\g.xs=g.acc.flatMap Zab.enc/\g.m<=g.k/\g.acc++ofB (a.rules.drop g.k) set=res) (fun g=>a.rules.length - g.k) ⟨0,none,0,0,[],[]⟩ ⟨rfl,rfl,rfl,rfl,rfl,rfl,rfl,trivial⟩ (.cons (by repeat' constructor) (.refl _)) ⟨by simp,rfl,rfl,Nat.le_refl _,by simpa using hres⟩ ?_
 rintro⟨k,A,c,m,xs,acc⟩ ⟨hk,hm,hx,hmk,hi⟩
 dsimp only at hk hm hx hmk hi ⊢
 repeat (first|(refine js ?_;(refine bx ?_;intro bk))|refine walk ?_)
 refine Zaf rfl (fun hc=>?_) (fun hc=>?_)
 ·simp only[decide_eq_true_eq,Int.ofNat_lt]at hc
  obtain⟨hna,hca⟩:=hA.r.rd k _ (List.getElem?_eq_getElem hc)
  rw[Zap hc,ofB,List.filter_cons]at hi
  generalize a.rules[k]=r at *
  repeat (first|(apply RL_pu;rfl;exact Zyw)|(refine js ?_;(refine bx ?_;intro bk))|refine walk1 ?_)
  refine Zaf rfl (fun h3=>?_) (fun h3=>?_)
  ·rw[if_pos h3]at hi
   repeat (first|(apply RL_pu;rfl;exact Zyw)|(refine js ?_;(first|(apply ZaE;rfl;rfl;(intro A' c';(focus repeat' constructor));(intro w' _ hO;exact ZbP (hO.of (by repeat' constructor)));rfl;rfl;(simp only[maxLen];omega);omega;intro A' c' hc1 hc2 hc3)|(refine bx ?_;intro bk)))|refine walk1 ?_)
   exact⟨⟨k+1,A',c',m+1,xs++r.enc,acc++[r]⟩,OA,⟨OA,by simp[hm],by rw[hx];exact Zgs acc r,OA,by rw[<- hi];simp[ofB]⟩,SFA,SOA⟩
  rw[h3]at hi
  repeat (first|(refine js ?_;(refine bx ?_;intro bk))|refine walk ?_)
  exact⟨⟨k+1,A,c,m,xs,acc⟩,OA,⟨OA,hm,hx,OA,hi⟩,SFA,SOA⟩
 simp only[decide_eq_false_iff_not,Int.ofNat_lt]at hc
 rw[List.drop_eq_nil_of_le (by omega)]at hi
 simp only[ofB,List.filter_nil,List.append_nil]at hi
 subst hi
 repeat (first|(refine js ?_;(refine bx ?_;intro bk))|refine walk ?_)
 exact ret_1 _ [.row (.slice A acc.length c) 82 11 acc.length (acc.flatMap Zab.enc)] (.tmp rfl) (by subst hm hx;exact SOA) ⟨A,c,by rw[hm],rfl⟩
end Go.Proofs.YtdlmhmmhdbbliaaGreatDoor
namespace Go.Proofs.YtdlmhmmhdbbliaaGreatDoor
open Go.Shelf Go.RowKit Go.Lib Go.Sort
def Zn8:Ren where
 f:=fun|6=>214|15=>230|14=>229|28=>245|29=>169|20=>237|21=>238|22=>239|23=>240|24=>241|25=>242|26=>243|27=>244|46=>252|47=>253|48=>254|49=>255|50=>256|57=>261|n=>n
 t:=fun|22=>264|24=>92|25=>140|3=>3|39=>255|0=>0|53=>54|55=>216|4=>4|46=>324|45=>323|50=>269|5=>5|9=>9|66=>335|70=>339|76=>346|77=>347|n=>n
 g:=fun n=>n
theorem ZsD:SlLaysF0.n6 Tryz.prog Zn8 where
 mixed:=by kernel_rfl
 f6:=⟨Tryz.f214.name,by decide,Tryz.func214.trans (congrArg some (by kernel_rfl))⟩
 f14:=⟨Tryz.f229.name,by decide,Tryz.func229.trans (congrArg some (by kernel_rfl))⟩
 f20:=⟨Tryz.f237.name,by decide,Tryz.func237.trans (congrArg some (by kernel_rfl))⟩
 f21:=⟨Tryz.f238.name,by decide,Tryz.func238.trans (congrArg some (by kernel_rfl))⟩
 f22:=⟨Tryz.f239.name,by decide,Tryz.func239.trans (congrArg some (by kernel_rfl))⟩
 f23:=⟨Tryz.f240.name,by decide,Tryz.func240.trans (congrArg some (by kernel_rfl))⟩
 f24:=⟨Tryz.f241.name,by decide,Tryz.func241.trans (congrArg some (by kernel_rfl))⟩
 f25:=⟨Tryz.f242.name,by decide,Tryz.func242.trans (congrArg some (by kernel_rfl))⟩
 f26:=⟨Tryz.f243.name,by decide,Tryz.func243.trans (congrArg some (by kernel_rfl))⟩
 f27:=⟨Tryz.f244.name,by decide,Tryz.func244.trans (congrArg some (by kernel_rfl))⟩
 f46:=⟨Tryz.f252.name,by decide,Tryz.func252.trans (congrArg some (by kernel_rfl))⟩
 f49:=⟨Tryz.f255.name,by decide,Tryz.func255.trans (congrArg some (by kernel_rfl))⟩
 f50:=⟨Tryz.f256.name,by decide,Tryz.func256.trans (congrArg some (by kernel_rfl))⟩
 f57:=⟨Tryz.f261.name,by decide,Tryz.func261.trans (congrArg some (by kernel_rfl))⟩
 f15:=Tryz.func230.trans (congrArg some (by kernel_rfl))
 f28:=Tryz.func245.trans (congrArg some (by kernel_rfl))
 f29:=Tryz.func169.trans (congrArg some (by kernel_rfl))
 f47:=Tryz.func253.trans (congrArg some (by kernel_rfl))
 f48:=Tryz.func254.trans (congrArg some (by kernel_rfl))
 t0:=Tryz.underlying0
 a0:=Tryz.isAgg0
 z0:=Tryz.sizeOf0
 v0:=Tryz.zeroValue0
 t3:=Tryz.underlying3
 a3:=Tryz.isAgg3
 z3:=Tryz.sizeOf3
 v3:=Tryz.zeroValue3
 t4:=Tryz.underlying4
 a4:=Tryz.isAgg4
 z4:=Tryz.sizeOf4
 v4:=Tryz.zeroValue4
 t5:=Tryz.underlying5
 a5:=Tryz.isAgg5
 z5:=Tryz.sizeOf5
 v5:=Tryz.zeroValue5
 t9:=Tryz.underlying9
 a9:=Tryz.isAgg9
 z9:=Tryz.sizeOf9
 v9:=Tryz.zeroValue9
 t22:=Tryz.underlying264
 a22:=Tryz.isAgg264
 z22:=Tryz.sizeOf264
 v22:=Tryz.zeroValue264
 t25:=Tryz.underlying140
 a25:=Tryz.isAgg140
 z25:=Tryz.sizeOf140
 v25:=Tryz.zeroValue140
 t39:=Tryz.underlying255
 a39:=Tryz.isAgg255
 z39:=Tryz.sizeOf255
 v39:=Tryz.zeroValue255
 t45:=Tryz.underlying323
 a45:=Tryz.isAgg323
 z45:=Tryz.sizeOf323
 v45:=Tryz.zeroValue323
 t46:=Tryz.underlying324
 a46:=Tryz.isAgg324
 z46:=Tryz.sizeOf324
 v46:=Tryz.zeroValue324
 t50:=Tryz.underlying269
 a50:=Tryz.isAgg269
 z50:=Tryz.sizeOf269
 v50:=Tryz.zeroValue269
 t53:=Tryz.underlying54
 a53:=Tryz.isAgg54
 z53:=Tryz.sizeOf54
 v53:=Tryz.zeroValue54
 t55:=Tryz.underlying216
 a55:=Tryz.isAgg216
 z55:=Tryz.sizeOf216
 v55:=Tryz.zeroValue216
 t66:=Tryz.underlying335
 a66:=Tryz.isAgg335
 z66:=Tryz.sizeOf335
 v66:=Tryz.zeroValue335
 t70:=Tryz.underlying339
 a70:=Tryz.isAgg339
 z70:=Tryz.sizeOf339
 v70:=Tryz.zeroValue339
 t76:=Tryz.underlying346
 a76:=Tryz.isAgg346
 z76:=Tryz.sizeOf346
 v76:=Tryz.zeroValue346
 t77:=Tryz.underlying347
 a77:=Tryz.isAgg347
 z77:=Tryz.sizeOf347
 v77:=Tryz.zeroValue347
end Go.Proofs.YtdlmhmmhdbbliaaGreatDoor
