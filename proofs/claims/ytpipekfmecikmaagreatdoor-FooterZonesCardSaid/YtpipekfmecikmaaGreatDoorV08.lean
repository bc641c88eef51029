/- Parts of the proof. -/
import Derived.Test.YtpipekfmecikmaaGreatDoorV07
import Derived.Test.YtpipekfmecikmaaGreatDoorV05
import Derived.Test.YtpipekfmecikmaaGreatDoorV06
import Derived.LoopN
import Derived.Test.YtpipekfmecikmaaGreatDoorV04
set_option maxHeartbeats 4000000
set_option linter.unusedVariables false
set_option linter.unusedSimpArgs false
namespace Go.Wk
open Go Go.RowKit
def ZcJ (r:DRule)(least:Int):Nat->Bool
 | 0=>Zbj r.from_&&(Zbj r.to||decide (r.to=1048576))
 | 1=>decide (r.from_<=r.to)
 | 2=>ZbU r.from_ r.to r.month r.day
 | 3=>ZdR r.at_ least
 | 4=>decide (-10800<=r.save)&&decide (r.save<=10800)
 | _=>decide (r.letter=ByteArray.empty)||Zeg r.letter
theorem Zhd {P:Program}{n:Nat}{wr:World}{fr:Fr}{O:List It}{ty t t':TypeId}{x y:Operand}{i j m:Int}(hx:ev fr x=some (.int .i64 i))(hy:ev fr y=some (.int .i64 j))(hm:IntKind.i64.wrap (i+j)=m):Pu P n wr fr O (.binOp .add t x y t') ty (.int .i64 m):=hm▸ZkN hx hy
end Go.Wk
namespace Go.Proofs.YtpipekfmecikmaaGreatDoor
open Go Go.RowKit Go.Wk
attribute [local irreducible] W RL Does Zat Zaj retQ Calls Pu Stp RD Qy Ay Zak ZbK
theorem ZhM (y:Int)(w:World):Does Tryz.prog 391 [.int .i64 y] w (fun v O=>v = .bool (Zbj y)/\O=[]):=by
 refine Zaa Tryz.func391 rfl rfl rfl rfl ?_
 repeat' (first|refine walk ?_|refine und ?_|(refine Zam rfl rfl rfl (fun hc=>?_) (fun hc=>?_))|(refine Zas rfl rfl rfl (fun hc=>?_) (fun hc=>?_))|(refine Zaf rfl (fun hc=>?_) (fun hc=>?_)))
 all_goals first|(refine ret_1 _ [] (.tmp rfl) .nil ⟨?_,rfl⟩;first|rfl|(simp only[*,Bool.true_and,Bool.false_and,Bool.true_or,Bool.false_or,Bool.not_true,Bool.not_false];done)|(simp_all [Zbj];done)|(simp_all [Zbj];omega)|(simp_all [Zbj];rw[Bool.eq_iff_iff];simp;omega))|(exfalso;simp_all [Zbj];done)|(exfalso;simp_all [Zbj];omega)|(exfalso;omega)
theorem Zp5 (c:DClock)(least:Int)(hl : -9223372036854775808<=least/\least<=0)(w:World):Does Tryz.prog 396 [.agg (DClock.enc c).toArray,.int .i64 least] w (fun v O=>v = .bool (ZdR c least)/\O=[]):=by
 by_cases hc:ZaH c=true
 ·have hb : -604799<=c.sec/\c.sec<=604799:=by
   simp only[ZaH,Bool.and_eq_true,decide_eq_true_eq]at hc
   omega
  obtain⟨m,hm⟩:∃ m,IntKind.i64.wrap (c.sec+least)=m:=⟨_,rfl⟩
  have hmm:(decide (-86400<=m)&&decide (m<=172800))=(decide (-86400<=c.sec+least)&&decide (c.sec+least<=172800)):=by
   have hw:IntKind.i64.wrap (c.sec+least)=if c.sec+least < -9223372036854775808 then c.sec+least+18446744073709551616 else c.sec+least:=by
    rw[IntKind.wrap_i64]
    repeat' split
    all_goals omega
   rw[hw]at hm
   rw[Bool.eq_iff_iff]
   simp only[Bool.and_eq_true,decide_eq_true_eq]
   split at hm <;> omega
  have hT:ZdR c least=(ZaH c&&(if c.base=1 then (decide (-86400<=m)&&decide (m<=172800)) else (decide (-86400<=c.sec)&&decide (c.sec<=172800)))):=by
   unfold ZdR
   dsimp only
   congr 1
   by_cases hb1:c.base=1
   ·rw[if_pos hb1,if_pos hb1,hmm]
   ·rw[if_neg hb1,if_neg hb1]
  rw[hT]
  clear hT hmm
  have hcs:=Zb4 c
  rw[hc]at hcs ⊢
  obtain⟨s,b⟩:=c
  simp only at *
  show Does _ _ [.agg #[.int .i64 s,.int .i64 b],.int .i64 least] w _
  refine Zaa Tryz.func396 rfl rfl rfl rfl ?_
  repeat' (first|(apply RL_pu;rfl;(apply Zhd;rfl;rfl;exact hm))|(refine js ?_;(first|(refine Zab (fun w' _=>hcs w') ?_)|(refine bx ?_;intro bk)))|refine walk1 ?_|refine und ?_|(refine Zam rfl rfl rfl (fun hc=>?_) (fun hc=>?_))|(refine Zas rfl rfl rfl (fun hc=>?_) (fun hc=>?_))|(refine Zaf rfl (fun hc=>?_) (fun hc=>?_)))
  all_goals exact clo1
 ·unfold ZdR
  have hcs:=Zb4 c
  rw[Bool.not_eq_true]at hc
  rw[hc]at hcs ⊢
  obtain⟨s,b⟩:=c
  simp only at *
  show Does _ _ [.agg #[.int .i64 s,.int .i64 b],.int .i64 least] w _
  refine Zaa Tryz.func396 rfl rfl rfl rfl ?_
  repeat' (first|(refine js ?_;(first|(refine Zab (fun w' _=>hcs w') ?_)|(refine bx ?_;intro bk)))|refine walk ?_|refine und ?_|(refine Zam rfl rfl rfl (fun hc=>?_) (fun hc=>?_))|(refine Zas rfl rfl rfl (fun hc=>?_) (fun hc=>?_))|(refine Zaf rfl (fun hc=>?_) (fun hc=>?_)))
  all_goals exact clo1
theorem ZqY (r:DRule)(least:Int)(w:World):Does Tryz.prog 390 [.agg (DRule.enc r).toArray,.int .i64 least] w (fun v O=>v = .bool (ZcJ r least 0)/\O=[]):=by
 unfold ZcJ
 have h1:=ZhM r.from_
 have h2:=ZhM r.to
 generalize Zbj r.from_=x1 at *
 generalize Zbj r.to=x2 at *
 obtain⟨nm,fr,to,mo,⟨dk,dw,dd⟩,⟨cs,cb⟩,sv,le⟩:=r
 simp only at *
 show Does _ _ [.agg #[.string nm,.int .i64 fr,.int .i64 to,.int .i64 mo,.int .i64 dk,.int .i64 dw,.int .i64 dd,.int .i64 cs,.int .i64 cb,.int .i64 sv,.string le],.int .i64 least] w _
 refine Zaa Tryz.func390 rfl rfl rfl rfl ?_
 repeat' (first|(refine js ?_;(first|(refine Zab (fun w' _=>h1 w') ?_)|(refine Zab (fun w' _=>h2 w') ?_)|(refine bx ?_;intro bk)))|refine walk ?_|refine und ?_|(refine Zam rfl rfl rfl (fun hc=>?_) (fun hc=>?_))|(refine Zas rfl rfl rfl (fun hc=>?_) (fun hc=>?_))|(refine Zaf rfl (fun hc=>?_) (fun hc=>?_)))
 all_goals exact clo1
theorem ZqX (r:DRule)(least:Int)(w:World):Does Tryz.prog 392 [.agg (DRule.enc r).toArray,.int .i64 least] w (fun v O=>v = .bool (ZcJ r least 1)/\O=[]):=by
 unfold ZcJ
 obtain⟨nm,fr,to,mo,⟨dk,dw,dd⟩,⟨cs,cb⟩,sv,le⟩:=r
 simp only at *
 show Does _ _ [.agg #[.string nm,.int .i64 fr,.int .i64 to,.int .i64 mo,.int .i64 dk,.int .i64 dw,.int .i64 dd,.int .i64 cs,.int .i64 cb,.int .i64 sv,.string le],.int .i64 least] w _
 refine Zaa Tryz.func392 rfl rfl rfl rfl ?_
 repeat' (first|(refine js ?_;(refine bx ?_;intro bk))|refine walk ?_|(refine Zaf rfl (fun hc=>?_) (fun hc=>?_)))
 all_goals exact clo1
theorem ZqW (r:DRule)(least:Int)(w:World)(hG:Glob w):Does Tryz.prog 393 [.agg (DRule.enc r).toArray,.int .i64 least] w (fun v O=>v = .bool (ZcJ r least 2)/\O=[]):=by
 unfold ZcJ
 have h1:=fun w' hw=>Zn4 r.from_ r.to r.month r.day w' (Glob.up (w':=w') hG hw)
 generalize ZbU r.from_ r.to r.month r.day=x1 at *
 obtain⟨nm,fr,to,mo,⟨dk,dw,dd⟩,⟨cs,cb⟩,sv,le⟩:=r
 simp only at *
 show Does _ _ [.agg #[.string nm,.int .i64 fr,.int .i64 to,.int .i64 mo,.int .i64 dk,.int .i64 dw,.int .i64 dd,.int .i64 cs,.int .i64 cb,.int .i64 sv,.string le],.int .i64 least] w _
 refine Zaa Tryz.func393 rfl rfl rfl rfl ?_
 repeat' (first|(refine js ?_;(first|(refine Zab h1 ?_)|(refine bx ?_;intro bk)))|refine walk ?_|(refine Zaf rfl (fun hc=>?_) (fun hc=>?_)))
 all_goals exact clo1
theorem ZqV (r:DRule)(least:Int)(hl : -9223372036854775808<=least/\least<=0)(w:World):Does Tryz.prog 395 [.agg (DRule.enc r).toArray,.int .i64 least] w (fun v O=>v = .bool (ZcJ r least 3)/\O=[]):=by
 unfold ZcJ
 have h1:=Zp5 r.at_ least hl
 generalize ZdR r.at_ least=x1 at *
 obtain⟨nm,fr,to,mo,⟨dk,dw,dd⟩,⟨cs,cb⟩,sv,le⟩:=r
 simp only at *
 show Does _ _ [.agg #[.string nm,.int .i64 fr,.int .i64 to,.int .i64 mo,.int .i64 dk,.int .i64 dw,.int .i64 dd,.int .i64 cs,.int .i64 cb,.int .i64 sv,.string le],.int .i64 least] w _
 refine Zaa Tryz.func395 rfl rfl rfl rfl ?_
 repeat' (first|(refine js ?_;(first|(refine Zab (fun w' hw=>h1 w') ?_)|(refine bx ?_;intro bk)))|refine walk ?_|(refine Zaf rfl (fun hc=>?_) (fun hc=>?_)))
 all_goals exact clo1
theorem ZqU (r:DRule)(least:Int)(w:World):Does Tryz.prog 397 [.agg (DRule.enc r).toArray,.int .i64 least] w (fun v O=>v = .bool (ZcJ r least 4)/\O=[]):=by
 unfold ZcJ
 obtain⟨nm,fr,to,mo,⟨dk,dw,dd⟩,⟨cs,cb⟩,sv,le⟩:=r
 simp only at *
 show Does _ _ [.agg #[.string nm,.int .i64 fr,.int .i64 to,.int .i64 mo,.int .i64 dk,.int .i64 dw,.int .i64 dd,.int .i64 cs,.int .i64 cb,.int .i64 sv,.string le],.int .i64 least] w _
 refine Zaa Tryz.func397 rfl rfl rfl rfl ?_
 repeat' (first|(refine js ?_;(refine bx ?_;intro bk))|refine walk ?_|refine und ?_|(refine Zam rfl rfl rfl (fun hc=>?_) (fun hc=>?_))|(refine Zas rfl rfl rfl (fun hc=>?_) (fun hc=>?_))|(refine Zaf rfl (fun hc=>?_) (fun hc=>?_)))
 all_goals exact clo1
theorem ZqT (r:DRule)(least:Int)(hs:(r.letter.size:Int)<=9223372036854775807)(w:World):Does Tryz.prog 398 [.agg (DRule.enc r).toArray,.int .i64 least] w (fun v O=>v = .bool (ZcJ r least 5)/\O=[]):=by
 unfold ZcJ
 rw[show ByteArray.empty=⟨#[]⟩ from rfl]
 have h1:=ZnB r.letter hs
 generalize Zeg r.letter=x1 at *
 obtain⟨nm,fr,to,mo,⟨dk,dw,dd⟩,⟨cs,cb⟩,sv,le⟩:=r
 simp only at *
 show Does _ _ [.agg #[.string nm,.int .i64 fr,.int .i64 to,.int .i64 mo,.int .i64 dk,.int .i64 dw,.int .i64 dd,.int .i64 cs,.int .i64 cb,.int .i64 sv,.string le],.int .i64 least] w _
 refine Zaa Tryz.func398 rfl rfl rfl rfl ?_
 repeat' (first|(refine js ?_;(first|(refine Zab (fun w' hw=>h1 w') ?_)|(refine bx ?_;intro bk)))|refine walk ?_|refine und ?_|(refine Zam rfl rfl rfl (fun hc=>?_) (fun hc=>?_))|(refine Zas rfl rfl rfl (fun hc=>?_) (fun hc=>?_))|(refine Zaf rfl (fun hc=>?_) (fun hc=>?_)))
 all_goals exact clo1
theorem Zi9 (r:DRule)(w:World):Does Tryz.prog 273 [.agg (DRule.enc r).toArray] w (fun v O=>v = .bool (Zgy r)/\O=[]):=by
 unfold Zgy
 obtain⟨nm,fr,to,mo,⟨dk,dw,dd⟩,⟨cs,cb⟩,sv,le⟩:=r
 simp only at *
 show Does _ _ [.agg #[.string nm,.int .i64 fr,.int .i64 to,.int .i64 mo,.int .i64 dk,.int .i64 dw,.int .i64 dd,.int .i64 cs,.int .i64 cb,.int .i64 sv,.string le]] w _
 refine Zaa Tryz.func273 rfl rfl rfl rfl ?_
 repeat' (first|(apply RL_pu;rfl;(apply Pu_rem;rfl;rfl;decide))|(refine js ?_;(refine bx ?_;intro bk))|refine walk1 ?_|refine und ?_|(refine Zam rfl rfl rfl (fun hc=>?_) (fun hc=>?_))|(refine Zas rfl rfl rfl (fun hc=>?_) (fun hc=>?_))|(refine Zaf rfl (fun hc=>?_) (fun hc=>?_)))
 all_goals exact clo1
theorem Zdh (A:Option Addr)(c:Nat)(l:List DRule)(w:World)(hA:RdSl w A c DRule.enc 11 l):Does Tryz.prog 121 [.slice A l.length c] w (fun v O=>v = .int .i64 (Zah l)/\O=[]):=by
 have hle:=hA.le
 have hcp:=hA.cap
 unfold maxLen at hcp
 generalize hres:Zah l=res
 unfold Zah at hres
 refine Zaa Tryz.func121 rfl rfl rfl rfl ?_
 repeat (first|(refine js ?_;(refine bx ?_;intro bk))|refine walk ?_)
 refine Zai [(6,_),(7,_)] [] (fun g:Nat × Int=>[(3,.int .i64 g.2),(8,.int .i64 g.1)]) (fun _=>[]) (fun g=>g.1<=l.length/\(l.drop g.1).foldl (fun m r=>min m r.save) g.2=res) (fun g=>l.length - g.1) (0,0) SFA SOA ⟨Nat.zero_le _,hres⟩ ?_
 rintro⟨k,m⟩ ⟨hk,hi⟩
 dsimp only at hk hi ⊢
 repeat (first|(refine js ?_;(refine bx ?_;intro bk))|refine walk ?_)
 refine Zaf rfl (fun h=>?_) (fun h=>?_)
 ·have hlt:k<l.length:=by simpa using h
  obtain⟨hna,hca⟩:=hA.rd k _ (List.getElem?_eq_getElem hlt)
  rw[Zag hlt]at hi
  generalize l[k]=r at *
  obtain⟨nm,fr,to,mo,⟨dk,dw,dd⟩,⟨cs,cb⟩,sv,le⟩:=r
  simp only[DRule.enc,List.foldl_cons]at hca hi
  repeat (first|(apply RL_pu;rfl;(first|exact PuI|(apply ZkL;rfl;rfl)))|(refine js ?_;(refine bx ?_;intro bk))|refine walk1 ?_)
  rw[show(if sv<m then sv else m)=min m sv by split <;> omega]
  exact⟨(k+1,min m sv),OA,⟨OA,hi⟩,SFA,.nil⟩
 ·have hkl:k=l.length:=by
   have:=of_decide_eq_false h
   omega
  subst hkl
  rw[List.drop_length]at hi
  repeat (first|(refine js ?_;(refine bx ?_;intro bk))|refine walk ?_)
  exact ret_1 _ [] (.tmp rfl) .nil ⟨by rw[<- hi];rfl,rfl⟩
theorem Zjf (A:Option Addr)(c:Nat)(l:List DRule)(w:World)(hA:RdSl w A c DRule.enc 11 l):Does Tryz.prog 179 [.slice A l.length c] w (fun v O=>v = .tuple #[.int .i64 (ZbH l).1,.bool (ZbH l).2]/\O=[]):=by
 have hle:=hA.le
 have hcp:=hA.cap
 unfold maxLen at hcp
 generalize hres:ZbH l=res
 unfold ZbH at hres
 refine Zaa Tryz.func179 rfl rfl rfl rfl ?_
 repeat (first|(refine js ?_;(refine bx ?_;intro bk))|refine walk ?_)
 refine Zai [(7,_),(8,_)] [] (fun g:Nat × Int=>[(4,.int .i64 g.2),(9,.int .i64 g.1)]) (fun _=>[]) (fun g=>g.1<=l.length/\Zb2 (l.drop g.1) g.2=res) (fun g=>l.length - g.1) (0,0) SFA SOA ⟨Nat.zero_le _,hres⟩ ?_
 rintro⟨k,m⟩ ⟨hk,hi⟩
 dsimp only at hk hi ⊢
 repeat (first|(refine js ?_;(refine bx ?_;intro bk))|refine walk ?_)
 refine Zaf rfl (fun h=>?_) (fun h=>?_)
 ·have hlt:k<l.length:=by simpa using h
  obtain⟨hna,hca⟩:=hA.rd k _ (List.getElem?_eq_getElem hlt)
  rw[Zag hlt,Zb2]at hi
  generalize l[k]=r at *
  obtain⟨nm,fr,to,mo,⟨dk,dw,dd⟩,⟨cs,cb⟩,sv,le⟩:=r
  simp only[DRule.enc]at hca hi
  repeat (first|(apply RL_pu;rfl;exact PuI)|(refine js ?_;(refine bx ?_;intro bk))|refine walk1 ?_)
  refine Zaf rfl (fun h1=>?_) (fun h1=>?_)
  ·rw[if_pos (of_decide_eq_true h1)]at hi
   repeat (first|(refine js ?_;(refine bx ?_;intro bk))|refine walk ?_)
   exact⟨(k+1,m),OA,⟨OA,hi⟩,SFA,.nil⟩
  rw[if_neg (of_decide_eq_false h1)]at hi
  repeat' (first|(refine js ?_;(refine bx ?_;intro bk))|refine walk ?_|refine und ?_|(refine Zam rfl rfl rfl (fun hc=>?_) (fun hc=>?_))|(refine Zas rfl rfl rfl (fun hc=>?_) (fun hc=>?_))|(refine Zaf rfl (fun hc=>?_) (fun hc=>?_)))
  ·rename_i h0
   simp only[Bool.not_eq_true',decide_eq_false_iff_not]at h0 hc
   rw[if_pos ⟨h0,hc⟩]at hi
   exact ret_2 _ _ [] (.tmp rfl) (.tmp rfl) .nil ⟨by rw[<- hi],rfl⟩
  ·simp only[Bool.not_eq_false',decide_eq_true_eq]at hc
   rw[if_neg (fun e=>e.2 hc)]at hi
   exact⟨(k+1,sv),OA,⟨OA,hi⟩,SFA,.nil⟩
  ·simp only[Bool.not_eq_false',decide_eq_true_eq]at hc
   rw[if_neg (fun e=>e.1 hc)]at hi
   exact⟨(k+1,sv),OA,⟨OA,hi⟩,SFA,.nil⟩
 ·have hkl:k=l.length:=by
   have:=of_decide_eq_false h
   omega
  subst hkl
  rw[List.drop_length,Zb2]at hi
  repeat (first|(refine js ?_;(refine bx ?_;intro bk))|refine walk ?_)
  exact ret_2 _ _ [] (.tmp rfl) (.tmp rfl) .nil ⟨by rw[<- hi],rfl⟩
end Go.Proofs.YtpipekfmecikmaaGreatDoor
namespace Go.Wk
open Go Go.RowKit
section
variable {P:Program}{n:Nat}{wr:World}{fr:Fr}{O:List It}{Q:Exit->Fr->List It->Prop}
def RW (P:Program)(n:Nat)(wr:World)(c:Code)(Q:Exit->Fr->List It->Prop):Nat->Fr->List It->Prop
 | 0,_,_=>False
 | k+1,fr,O=>W P n wr c (Zat (RW P n wr c Q k) Q) fr O
theorem Zmo {c:Code}:∀ (k:Nat) (fr:Fr) (O:List It),RW P n wr c Q k fr O->∀ a w,St n wr fr O a w->Code.rounds P c (lift n wr Q) k a w
 | 0,_,_,h,_,_,_=>h
 | k+1,fr,O,h,a,w,hs=>by
  rw[rounds_succ]
  refine wp_mono (h a w hs) ?_
  rintro e a' w' ⟨fr',O',hs',hq⟩
  cases e with
  | normal=>exact Zmo k fr' O' hq a' w' hs'
  | _=>exact⟨fr',O',hs',hq⟩
theorem Zpn {c:Code}(k:Nat)(h:RW P n wr c Q k fr O):W P n wr (.loop c) Q fr O:=fun a w hs=>wp_loop_rounds k (Zmo k fr O h a w hs)
theorem ZdO {c:Code}{k:Nat}(h:W P n wr c (Zat (RW P n wr c Q k) Q) fr O):RW P n wr c Q (k+1) fr O:=h
theorem Does.monoH {f:FuncId}{args:List Value}{w:World}{R R':Value->List It->Prop}(h:Does P f args w R)(hr:∀ v O base w',R v O->ZaA base O w'->∃ O',R' v O'/\ZaA base O' w'):Does P f args w R' :=
 Calls.mono h fun _ _ ⟨v,O,h1,h2,h3,h4⟩=>by
  obtain⟨O',h5,h6⟩:=hr v O _ _ h4 h3
  exact⟨v,O',h1,h2,h6,h5⟩
end
section
variable {P:Program}{n:Nat}{wr:World}{fr:Fr}{O:List It}{ty:TypeId}
theorem Zmv {t len e sz:Nat}{x ix:Operand}{kk:IntKind}{i:Int}{cs vs:List Value}[hA:ArrT P t len e sz true](hx:ev fr x=some (.agg cs.toArray))(hi:ev fr ix=some (.int kk i))(h0:0<=i)(h1:i<len)(hv:(cs.drop (i.toNat*sz)).take sz=vs) :
  Pu P n wr fr O (.index t x ix) ty (.agg vs.toArray):=fun a w hs _ _ _ _=>by
 have h:=hA.h
 unfold ZjM at h
 split at h
 ·rename_i len' e' hu
  split at h
  ·rename_i sz' ag' ht
   simp only[Option.some.injEq,Prod.mk.injEq]at h
   obtain⟨rfl,rfl,rfl,rfl⟩:=h
   obtain⟨inf,dd,hinf,hsz,hag,_⟩:=Ty.parts ht
   have:Ty P e' sz' true:=⟨ht⟩
   subst hv
   simp only[execOp,hs.sim.ev hx,hs.sim.ev hi,Instr.index,asIntOf,Sem.run_bind,Sem.run_pure,Result.andThen_ok,run_underlying hu,h0,h1,and_self,if_true,part,Zdd,ZcA]
   simp[List.take_drop]
  ·cases h
 ·cases h
end
end Go.Wk
namespace Go.Proofs.YtpipekfmecikmaaGreatDoor
open Go Go.RowKit Go.Wk
attribute [local irreducible] W RL Does Zat Zaj retQ Calls Pu Stp RD Qy Ay Zak ZbK
theorem Zic {α:Type}(p:α->Bool):∀ (l:List α) (k:Nat),decide (0<=ZbL p l k)=l.any p
 | [],k=>rfl
 | x::l,k=>by
  rw[ZbL,List.any_cons]
  by_cases h:p x=true
  ·rw[if_pos h,h];simp
  ·rw[if_neg h,Zic p l (k+1)]
   simp[h]
theorem Zeq (A:Option Addr)(c:Nat)(l:List DRule)(f:FuncId)[Body Tryz.prog f](us cs:List Value)(p:DRule->Bool)(w:World)(hA:RdSl w A c DRule.enc 11 l)
  (hf:∀ r w',Bel w.heap.size w w'->Does Tryz.prog f (us++[.agg (DRule.enc r).toArray]++cs) w' (fun v O=>v = .bool (p r)/\O=[])) :
  Does Tryz.prog 228 [.slice A l.length c,.func (.func f) us.toArray cs.toArray] w (fun v O=>v = .bool (l.any p)/\O=[]):=by
 have h:=fun w' (hw:Bel w.heap.size w w')=>Ze3 A c l f us cs p w' (hA.up hw) fun r w2 h2=>hf r w2 (hw.trans (h2.mono hw.size))
 rw[<- Zic p l 0]
 generalize ZbL p l 0=k at *
 refine Zaa Tryz.func228 rfl rfl rfl rfl ?_
 repeat (first|(refine js ?_;(refine Zab h ?_))|refine walk ?_)
 exact rtA
theorem ZsO (r:DRule)(w:World):Does Tryz.prog 226 [.agg (DRule.enc r).toArray] w (fun v O=>v = .bool (decide (r.save=0))/\O=[]):=by
 obtain⟨nm,fr,to,mo,⟨dk,dw,dd⟩,⟨cs,cb⟩,sv,le⟩:=r
 show Does _ _ [.agg #[.string nm,.int .i64 fr,.int .i64 to,.int .i64 mo,.int .i64 dk,.int .i64 dw,.int .i64 dd,.int .i64 cs,.int .i64 cb,.int .i64 sv,.string le]] w _
 refine Zaa Tryz.func226 rfl rfl rfl rfl ?_
 repeat' (first|(refine js ?_;(refine bx ?_;intro bk))|refine walk ?_|(refine Zaf rfl (fun hc=>?_) (fun hc=>?_)))
 all_goals exact clo1
theorem ZqE (r:DRule)(w:World):Does Tryz.prog 272 [.agg (DRule.enc r).toArray] w (fun v O=>v = .bool (!decide (r.to=1048576))/\O=[]):=by
 obtain⟨nm,fr,to,mo,⟨dk,dw,dd⟩,⟨cs,cb⟩,sv,le⟩:=r
 show Does _ _ [.agg #[.string nm,.int .i64 fr,.int .i64 to,.int .i64 mo,.int .i64 dk,.int .i64 dw,.int .i64 dd,.int .i64 cs,.int .i64 cb,.int .i64 sv,.string le]] w _
 refine Zaa Tryz.func272 rfl rfl rfl rfl ?_
 repeat' (first|(refine js ?_;(refine bx ?_;intro bk))|refine walk ?_|(refine Zaf rfl (fun hc=>?_) (fun hc=>?_)))
 all_goals exact clo1
theorem ZsN (r:DRule)(ad:Addr)(m:Int)(w:World)(h:w.cell? ad=some (.int .i64 m)):Does Tryz.prog 227 [.agg (DRule.enc r).toArray,.pointer (some ad)] w (fun v O=>v = .bool (!decide (r.save=0)&&!decide (r.save=m))/\O=[]):=by
 obtain⟨nm,fr,to,mo,⟨dk,dw,dd⟩,⟨cs,cb⟩,sv,le⟩:=r
 show Does _ _ [.agg #[.string nm,.int .i64 fr,.int .i64 to,.int .i64 mo,.int .i64 dk,.int .i64 dw,.int .i64 dd,.int .i64 cs,.int .i64 cb,.int .i64 sv,.string le],.pointer (some ad)] w _
 refine Zaa Tryz.func227 rfl rfl rfl rfl ?_
 repeat' (first|(apply RL_pu;rfl;(apply Pu_loadO1;rfl;exact h))|(refine js ?_;(refine bx ?_;intro bk))|refine walk1 ?_|refine und ?_|(refine Zam rfl rfl rfl (fun hc=>?_) (fun hc=>?_))|(refine Zas rfl rfl rfl (fun hc=>?_) (fun hc=>?_))|(refine Zaf rfl (fun hc=>?_) (fun hc=>?_)))
 all_goals exact clo1
end Go.Proofs.YtpipekfmecikmaaGreatDoor
namespace Go.Proofs.YtpipekfmecikmaaGreatDoor
open Go Go.RowKit Go.Wk
attribute [local irreducible] W RL Does Zat Zaj retQ Calls Pu Stp RD Qy Ay
theorem ZnU (A:Option Addr)(c:Nat)(x:List DRule)(w:World)(hA:RdSl w A c DRule.enc 11 x)(hn:x.length<=1000000) :
  Does Tryz.prog 271 [.slice A x.length c] w (ZiP 68 11 DRule.enc x):=by
 refine Zaa Tryz.func271 rfl rfl rfl rfl ?_
 repeat (first|(refine js ?_;(refine bx ?_;intro bk))|refine walk ?_)
 refine Zaf rfl (fun h1=>?_) (fun h1=>?_)
 ·obtain rfl:=hA.none h1
  refine ZdN 68 11 ?_
  repeat (first|(refine js ?_;(refine bx ?_;intro bk))|refine walk ?_)
  exact ret_1 _ [.row (.slice none 0 0) 68 11 0 []] (.tmp rfl) SOA ⟨none,0,rfl,rfl⟩
 repeat (first|(refine js ?_;(first|(apply Zn8;rfl;rfl;(intro A' c';(focus repeat' constructor));(intro w' hw _;exact(hA.up hw).rd.raw DRule.len (by decide));exact ZbA DRule.len x;exact Zpl oneR x;(simp only[maxLen];omega);omega;intro A' c' hc1 hc2 hc3)|(refine bx ?_;intro bk)))|refine walk ?_)
 exact ret_1 _ _ (.tmp rfl) (.refl _) ⟨A',c',rfl,rfl⟩
theorem ZhN (k:ByteArray)(v:Value)(x:ByteArray):∀ m:List (ByteArray × Value),mget (mset m k v) x=if x=k then some v else mget m x
 | []=>by simp[mset,mget]
 | (y,u)::r=>by
  simp only[mset]
  split
  ·rename_i h;subst h;simp only[mget];split <;> simp_all
  ·rename_i h
   simp only[mget,ZhN k v x r]
   split
   ·rename_i h2;subst h2;rw[if_neg (fun e=>h e.symm)]
   ·rfl
def MpB (m:List (ByteArray × Value))(l:List ByteArray):Prop:=∀ x,(mget m x).getD (.bool false) = .bool (memB x l)
theorem MpB.set {m:List (ByteArray × Value)}{l:List ByteArray}(h:MpB m l)(y:ByteArray):MpB (mset m y (.bool true)) (l++[y]):=fun x=>by
 rw[ZhN,ZlC]
 by_cases e:x=y
 ·subst e;simp
 ·rw[if_neg e,h x];simp[show ¬ y=x from fun h=>e h.symm]
theorem MpB.nil:MpB [] []:=fun _=>rfl
structure MG (α:Type) where
 k:Nat
 A:Option Addr
 c:Nat
 m:Nat
 xs:List Value
 acc:List α
 mp:List (ByteArray × Value)
theorem Zqz (Ar Az Al As:Option Addr)(cr cz cl cs:Nat)(a:DSource)(w:World)(hA:Zar w Ar Az Al As cr cz cl cs a)(hn:a.rules.length<=1000000) :
  Does Tryz.prog 174 [srcV Ar Az Al As cr cz cl cs a] w (ZiP 9 1 ZaU (Zbv a.rules [])):=by
 generalize hres:Zbv a.rules []=res
 refine Zaa Tryz.func174 rfl rfl rfl rfl ?_
 repeat (first|(refine js ?_;(refine bx ?_;intro bk))|refine walk ?_)
 refine ZdN 9 1 ?_
 refine Zai [(3,_),(9,_),(10,_)] [] (fun g:MG ByteArray=>[(4,.slice g.A g.m g.c),(11,.int .i64 g.k)]) (fun g=>[.row (.slice g.A g.m g.c) 9 1 g.m g.xs,.mp _ g.mp]) (fun g=>g.k<=a.rules.length/\g.m=g.acc.length/\g.xs=g.acc.flatMap ZaU/\g.m<=g.k/\MpB g.mp g.acc/\Zbv (a.rules.drop g.k) g.acc=res) (fun g=>a.rules.length - g.k) ⟨0,none,0,0,[],[],[]⟩ ⟨rfl,rfl,rfl,rfl,rfl,trivial⟩ SOA ⟨by simp,rfl,rfl,Nat.le_refl _,.nil,by simpa using hres⟩ ?_
 rintro⟨k,A,c,m,xs,acc,mp⟩ ⟨hk,hm,hx,hmk,hp,hi⟩
 dsimp only at hk hm hx hmk hp hi ⊢
 repeat (first|(refine js ?_;(refine bx ?_;intro bk))|refine walk ?_)
 refine Zaf rfl (fun hc=>?_) (fun hc=>?_)
 ·simp only[decide_eq_true_eq,Int.ofNat_lt]at hc
  obtain⟨hna,hca⟩:=hA.r.rd k _ (List.getElem?_eq_getElem hc)
  have hnb:=hna
  have hcb:=hca
  rw[Zag hc,Zbv]at hi
  generalize a.rules[k]=r at *
  repeat (first|(apply RL_pu;rfl;(first|exact PuI|(apply Zgq;rfl;rfl;(focus repeat' constructor);exact hp _)))|(refine js ?_;(refine bx ?_;intro bk))|refine walk1 ?_)
  refine Zaf rfl (fun h3=>?_) (fun h3=>?_)
  ·simp only[Bool.not_eq_true']at h3
   rw[h3]at hi
   repeat (first|(apply RL_pu;rfl;exact PuI)|(refine js ?_;(first|(apply ZaT;rfl;rfl;(intro A' c';(focus repeat' constructor));(intro w' _ hO;exact Zcu (hO.of (by repeat' constructor)));rfl;rfl;(simp only[maxLen];omega);omega;intro A' c' hc1 hc2 hc3)|(refine bx ?_;intro bk)))|refine walk1 ?_)
   exact⟨⟨k+1,A',c',m+1,xs++ZaU r.name,acc++[r.name],mset mp r.name (.bool true)⟩,OA,⟨OA,by simp[hm],by rw[hx];exact Zel acc r.name,OA,hp.set _,by rw[<- hi];simp⟩,SFA,SOA⟩
  simp only[Bool.not_eq_false']at h3
  rw[h3]at hi
  repeat (first|(refine js ?_;(refine bx ?_;intro bk))|refine walk ?_)
  exact⟨⟨k+1,A,c,m,xs,acc,mp⟩,OA,⟨OA,hm,hx,OA,hp,by rw[<- hi];simp⟩,SFA,SOA⟩
 simp only[decide_eq_false_iff_not,Int.ofNat_lt]at hc
 rw[List.drop_eq_nil_of_le (by omega),Zbv]at hi
 subst hi
 repeat (first|(refine js ?_;(refine bx ?_;intro bk))|refine walk ?_)
 exact ret_1 _ [.row (.slice A acc.length c) 9 1 acc.length (acc.flatMap ZaU)] (.tmp rfl) (by subst hm hx;exact SOA) ⟨A,c,by rw[hm],rfl⟩
structure ZE where
 z:DZone
 A:Option Addr
 c:Nat
def ZE.enc (q:ZE):List Value:=[.string q.z.name,.slice q.A q.z.eras.length q.c]
theorem ZE.len (x:ZE):x.enc.length=2:=rfl
def ZAn (Zs:List ZE)(w:World):Prop:=∀ q∈Zs,RdSl w q.A q.c DEra.enc 13 q.z.eras
theorem ZuF {w:World}{A:Option Addr}{c:Nat}{Zs:List ZE}(h:RdSl w A c ZE.enc 2 Zs)(he:ZAn Zs w):RdZ w A (Zs.map ZE.z):=fun k z hz=>by
 rw[List.getElem?_map]at hz
 cases hq:Zs[k]? with
 | none=>rw[hq]at hz;cases hz
 | some q =>
  rw[hq]at hz
  injection hz with hz
  subst hz
  exact⟨(h.rd k q hq).1,q.enc,⟨q.A,q.c,he q (List.mem_of_getElem? hq),rfl⟩,(h.rd k q hq).2⟩
abbrev rowR (A:Option Addr)(c:Nat)(l:List DRule):It := .row (.slice A l.length c) 68 11 l.length (l.flatMap DRule.enc)
end Go.Proofs.YtpipekfmecikmaaGreatDoor
namespace Go.Proofs.YtpipekfmecikmaaGreatDoor
open Go Go.RowKit Go.Wk
section
variable {P:Program}{n:Nat}{wr:World}{fr:Fr}{O:List It}{ops:Array Oper}{K:Fr->List It->Prop}
end
attribute [local irreducible] W RL Does Zat Zaj retQ Calls Pu Stp RD Qy Ay
end Go.Proofs.YtpipekfmecikmaaGreatDoor
namespace Go.Wk
open Go Go.RowKit
theorem Zrc (z:Array Value)(k:Nat)(h:z.toList.all Value.oneCell'=true)(h0:0<z.size):(Builtin.zeroCells z k).toList.all Value.oneCell'=true:=by
 rw[List.all_eq_true]at h ⊢
 intro x hx
 unfold Builtin.zeroCells at hx
 rw[Array.toList_map,List.mem_map]at hx
 obtain⟨i,hi,rfl⟩:=hx
 have hlt:=Nat.mod_lt i h0
 rw[getElem!_pos z (i % z.size) hlt]
 exact h _ (by simp)
theorem ZoZ:∀ (vs xs:List Value) (j:Nat),xs.length<=j->lay xs j vs=xs
 | [],_,_,_=>rfl
 | v::r,xs,j,h=>by rw[lay,List.set_eq_of_length_le h,ZoZ r xs (j+1) (by omega)]
theorem Zv8:∀ (vs pre cs post:List Value),cs.length=vs.length->lay (pre++cs++post) pre.length vs=pre++vs++post
 | [],pre,cs,post,h=>by
  have:cs=[]:=List.eq_nil_of_length_eq_zero h
  rw[this];rfl
 | v::r,pre,[],post,h=>by simp at h
 | v::r,pre,c::cs,post,h=>by
  have:=Zv8 r (pre++[v]) cs post (by simpa using h)
  rw[lay]
  rw[show(pre++c::cs++post).set pre.length v=pre++[v]++cs++post by simp]
  rw[List.length_append]at this
  simpa using this
end Go.Wk
namespace Go.Proofs.YtpipekfmecikmaaGreatDoor
open Go Go.RowKit Go.Wk
attribute [local irreducible] W RL Does Zat Zaj retQ Calls Pu Stp RD Qy Ay Zak ZbK
theorem Zib {α:Type}(p:α->Bool):∀ (l:List α) (k:Nat),(ZbL p l k = -1/\l.filter (fun r => !p r)=l)\/∃ i,ZbL p l k=((k+i:Nat):Int)/\i<l.length/\(l.take (i+1)).filter (fun r => !p r)=l.take i
 | [],k => .inl ⟨rfl,rfl⟩
 | x::l,k=>by
  rw[ZbL]
  by_cases h:p x=true
  ·rw[if_pos h]
   exact .inr ⟨0,rfl,by simp,by simp[h]⟩
  ·rw[if_neg h]
   rcases Zib p l (k+1) with⟨h1,h2⟩|⟨i,h1,h2,h3⟩
   ·exact .inl ⟨h1,by rw[List.filter_cons,if_pos (by simp[h]),h2]⟩
   ·refine .inr ⟨i+1,by rw[h1];omega,by simpa using h2,?_⟩
    rw[List.take_succ_cons,List.filter_cons,if_pos (by simp[h]),h3,List.take_succ_cons]
theorem Zx3 {base:Nat}{A:Option Addr}{c:Nat}{l:List DRule}{w:World}{O R:List It}(h:ZaA base O w)(hp:Pick (rowR A c l) O R)(hlc:l.length<=c)(hcm:c<=maxLen):RdSl w A c DRule.enc 11 l :=
 ⟨hlc,hcm,fun k x hk=>by
  have hs:=h.sat _ (hp.perm.mem_iff.2 List.mem_cons_self)
  have hlt:=(List.getElem?_eq_some_iff.1 hk).1
  refine⟨ZoO hs (by omega),fun j v hj=>?_⟩
  rw[Zbo]
  exact(ZaD hs (Zao DRule.len l k x j v hk hj)).2⟩
instance zeroRule:ZeroV Tryz.prog 68 (.agg #[.string ByteArray.empty,.int .i64 0,.int .i64 0,.int .i64 0,.int .i64 0,.int .i64 0,.int .i64 0,.int .i64 0,.int .i64 0,.int .i64 0,.string ByteArray.empty]):=⟨by kernel_rfl⟩
structure DG where
 j:Nat
 C:List DRule
set_option maxHeartbeats 2000000 in
theorem ZnR (A:Option Addr)(c:Nat)(l:List DRule)(f:FuncId)[Body Tryz.prog f](p:DRule->Bool)(wr:World)(hn:l.length<=1000000)(hlc:l.length<=c)(hcm:c<=maxLen)(hAn:0<l.length->A≠none)(hf:∀ r w',Does Tryz.prog f [.agg (DRule.enc r).toArray] w' (fun v O=>v = .bool (p r)/\O=[])) :
  Zak Tryz.prog 270 [.slice A l.length c,.func (.func f) #[] #[]] wr [rowR A c l] (fun v O=>v = .slice A (l.filter fun r => !p r).length c/\O=[rowR A c (l.filter fun r => !p r)]):=by
 have hidx:=fun w' (hH:ZaA wr.heap.size [rowR A c l] w')=>Ze3 A c l f [] [] p w' (Zx3 hH .here hlc hcm) fun r w2 _=>hf r w2
 unfold maxLen at hcm
 generalize hres:(l.filter fun r => !p r)=res
 rcases Zib p l 0 with⟨h1,h2⟩|⟨i,h1,h2,h3⟩
 ·rw[h1]at hidx
  rw[h2]at hres
  subst hres
  refine Zfl Tryz.func270 rfl rfl rfl rfl ?_
  repeat (first|(refine js ?_;(first|(apply Zae (h:=fun w' _ hH=>hidx w' hH);rfl;rintro v O' ⟨rfl,rfl⟩)|(refine bx ?_;intro bk)))|refine walk ?_)
  exact ret_1 _ _ (.tmp rfl) (.refl _) ⟨rfl,rfl⟩
 ·rw[h1,Nat.zero_add]at hidx
  have hA:=hAn (by omega)
  obtain⟨ad,rfl⟩:∃ ad,A=some ad:=by
   cases A with
   | none=>exact absurd rfl hA
   | some ad=>exact⟨ad,rfl⟩
  clear hA hAn
  refine Zfl Tryz.func270 rfl rfl rfl rfl ?_
  repeat (first|(refine js ?_;(first|(apply Zae (h:=fun w' _ hH=>hidx w' hH);rfl;rintro v O' ⟨rfl,rfl⟩)|(refine bx ?_;intro bk)))|refine ZmR ?_)
  refine ZbZ (fun fr' O'=>Go.Wk.Sub [(0,.slice (some ad) l.length c),(5,.int .i64 res.length)] fr'/\SubO [.row (.slice (some ad) l.length c) 68 11 l.length ((res++l.drop res.length).flatMap DRule.enc)] O') ?_ ?_
  ·apply W_block
   refine Zai [(0,_),(1,_)] [] (fun g:DG=>[(5,.int .i64 g.C.length),(6,.int .i64 g.j)]) (fun g=>[.row (.slice (some ad) l.length c) 68 11 l.length ((g.C++l.drop g.C.length).flatMap DRule.enc)])
    (fun g=>g.C=(l.take g.j).filter (fun r => !p r)/\g.C.length+1<=g.j/\g.j<=l.length) (fun g=>l.length - g.j) ⟨i+1,l.take i⟩ (by dsimp only;rw[List.length_take,Nat.min_eq_left (by omega)];exact⟨rfl,rfl,rfl,rfl,trivial⟩) (by dsimp only;rw[List.length_take,Nat.min_eq_left (by omega),List.take_append_drop];exact .refl _) ⟨h3.symm,by show(l.take i).length+1<=i+1;rw[List.length_take];omega,by show i+1<=l.length;omega⟩ ?_
   rintro⟨j,C⟩ ⟨hC,hCj,hj⟩
   dsimp only at hC hCj hj ⊢
   have hLl:(C++l.drop C.length).length=l.length:=by rw[List.length_append,List.length_drop];omega
   repeat (first|(refine js ?_;(refine bx ?_;intro bk))|refine walk ?_)
   refine Zaf rfl (fun g=>?_) (fun g=>?_)
   ·have hjl:j<l.length:=by simpa using g
    have hx:∀ q v,(DRule.enc l[j])[q]?=some v->((C++l.drop C.length).flatMap DRule.enc)[(j:Int).toNat*11+q]?=some v:=fun q v hv=>by
     refine Zao DRule.len _ j l[j] q v ?_ hv
     rw[List.getElem?_append_right (by omega),List.getElem?_drop,show C.length+(j - C.length)=j from by omega,List.getElem?_eq_getElem hjl]
    have hst:(l.take (j+1)).filter (fun r => !p r)=C++(if p l[j] then [] else [l[j]]):=by
     rw[List.take_succ_eq_append_getElem hjl,List.filter_append,<- hC]
     by_cases hp:p l[j]=true
     ·simp[hp]
     ·simp[hp]
    have hput:lay ((C++l.drop C.length).flatMap DRule.enc) (C.length*11) (DRule.enc l[j])=((C++[l[j]])++l.drop (C.length+1)).flatMap DRule.enc:=by
     have hlt:C.length<l.length:=by omega
     rw[Zag hlt,show C++l[C.length]::l.drop (C.length+1)=C++[l[C.length]]++l.drop (C.length+1) by simp,List.flatMap_append,List.flatMap_append,List.flatMap_append,List.flatMap_append,List.flatMap_singleton,List.flatMap_singleton]
     have:=Zv8 (DRule.enc l[j]) (C.flatMap DRule.enc) (DRule.enc l[C.length]) ((l.drop (C.length+1)).flatMap DRule.enc) rfl
     rw[ZbA DRule.len]at this
     exact this
    generalize l[j]=r at *
    obtain⟨nm,fr,to,mo,⟨dk,dw,dd⟩,⟨cs,cb⟩,sv,le⟩:=r
    have hfr:=hf ⟨nm,fr,to,mo,⟨dk,dw,dd⟩,⟨cs,cb⟩,sv,le⟩
    generalize p ⟨nm,fr,to,mo,⟨dk,dw,dd⟩,⟨cs,cb⟩,sv,le⟩=b at *
    simp only[DRule.enc]at hx hput hfr
    repeat (first|(apply RL_pu;rfl;(first|(apply Pu_indexAddr;rfl;rfl;omega;omega;nofun)|(apply ZaS;rfl;(focus repeat' constructor);exact hx;rfl)))|(refine js ?_;(first|(apply Zay (f:=f) (us:=[]) (cs:=[]) (vs:=[.agg #[.string nm,.int .i64 fr,.int .i64 to,.int .i64 mo,.int .i64 dk,.int .i64 dw,.int .i64 dd,.int .i64 cs,.int .i64 cb,.int .i64 sv,.string le]]) (h:=fun w' hw _=>hfr w');rfl;rfl;rintro v O' ⟨rfl,rfl⟩)|(refine bx ?_;intro bk)))|refine walk1 ?_)
    refine Zaf rfl (fun g2=>?_) (fun g2=>?_)
    ·have hb:b=false:=by simpa using g2
     rw[hb,if_neg (by decide)]at hst
     have hfl:((C++l.drop C.length).flatMap DRule.enc).length=l.length*11:=by rw[ZbA DRule.len,hLl]
     repeat (first|(apply RL_pu;rfl;(apply Pu_indexAddr;rfl;rfl;omega;omega;nofun))|(refine js ?_;(first|(apply Zgh (vs:=[.string nm,.int .i64 fr,.int .i64 to,.int .i64 mo,.int .i64 dk,.int .i64 dw,.int .i64 dd,.int .i64 cs,.int .i64 cb,.int .i64 sv,.string le]);rfl;rfl;(focus repeat' constructor);rfl;rfl;rfl;(rw[hfl];omega);decide;exact hput)|(refine bx ?_;intro bk)))|refine walk1 ?_)
     refine⟨⟨j+1,_⟩,OA,⟨hst.symm,by dsimp only;rw[List.length_append,List.length_singleton];omega,OA⟩,?_,?_⟩
     ·dsimp only
      rw[List.length_append,List.length_singleton]
      exact SFA
     ·dsimp only
      rw[List.length_append,List.length_singleton]
      exact SOA
    ·have hb:b=true:=by simpa using g2
     rw[hb,if_pos rfl,List.append_nil]at hst
     repeat (first|(refine js ?_;(refine bx ?_;intro bk))|refine walk ?_)
     exact⟨⟨j+1,C⟩,OA,⟨hst.symm,OA,OA⟩,SFA,SOA⟩
   ·have hjl:j=l.length:=by
     have:=of_decide_eq_false g
     omega
    rw[hjl,List.take_length,hres]at hC
    subst hC
    repeat (first|(refine js ?_;(refine bx ?_;intro bk))|refine walk ?_)
    exact⟨rfl,SFA,SOA⟩
  rintro fr' O' ⟨hf1,hO⟩
  apply thenQ_n
  refine ZcO hf1 hO ?_
  clear hf1 hO fr' O'
  have hrl:res.length<l.length:=by
   have h4:l.take (i+1)++l.drop (i+1)=l:=List.take_append_drop _ _
   have h5:res=l.take i++(l.drop (i+1)).filter (fun r => !p r):=by rw[<- hres,<- h3,<- List.filter_append,h4]
   have h6:=List.length_filter_le (fun r => !p r) (l.drop (i+1))
   rw[List.length_drop]at h6
   have h7:=congrArg List.length h5
   rw[List.length_append,List.length_take]at h7
   omega
  have hLl:((res++l.drop res.length).flatMap DRule.enc).length=l.length*11:=by rw[ZbA DRule.len,List.length_append,List.length_drop];congr 1;omega
  have htk:∀ vs,(lay ((res++l.drop res.length).flatMap DRule.enc) ((res.length:Int).toNat*11) vs).take (res.length*11)=res.flatMap DRule.enc:=fun vs=>by
   rw[ZgZ,List.flatMap_append,List.take_left' (by rw[ZbA DRule.len])]
   exact ZoZ _ _ _ (by rw[ZbA DRule.len];omega)
  repeat (first|((apply RL_st0;apply Zq6 (p:=(res.length:Int).toNat*11) (k:=l.length - (res.length:Int).toNat);rfl;(focus repeat' constructor);exact Zrc _ _ rfl (by decide);omega;(rw[hLl];omega));refine Zs7 (m:=l.length) res.length (by omega) (by repeat' constructor) ?_;rw[htk])|(apply RL_pu;rfl;(apply Ztx;rfl;rfl;omega;omega;omega))|(refine js ?_;(refine bx ?_;intro bk))|refine walk1 ?_)
  exact ret_1 _ _ (.tmp rfl) (.refl _) ⟨rfl,rfl⟩
attribute [local irreducible] Zgy
def ZAk (l:List DRule)(v:Value)(O:List It):Prop:=∃ A c,v = .slice A l.length c/\O=[rowR A c l]/\l.length<=c/\c<=maxLen/\(0<l.length->A≠none)
theorem ZkA (A:Option Addr)(c:Nat)(x:List DRule)(w:World)(hA:RdSl w A c DRule.enc 11 x)(hn:x.length<=1000000) :
  Does Tryz.prog 271 [.slice A x.length c] w (ZAk x) :=
 (ZnU A c x w hA hn).monoH fun v O base w' ⟨A,c,h1,h2⟩ hH=>by
  subst h2
  obtain⟨A2,c2,e1,h3,h4,h5,_⟩:=Zfs (hH.sat _ List.mem_cons_self)
  injection e1 with e2 _ e3
  subst e2 e3
  exact⟨_,⟨A,c,h1,rfl,h3,h4,h5⟩,hH⟩
theorem ZtE {G:Prop}(h:G:=by(first|(apply Pu_indexAddr;rfl;rfl;(first|decide|omega);(first|decide|omega);nofun)|(apply ZaS;rfl;(focus repeat' constructor);exact hx1;rfl)|(apply ZaS;rfl;(focus repeat' constructor);exact hx2;rfl))):G:=h
theorem Zwi {G:Prop}(h:G:=by first|(apply Qy_y;rfl;exact ZtE)|exact QyA):G:=h
theorem ZzX {G:Prop}(h:G:=by repeat (first|exact QF.nil|(apply QF.mk;rfl;rfl;decide +kernel;exact Zwi))):G:=h
theorem Zsm (A:Option Addr)(c:Nat)(l:List DRule)(w:World)(hA:RdSl w A c DRule.enc 11 l)(hn:l.length<=1000000) :
  Does Tryz.prog 229 [.slice A l.length c] w (fun v O=>v = .bool (Zff l)/\O=[]):=by
 have hfl:(l.filter fun r => !(!decide (r.to=1048576)))=l.filter fun r=>decide (r.to=1048576):=by
  congr 1;funext r;rw[Bool.not_not]
 have hlen:=List.length_filter_le (fun r:DRule=>decide (r.to=1048576)) l
 obtain⟨res,hres⟩:∃ res,Zff l=res:=⟨_,rfl⟩
 rw[hres]
 unfold Zff at hres
 refine Zaa Tryz.func229 rfl rfl rfl rfl ?_
 repeat (first|refine walk ?_|(refine jg ?_;(try intro F);(first|(apply Zae (h:=fun w' hw _=>ZkA A c l w' (hA.up hw) hn);rfl;rintro v O' ⟨B,d,rfl,rfl,hb1,hb2,hb3⟩)|(refine bx ?_;intro bk)|(refine stA ?_));refine fin ?_)|(refine jn ?_;(try intro F);(first|(refine bx ?_;intro bk)|(refine stA ?_)|(apply Zac;exact PuA));refine fin ?_)|(apply RD_W;rfl;intro bk))
 have hdel:=ZnR B d l 272 (fun r => !decide (r.to=1048576)) w hn hb1 hb2 hb3 ZqE
 rw[hfl]at hdel
 generalize (l.filter fun r=>decide (r.to=1048576))=F at *
 repeat (first|refine walk ?_|(refine Zdo ?_;intro F;(apply Zgk (h:=hdel);rfl;exact .refl _;rintro v O' ⟨rfl,rfl⟩);refine⟨_,EndsA,SubO.right _ _,?_⟩)|(refine jn ?_;(try intro F);(first|(apply Zgk (h:=hdel);rfl;exact .refl _;rintro v O' ⟨rfl,rfl⟩)|(refine bx ?_;intro bk)|(refine stA ?_)|(apply Zac;exact PuA));refine fin ?_)|(apply RD_W;rfl;intro bk))
 rcases F with _|⟨a,_|⟨b,_|⟨x,F⟩⟩⟩
 ·repeat (first|refine walk ?_|(refine jn ?_;(try intro F);(first|(refine bx ?_;intro bk)|(refine stA ?_)|(apply Zac;exact PuA));refine fin ?_)|(apply RD_W;rfl;intro bk))
  exact ret_1 _ [] (.tmp rfl) .nil ⟨by rw[<- hres],rfl⟩
 ·repeat (first|refine walk ?_|(refine jn ?_;(try intro F);(first|(refine bx ?_;intro bk)|(refine stA ?_)|(apply Zac;exact PuA));refine fin ?_)|(apply RD_W;rfl;intro bk))
  exact ret_1 _ [] (.tmp rfl) .nil ⟨by rw[<- hres],rfl⟩
 ·have hB:=hb3 (by simp at hlen;omega)
  obtain⟨ad,rfl⟩:∃ ad,B=some ad:=by
   cases B with
   | none=>exact absurd rfl hB
   | some ad=>exact⟨ad,rfl⟩
  dsimp only at hres
  have hpa:=Zi9 a
  have hpb:=Zi9 b
  generalize Zgy a=pa at *
  generalize Zgy b=pb at *
  have hx1:∀ q v,(DRule.enc a)[q]?=some v->([a,b].flatMap DRule.enc)[(0:Int).toNat*11+q]?=some v:=fun q v hv=>Zao DRule.len _ 0 a q v rfl hv
  have hx2:∀ q v,(DRule.enc b)[q]?=some v->([a,b].flatMap DRule.enc)[(1:Int).toNat*11+q]?=some v:=fun q v hv=>Zao DRule.len _ 1 b q v rfl hv
  simp only[rowR,List.length_cons,List.length_nil,Nat.zero_add,Nat.reduceAdd]
  generalize hxs:[a,b].flatMap DRule.enc=xs at *
  clear hxs
  obtain⟨nm,fr,to,mo,⟨dk,dw,dd⟩,⟨cs,cb⟩,sv,le⟩:=a
  obtain⟨nm2,fr2,to2,mo2,⟨dk2,dw2,dd2⟩,⟨cs2,cb2⟩,sv2,le2⟩:=b
  simp only[DRule.enc]at hx1 hx2 hpa hpb
  repeat (first|(apply RL_pu;rfl;exact ZtE)|(apply RD_Q;rfl;rfl;decide +kernel;rfl;rfl;exact Zwi)|refine walk1 ?_|(refine jn ?_;(try intro F);(first|(refine bx ?_;intro bk)|(refine stA ?_)|(apply Zac;first|exact ZtE|exact PuA));first|refine⟨_,EndsA,ZzX,?_⟩|refine fin ?_)|(apply RD_W;rfl;intro bk))
  repeat' (first|(refine js ?_;(first|(refine Zab (fun w' _=>hpa w') ?_)|(refine Zab (fun w' _=>hpb w') ?_)|(refine bx ?_;intro bk)))|refine walk ?_|(refine Zdo ?_;intro F;(first|(refine Zab (fun w' _=>hpa w') ?_)|(refine Zab (fun w' _=>hpb w') ?_));refine⟨_,EndsA,SubO.right _ _,?_⟩)|(refine RD_Lw ?_;intro F;(first|(refine Zab (fun w' _=>hpa w') ?_)|(refine Zab (fun w' _=>hpb w') ?_)|(refine bx ?_;intro bk)|(refine stA ?_)|(apply Zac;exact PuA));refine⟨_,EndsA,QFA,?_⟩)|(apply RD_W;rfl;intro bk)|refine und ?_|(refine Zam rfl rfl rfl (fun hc=>?_) (fun hc=>?_))|(refine Zas rfl rfl rfl (fun hc=>?_) (fun hc=>?_))|(refine Zaf rfl (fun hc=>?_) (fun hc=>?_)))
  all_goals clear hx1 hx2 hpa hpb hdel hA hb1 hb2
  all_goals subst hres
  all_goals exact clo1
 ·repeat (first|refine walk ?_|(refine jn ?_;(try intro F);(first|(refine bx ?_;intro bk)|(refine stA ?_)|(apply Zac;exact PuA));refine fin ?_)|(apply RD_W;rfl;intro bk))
  exact ret_1 _ [] (.tmp rfl) .nil ⟨by rw[<- hres],rfl⟩
end Go.Proofs.YtpipekfmecikmaaGreatDoor
