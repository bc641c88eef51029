/- Parts of the proof. -/
import Derived.Test.YtdlmhmmhdbbliaaGreatDoorV19
import Derived.Test.YtdlmhmmhdbbliaaGreatDoorV07
import Derived.Lib.TrimUEq
import Derived.Lib.SmallJoins
import Derived.Test.YtdlmhmmhdbbliaaGreatDoorV18
import Derived.Test.YtdlmhmmhdbbliaaGreatDoorV09
set_option maxHeartbeats 4000000
set_option linter.unusedVariables false
set_option linter.unusedSimpArgs false
namespace Go.Wk
open Go Go.RowKit
section
variable {P:Program}{n:Nat}{wr:World}{fr:Fr}{O:List It}{ty:TypeId}
theorem Zf9 {x y:Operand}{ts:Array TypeId}{k:IntKind}{i j q:Int}(hx:ev fr x=some (.int k i))(hy:ev fr y=some (.int k j))(hq:(if i<j then j else i)=q):Pu P n wr fr O (.call ⟨.builtin .max,#[x,y],ts⟩) ty (.int k q):=by
 rw[<- hq]
 exact Zpe hx hy
theorem ZlF {x y:Operand}{ts:Array TypeId}{k:IntKind}{i j q:Int}(hx:ev fr x=some (.int k i))(hy:ev fr y=some (.int k j))(hq:(if j<i then j else i)=q):Pu P n wr fr O (.call ⟨.builtin .min,#[x,y],ts⟩) ty (.int k q):=by
 rw[<- hq]
 exact Ze2 hx hy
end
end Go.Wk
namespace Go.Proofs.YtdlmhmmhdbbliaaGreatDoor
open Go Go.RowKit Go.Wk
attribute [local irreducible] W RL Does Zau Zak retQ Calls Pu Stp RD Qy Ay Zaj
theorem Zkm (r:Zab)(w:World):Does Tryz.prog 60 [.agg (Zab.enc r).toArray] w (fun v O=>v = .int .i64 (lastY r)/\O=[]):=by
 unfold lastY
 obtain⟨nm,fr,to,mo,⟨dk,dw,dd⟩,⟨cs,cb⟩,sv,le⟩:=r
 simp only at *
 show Does _ _ [.agg #[.string nm,.int .i64 fr,.int .i64 to,.int .i64 mo,.int .i64 dk,.int .i64 dw,.int .i64 dd,.int .i64 cs,.int .i64 cb,.int .i64 sv,.string le]] w _
 refine Zaa Tryz.func60 rfl rfl rfl rfl ?_
 rw[show min to 2000000000=if 2000000000<to then 2000000000 else to by split <;> omega]
 repeat' (first|(apply RL_pu;rfl;(apply Ze2;rfl;rfl))|(refine js ?_;(refine bx ?_;intro bk))|refine walk1 ?_|(refine Zaf rfl (fun hc=>?_) (fun hc=>?_)))
 all_goals exact clo1
def evV:Option Zad->Value
 | some e => .agg (Zad.enc e).toArray
 | none => .agg (Zad.enc dEv0).toArray
theorem ZeQ (l:List Zab)(h:∀ r∈l,-4611686018427387904<=r.save/\r.save<=4611686018427387904) : -4611686018427387904<=Zah l/\Zah l<=0:=by
 have h1:=Ztv l 0 (by omega) (by omega) h
 refine⟨h1.1,?_⟩
 have:∀ (l:List Zab) (m:Int),l.foldl (fun m r=>min m r.save) m<=m:=fun l=>by
  induction l with
  | nil=>intro m;exact Int.le_refl _
  | cons r l ih=>intro m;have:=ih (min m r.save);simp only[List.foldl_cons];omega
 exact this l 0
theorem ZBb {G:Prop}(h:G:=by(first|exact PuI|(apply Pu_add;rfl;rfl;(constructor <;> omega))|(apply ZcQ;rfl;rfl;(constructor <;> omega))|(apply Pu_add;rfl;rfl;(constructor <;> (simp only[decide_eq_false_iff_not,decide_eq_true_eq]at *;omega)))|(apply Zf9;rfl;rfl;exact hmx)|(apply Zpe;rfl;rfl))):G:=h
theorem Zgv (A:Option Addr)(c:Nat)(l:List Zab)(i:Nat)(y:Int)(r:Zab)(w:World)(hG:Glob w)(hA:RdSl w A c Zab.enc 11 l)(hi:l[i]?=some r)(hn:l.length<=1000000)(hR:∀ r∈l,-4611686018427387904<=r.save/\r.save<=4611686018427387904) :
  Does Tryz.prog 61 [.slice A l.length c,.int .i64 i,.int .i64 y] w (fun v O=>v = .tuple #[evV (onR (Zah l) r i y),.bool (onR (Zah l) r i y).isSome]/\O=[]):=by
 have hlt:i<l.length:=(List.getElem?_eq_some_iff.1 hi).1
 have hls:=ZeQ l hR
 have hlst:=fun w' (hw:Bel w.heap.size w w')=>Zc1 A c l w' (hA.up hw)
 have hlast:=Zkm r
 have hcc:=Zcp r.at_
 have hcb:ZaP r.at_=true -> -604799<=r.at_.sec/\r.at_.sec<=604799:=fun hc=>by
  simp only[ZaP,Bool.and_eq_true,decide_eq_true_eq]at hc
  omega
 have ho:=fun w' (hw:Bel w.heap.size w w')=>Ziw y r.month r.day w' (hG.up hw)
 have hob:=ZhC y r.month r.day
 obtain⟨hna,hca⟩:=hA.rd i _ hi
 obtain⟨res,hres⟩:∃ res,onR (Zah l) r i y=res:=⟨_,rfl⟩
 rw[hres]
 unfold onR at hres
 clear hi hR
 generalize Zah l=least at *
 generalize lastY r=ly at *
 generalize onD y r.month r.day=x at *
 generalize ZaP r.at_=z at *
 obtain⟨x1,x2⟩:=x
 obtain⟨nm,fr,to,mo,⟨dk,dw,dd⟩,⟨cs,cb⟩,sv,le⟩:=r
 simp only[Zab.enc]at *
 rw[show max fr (-2000000000)=if fr < -2000000000 then -2000000000 else fr by split <;> omega]at hres
 rw[show max least (-10800)=if least < -10800 then -10800 else least by split <;> omega]at hres
 have hmb : -10800<=(if least < -10800 then (-10800:Int) else least)/\(if least < -10800 then (-10800:Int) else least)<=0:=by split <;> omega
 obtain⟨mx,hmx⟩:∃ mx,(if least < -10800 then (-10800:Int) else least)=mx:=⟨_,rfl⟩
 rw[hmx]at hres hmb
 cases z
 ·clear hcb ho hob
  obtain rfl:none=res:=by rw[<- hres,if_pos (by simp)]
  clear hres
  refine Zaa Tryz.func61 rfl rfl rfl rfl ?_
  repeat' (first|(apply RL_pu;rfl;exact ZBb)|(refine js ?_;(first|(refine Zac hlst ?_)|(refine Zac (fun w' hw=>hlast w') ?_)|(refine Zac (fun w' hw=>hcc w') ?_)|(refine Zac ho ?_)|(refine bx ?_;intro bk)))|refine walk1 ?_|refine und ?_|(refine Zat rfl rfl rfl (fun hc=>?_) (fun hc=>?_))|(refine Zas rfl rfl rfl (fun hc=>?_) (fun hc=>?_))|(refine Zaf rfl (fun hc=>?_) (fun hc=>?_)))
  ·exact absurd (of_decide_eq_true hc) (by omega)
  all_goals first|exact rtC|(exfalso;simp_all;done)
 ·have hb:=hcb rfl
  clear hcb
  refine Zaa Tryz.func61 rfl rfl rfl rfl ?_
  repeat' (first|(apply RL_pu;rfl;exact ZBb)|(refine js ?_;(first|(refine Zac hlst ?_)|(refine Zac (fun w' hw=>hlast w') ?_)|(refine Zac (fun w' hw=>hcc w') ?_)|(refine Zac ho ?_)|(refine bx ?_;intro bk)))|refine walk1 ?_|refine und ?_|(refine Zat rfl rfl rfl (fun hc=>?_) (fun hc=>?_))|(refine Zas rfl rfl rfl (fun hc=>?_) (fun hc=>?_))|(refine Zaf rfl (fun hc=>?_) (fun hc=>?_)))
  ·exact absurd (of_decide_eq_true hc) (by omega)
  ·have h:=of_decide_eq_true hc
   obtain rfl:none=res:=by rw[<- hres,if_pos (.inl h)]
   exact rtC
  ·have h:=of_decide_eq_true hc
   obtain rfl:none=res:=by rw[<- hres,if_pos (.inr (.inl h))]
   exact rtC
  ·have hx:¬ x2=0:=by simpa using hc
   obtain rfl:none=res:=by rw[<- hres,if_neg (fun h=>h.elim (fun h=>absurd h (of_decide_eq_false (by assumption))) (fun h=>h.elim (fun h=>absurd h (of_decide_eq_false (by assumption))) (fun h=>by cases h))),if_pos hx]
   exact rtC
  ·rename_i hx2
   have hx:¬ ¬ x2=0:=by simpa using hx2
   obtain rfl:some ⟨y,(i:Int),86400*x1+cs+mx⟩=res:=by rw[<- hres,if_neg (fun h=>h.elim (fun h=>absurd h (of_decide_eq_false (by assumption))) (fun h=>h.elim (fun h=>absurd h (of_decide_eq_false (by assumption))) (fun h=>by cases h))),if_neg hx,if_pos (of_decide_eq_true hc)]
   exact rtC
  ·rename_i hx2
   have hx:¬ ¬ x2=0:=by simpa using hx2
   obtain rfl:some ⟨y,(i:Int),86400*x1+cs⟩=res:=by rw[<- hres,if_neg (fun h=>h.elim (fun h=>absurd h (of_decide_eq_false (by assumption))) (fun h=>h.elim (fun h=>absurd h (of_decide_eq_false (by assumption))) (fun h=>by cases h))),if_neg hx,if_neg (of_decide_eq_false hc),Int.add_zero]
   exact rtC
end Go.Proofs.YtdlmhmmhdbbliaaGreatDoor
namespace Go.Wk
open Go Go.RowKit
def cmpI (a b:Int):Int:=if a<b then -1 else if b<a then 1 else 0
def iEnc (i:Int):List Value:=[.int .i64 i]
def ZbX:List Int->Int
 | []=>0
 | x::l=>if x=0 then ZbX l else x
theorem Zs4 (a b:Zad):ordE a b=ZbX [cmpI a.nominal b.nominal,cmpI a.rule b.rule,cmpI a.year b.year]:=by
 unfold ordE cmpI ZbX ZbX ZbX ZbX
 repeat' split
 all_goals omega
end Go.Wk
namespace Go.Proofs.YtdlmhmmhdbbliaaGreatDoor
open Go Go.RowKit Go.Wk
attribute [local irreducible] W RL Does Zau Zak retQ Calls Pu Stp RD Qy Ay Zaj
theorem Zkd (a:Int)(w:World):Does Tryz.prog 143 [.int .i64 a] w (fun v O=>v = .bool false/\O=[]):=by
 refine Zaa Tryz.func143 rfl rfl rfl rfl ?_
 repeat (first|refine walk ?_)
 exact ret_1 _ [] (.tmp rfl) .nil ⟨by simp,rfl⟩
theorem Zmo (a:Int)(w:World):Does Tryz.prog 144 [.int .i64 a] w (fun v O=>v = .bool false/\O=[]):=by
 refine Zaa Tryz.func144 rfl rfl rfl rfl ?_
 repeat (first|refine walk ?_)
 exact ret_1 _ [] (.tmp rfl) .nil ⟨by simp,rfl⟩
theorem Zkz (a b:Int)(w:World):Does Tryz.prog 94 [.int .i64 a,.int .i64 b] w (fun v O=>v = .int .i64 (cmpI a b)/\O=[]):=by
 refine Zaa Tryz.func94 rfl rfl rfl rfl ?_
 repeat' (first|(refine js ?_;(first|(refine Zac (fun w' _=>Zkd a w') ?_)|(refine Zac (fun w' _=>Zkd b w') ?_)))|refine walk ?_|(refine Zaf rfl (fun hc=>?_) (fun hc=>?_)))
 all_goals first|(refine ret_1 _ [] (.tmp rfl) .nil ⟨?_,rfl⟩;first|rfl|(simp only[*,Bool.true_and,Bool.false_and,Bool.true_or,Bool.false_or,Bool.not_true,Bool.not_false];done)|(simp_all [cmpI];done)|(simp_all [cmpI];omega)|(simp_all [cmpI];rw[Bool.eq_iff_iff];simp;omega))|(exfalso;simp_all [cmpI];done)|(exfalso;simp_all [cmpI];omega)|(exfalso;omega)
theorem Zue (a b:Int)(w:World):Does Tryz.prog 95 [.int .i64 a,.int .i64 b] w (fun v O=>v = .int .i64 (cmpI a b)/\O=[]):=by
 refine Zaa Tryz.func95 rfl rfl rfl rfl ?_
 repeat' (first|(refine js ?_;(first|(refine Zac (fun w' _=>Zmo a w') ?_)|(refine Zac (fun w' _=>Zmo b w') ?_)))|refine walk ?_|(refine Zaf rfl (fun hc=>?_) (fun hc=>?_)))
 all_goals first|(refine ret_1 _ [] (.tmp rfl) .nil ⟨?_,rfl⟩;first|rfl|(simp only[*,Bool.true_and,Bool.false_and,Bool.true_or,Bool.false_or,Bool.not_true,Bool.not_false];done)|(simp_all [cmpI];done)|(simp_all [cmpI];omega)|(simp_all [cmpI];rw[Bool.eq_iff_iff];simp;omega))|(exfalso;simp_all [cmpI];done)|(exfalso;simp_all [cmpI];omega)|(exfalso;omega)
theorem Zy4 (A:Option Addr)(c:Nat)(l:List Int)(w:World)(hA:RdSl w A c iEnc 1 l):Does Tryz.prog 93 [.slice A l.length c] w (fun v O=>v = .int .i64 (ZbX l)/\O=[]):=by
 have hle:=hA.le
 have hcp:=hA.cap
 unfold maxLen at hcp
 obtain⟨res,hres⟩:∃ res,ZbX l=res:=⟨_,rfl⟩
 rw[hres]
 refine Zaa Tryz.func93 rfl rfl rfl rfl ?_
 repeat (first|refine walk ?_)
 refine Zao [(6,_),(7,_),(3,_)] [] (fun k:Nat=>[(8,.int .i64 k)]) (fun _=>[]) (fun k=>k<=l.length/\ZbX (l.drop k)=res) (fun k=>l.length - k) 0 SFA SOA ⟨Nat.zero_le _,hres⟩ ?_
 rintro k ⟨hk,hi⟩
 repeat (first|refine walk ?_)
 refine Zaf rfl (fun h=>?_) (fun h=>?_)
 ·have hlt:k<l.length:=by simpa using h
  obtain⟨hna,hca⟩:=hA.rd k _ (List.getElem?_eq_getElem hlt)
  rw[Zap hlt,ZbX]at hi
  generalize l[k]=r at *
  repeat (first|(apply RL_pu;rfl;exact PuI)|refine walk1 ?_)
  refine Zaf rfl (fun h2=>?_) (fun h2=>?_)
  ·rw[if_neg (by simpa using h2)]at hi
   repeat (first|refine walk ?_)
   exact ret_1 _ [] (.tmp rfl) .nil ⟨by rw[<- hi],rfl⟩
  ·rw[if_pos (by simpa using h2)]at hi
   repeat (first|refine walk ?_)
   exact⟨k+1,OA,⟨OA,hi⟩,SFA,.nil⟩
 ·have hkl:k=l.length:=by
   have:=of_decide_eq_false h
   omega
  subst hkl
  rw[List.drop_length]at hi
  repeat (first|refine walk ?_)
  exact ret_1 _ [] (.tmp rfl) .nil ⟨by rw[<- hi];rfl,rfl⟩
theorem ZoP {α:Type}{enc:α->List Value}{sz c:Nat}{ad:Addr}{l:List α}{w:World}(hsz:∀ x,(enc x).length=sz)(h1:l.length<=c)(h2:c<=maxLen)(h:Zal w ad (l.flatMap enc)):RdSl w (some ad) c enc sz l :=
 ⟨h1,h2,fun k x hk=>⟨by simp,fun j v hj=>by
  rw[Za6]
  exact h _ v (ZaF hsz l k x j v hk hj)⟩⟩
theorem Zkc (a b:Zad)(w:World):Does Tryz.prog 63 [.agg (Zad.enc a).toArray,.agg (Zad.enc b).toArray] w (fun v O=>v = .int .i64 (ordE a b)/\O=[]):=by
 rw[Zs4]
 obtain⟨y,r,n⟩:=a
 obtain⟨y2,r2,n2⟩:=b
 dsimp only
 have h1:=Zkz n n2
 have h2:=Zue r r2
 have h3:=Zkz y y2
 generalize cmpI n n2=x1 at *
 generalize cmpI r r2=x2 at *
 generalize cmpI y y2=x3 at *
 have h4:=fun(bk:Nat) w' (hc:Zal w' ⟨bk,0,none⟩ [.int .i64 x1,.int .i64 x2,.int .i64 x3])=>Zy4 (some ⟨bk,0,none⟩) 3 [x1,x2,x3] w' (ZoP (fun _=>rfl) (Nat.le_refl 3) (by decide) hc)
 show Does _ _ [.agg #[.int .i64 y,.int .i64 r,.int .i64 n],.agg #[.int .i64 y2,.int .i64 r2,.int .i64 n2]] w _
 refine Zaa Tryz.func63 rfl rfl rfl rfl ?_
 repeat (first|refine walk ?_|(refine jg ?_;(try intro F);(first|(refine Zac (fun w' _=>h1 w') ?_)|(refine Zac (fun w' _=>h2 w') ?_)|(refine Zac (fun w' _=>h3 w') ?_)|(apply Zag (h:=fun w' _ hH=>h4 _ w' (hH.cells (by repeat' constructor)));rfl;rintro v O' ⟨rfl,rfl⟩)|(refine bx ?_;intro bk));refine fin ?_)|(refine jn ?_;(try intro F);(first|(refine bx ?_;intro bk)|(apply Zae;exact PuA));refine fin ?_)|(apply RD_W;rfl;intro bk))
 exact rtA
end Go.Proofs.YtdlmhmmhdbbliaaGreatDoor
namespace Go.Wk
open Go Go.RowKit
section
variable {P:Program}{n:Nat}{wr:World}{fr:Fr}{O:List It}{ty:TypeId}
theorem ZzY {x y z:Operand}{ts:Array TypeId}{k:IntKind}{i j l q:Int}(hx:ev fr x=some (.int k i))(hy:ev fr y=some (.int k j))(hz:ev fr z=some (.int k l))(hq:max (max i j) l=q):Pu P n wr fr O (.call ⟨.builtin .max,#[x,y,z],ts⟩) ty (.int k q):=by
 have h1:(if i<j then j else i)=max i j:=by split <;> omega
 have h2:(if max i j<l then l else max i j)=q:=by rw[<- hq];split <;> omega
 exact fun a w hs _ _ _ _=>by
  simp only[execOp,resolve,invoke,builtin,Builtin.max_,Builtin.max2,hs.sim.ev hx,hs.sim.ev hy,hs.sim.ev hz]
  simp[execOp,resolve,invoke,builtin,Builtin.max_,Builtin.max2,hs.sim.ev hx,hs.sim.ev hy,hs.sim.ev hz,h1,h2]
end
end Go.Wk
namespace Go.Proofs.YtdlmhmmhdbbliaaGreatDoor
open Go Go.RowKit Go.Wk
attribute [local irreducible] W RL Does Zau Zak retQ Calls Pu Stp RD Qy Ay Zaj
theorem ZvH {G:Prop}(h:G:=by(first|exact PuI|(apply Pu_loadO1;rfl;first|exact c1 0 _ rfl|exact c2 0 _ rfl|exact c3 0 _ rfl|exact hcell)|(apply ZzY;rfl;rfl;rfl;exact hy0))):G:=h
theorem ZxZ {G:Prop}(h:G:=by first|(apply Qy_y;rfl;exact ZvH)|exact QyA):G:=h
theorem ZA4 {G:Prop}(h:G:=by repeat (first|exact QF.nil|(apply QF.mk;rfl;rfl;decide +kernel;exact ZxZ))):G:=h
theorem ZqK {G:Prop}(h:G:=by(apply Pu_loadO1;rfl;first|exact c1 0 _ rfl|exact c2 0 _ rfl|exact c3 0 _ rfl)):G:=h
theorem Zo1 (A:Option Addr)(c:Nat)(l:List Zab)(i:Nat)(r:Zab)(yr nominal:Int)(b1 b2 b3:Nat)(w:World)(hG:Glob w)(hA:RdSl w A c Zab.enc 11 l)(hi:l[i]?=some r)(hn:l.length<=1000000)(hR:∀ r∈l,-4611686018427387904<=r.save/\r.save<=4611686018427387904)
  (hy : -2000000000<=yr/\yr<=2000000000) (hf:r.from_<=4611686018427387904) (c1:Zal w ⟨b1,0,none⟩ [.slice A l.length c]) (c2:Zal w ⟨b2,0,none⟩ [.int .i64 yr]) (c3:Zal w ⟨b3,0,none⟩ [.int .i64 nominal]) :
  Does Tryz.prog 233 [.int .i64 i,.pointer (some ⟨b1,0,none⟩),.pointer (some ⟨b2,0,none⟩),.pointer (some ⟨b3,0,none⟩)] w (fun v O=>v = .tuple #[evV (evIn (Zah l) nominal r i (max (max r.from_ (-2000000000)) (yr - 2)) 20),.bool (evIn (Zah l) nominal r i (max (max r.from_ (-2000000000)) (yr - 2)) 20).isSome]/\O=[]):=by
 have hlt:i<l.length:=(List.getElem?_eq_some_iff.1 hi).1
 obtain⟨y0,hy0⟩:∃ y0,max (max r.from_ (-2000000000)) (yr - 2)=y0:=⟨_,rfl⟩
 have hyb : -3000000000<=y0/\y0<=4611686018427387904:=by omega
 rw[hy0]
 obtain⟨res,hres⟩:∃ res,evIn (Zah l) nominal r i y0 20=res:=⟨_,rfl⟩
 rw[hres]
 have hon:=fun y w' (hw:Bel w.heap.size w w')=>Zgv A c l i y r w' (hG.up hw) (hA.up hw) hi hn hR
 obtain⟨hna,hca⟩:=hA.rd i _ hi
 generalize Zah l=least at *
 have hfr:((Zab.enc r)[1]?)=some (.int .i64 r.from_):=rfl
 have hcell:w.cell? (((adr A).add (i*11)).add 1)=some (.int .i64 r.from_):=hca 1 _ hfr
 refine Zaa Tryz.func233 rfl rfl rfl rfl ?_
 repeat (first|(apply RL_pu;rfl;exact ZvH)|(apply RD_Q;rfl;rfl;decide +kernel;rfl;rfl;exact ZxZ)|refine walk1 ?_|(refine jn ?_;(try intro F);(first|(refine bx ?_;intro bk)|(refine stA ?_)|(apply Zae;first|exact ZvH|exact PuA));first|refine⟨_,EndsA,ZA4,?_⟩|refine fin ?_)|(apply RD_W;rfl;intro bk))
 refine Zao [(0,.int .i64 i),(1,.pointer (some ⟨b1,0,none⟩)),(2,.pointer (some ⟨b2,0,none⟩)),(3,.pointer (some ⟨b3,0,none⟩)),(7,.int .i64 y0),(5,.pointer (some ⟨bk,0,none⟩))] [.blk bk [.int .i64 0,.int .i64 0,.int .i64 0] 92] (fun j:Nat=>[(19,.int .i64 j)]) (fun _=>[]) (fun j=>j<=20/\evIn least nominal r i (y0+j) (20 - j)=res) (fun j=>20 - j) 0 SFA SOA ⟨Nat.zero_le _,by simpa using hres⟩ ?_
 rintro j ⟨hj,hi2⟩
 repeat (first|refine walk ?_|(refine jn ?_;(try intro F);(first|(refine bx ?_;intro bk)|(refine stA ?_)|(apply Zae;exact PuA));refine fin ?_)|(apply RD_W;rfl;intro bk))
 refine Zaf rfl (fun h=>?_) (fun h=>?_)
 ·have hj20:j<20:=by have:=of_decide_eq_true h;omega
  rw[show 20 - j=(19 - j)+1 by omega,evIn]at hi2
  have ho:=hon (y0+j)
  generalize onR least r i (y0+j)=o at *
  cases o with
  | none =>
   simp only[evV,Zad.enc,dEv0,Option.isSome]at ho
   repeat (first|(apply RL_pu;rfl;exact ZqK)|(apply RD_Q;rfl;rfl;decide +kernel;rfl;rfl;exact QyEvA1)|refine walk1 ?_|(refine jg ?_;(try intro F);(first|(refine Zac ho ?_)|(refine bx ?_;intro bk)|(refine stA ?_));first|refine⟨_,EndsA,QFEvA1,?_⟩|refine fin ?_)|(refine jn ?_;(try intro F);(first|(refine bx ?_;intro bk)|(refine stA ?_)|(apply Zae;first|exact ZqK|exact PuA));first|refine⟨_,EndsA,QFEvA1,?_⟩|refine fin ?_)|(apply RD_W;rfl;intro bk))
   exact⟨j+1,OA,⟨OA,by rw[show 20 - (j+1)=19 - j by omega,show y0+((j+1:Nat):Int)=y0+j+1 by omega];exact hi2⟩,SFA,SOA⟩
  | some e =>
   obtain⟨ey,er,en⟩:=e
   simp only[evV,Zad.enc,Option.isSome]at ho hi2
   repeat (first|(apply RL_pu;rfl;exact ZqK)|(apply RD_Q;rfl;rfl;decide +kernel;rfl;rfl;exact QyEvA1)|refine walk1 ?_|(refine jg ?_;(try intro F);(first|(refine Zac ho ?_)|(refine bx ?_;intro bk)|(refine stA ?_));first|refine⟨_,EndsA,QFEvA1,?_⟩|refine fin ?_)|(refine jn ?_;(try intro F);(first|(refine bx ?_;intro bk)|(refine stA ?_)|(apply Zae;first|exact ZqK|exact PuA));first|refine⟨_,EndsA,QFEvA1,?_⟩|refine fin ?_)|(apply RD_W;rfl;intro bk))
   refine Zaf rfl (fun h2=>?_) (fun h2=>?_)
   ·rw[if_pos (of_decide_eq_true h2)]at hi2
    subst hi2
    repeat (first|refine walk ?_|(refine jn ?_;(try intro F);(first|(refine bx ?_;intro bk)|(refine stA ?_)|(apply Zae;exact PuA));refine fin ?_)|(apply RD_W;rfl;intro bk))
    exact rtC
   ·rw[if_neg (of_decide_eq_false h2)]at hi2
    repeat (first|refine walk ?_|(refine jn ?_;(try intro F);(first|(refine bx ?_;intro bk)|(refine stA ?_)|(apply Zae;exact PuA));refine fin ?_)|(apply RD_W;rfl;intro bk))
    exact⟨j+1,OA,⟨OA,by rw[show 20 - (j+1)=19 - j by omega,show y0+((j+1:Nat):Int)=y0+j+1 by omega];exact hi2⟩,SFA,SOA⟩
 ·obtain rfl:j=20:=by have:=of_decide_eq_false h;omega
  obtain rfl:none=res:=by rw[<- hi2];rfl
  repeat (first|refine walk ?_|(refine jn ?_;(try intro F);(first|(refine bx ?_;intro bk)|(refine stA ?_)|(apply Zae;exact PuA));refine fin ?_)|(apply RD_W;rfl;intro bk))
  exact rtC
def evC:Option Zad->List Value
 | some e=>Zad.enc e
 | none=>Zad.enc dEv0
structure BG where
 k:Nat
 b:Option Zad
theorem Zuo (A:Option Addr)(c:Nat)(l:List Zab)(yr nominal:Int)(b1 b2 b3:Nat)(w:World)(hG:Glob w)(hA:RdSl w A c Zab.enc 11 l)(hn:l.length<=1000000)(hR:∀ r∈l,(-4611686018427387904<=r.save/\r.save<=4611686018427387904)/\r.from_<=4611686018427387904)
  (hy : -2000000000<=yr/\yr<=2000000000) (c1:Zal w ⟨b1,0,none⟩ [.slice A l.length c]) (c2:Zal w ⟨b2,0,none⟩ [.int .i64 yr]) (c3:Zal w ⟨b3,0,none⟩ [.int .i64 nominal]) :
  Does Tryz.prog 58 [.slice A l.length c,.func (.func 233) #[] #[.pointer (some ⟨b1,0,none⟩),.pointer (some ⟨b2,0,none⟩),.pointer (some ⟨b3,0,none⟩)],.func (.func 63) #[] #[]] w
   (fun v O=>v = .tuple #[evV (ZcN (Zah l) nominal yr l 0 none),.bool (ZcN (Zah l) nominal yr l 0 none).isSome]/\O=[]):=by
 have haf:=fun(i:Nat) r (hi:l[i]?=some r) w' (hw:Bel w.heap.size w w')=>Zo1 A c l i r yr nominal b1 b2 b3 w' (hG.up hw) (hA.up hw) hi hn (fun r hr=>(hR r hr).1) hy (hR r (List.mem_of_getElem? hi)).2 (c1.up hw (Nat.le_refl _)) (c2.up hw (Nat.le_refl _)) (c3.up hw (Nat.le_refl _))
 obtain⟨res,hres⟩:∃ res,ZcN (Zah l) nominal yr l 0 none=res:=⟨_,rfl⟩
 rw[hres]
 generalize Zah l=least at *
 clear hA hR c1 c2 c3
 refine Zaa Tryz.func58 rfl rfl rfl rfl ?_
 repeat (first|(refine js ?_;(refine bx ?_;intro bk))|refine walk ?_)
 rename_i b6
 refine Zao [(13,.slice A l.length c),(1,.func (.func 233) #[] #[.pointer (some ⟨b1,0,none⟩),.pointer (some ⟨b2,0,none⟩),.pointer (some ⟨b3,0,none⟩)]),(2,.func (.func 63) #[] #[]),(8,.pointer (some ⟨bk,0,none⟩)),(6,.pointer (some ⟨b6,0,none⟩)),(14,.int .i64 l.length)] [.blk b6 [.int .i64 0,.int .i64 0,.int .i64 0] 92]
  (fun g:BG=>[(15,.int .i64 g.k),(9,.bool g.b.isSome)]) (fun g=>[.blk bk (evC g.b) 92]) (fun g=>g.k<=l.length/\ZcN least nominal yr (l.drop g.k) g.k g.b=res) (fun g=>l.length - g.k) ⟨0,none⟩ SFA SOA ⟨Nat.zero_le _,hres⟩ ?_
 rintro⟨k,b⟩ ⟨hk,hi⟩
 dsimp only at hk hi ⊢
 repeat (first|(refine js ?_;(refine bx ?_;intro bk))|refine walk ?_)
 refine Zaf rfl (fun h=>?_) (fun h=>?_)
 ·have hlt:k<l.length:=by simpa using h
  have ho:=haf k _ (List.getElem?_eq_getElem hlt)
  rw[Zap hlt,ZcN]at hi
  generalize evIn least nominal l[k] k (max (max l[k].from_ (-2000000000)) (yr - 2)) 20=o at *
  have hord:=fun e e2 w'=>Zkc e e2 w'
  rcases o with _|⟨ey,er,en⟩ <;> rcases b with _|⟨by_,br,bn⟩ <;> simp only[evV,evC,Zad.enc,dEv0,Option.isSome]at ho hi ⊢
  ·repeat (first|refine und ?_|(refine js ?_;(first|(apply Zar (f:=233) (us:=[]) (vs:=[.int .i64 k]) (cs:=[.pointer (some ⟨b1,0,none⟩),.pointer (some ⟨b2,0,none⟩),.pointer (some ⟨b3,0,none⟩)]) (h:=fun w' hw _=>ho w' hw);rfl;rfl;rintro v O' ⟨rfl,rfl⟩)|(refine bx ?_;intro bk)))|refine walk ?_)
   exact⟨⟨k+1,none⟩,OA,⟨OA,hi⟩,SFA,SOA⟩
  ·repeat (first|refine und ?_|(refine js ?_;(first|(apply Zar (f:=233) (us:=[]) (vs:=[.int .i64 k]) (cs:=[.pointer (some ⟨b1,0,none⟩),.pointer (some ⟨b2,0,none⟩),.pointer (some ⟨b3,0,none⟩)]) (h:=fun w' hw _=>ho w' hw);rfl;rfl;rintro v O' ⟨rfl,rfl⟩)|(refine bx ?_;intro bk)))|refine walk ?_)
   exact⟨⟨k+1,some ⟨by_,br,bn⟩⟩,OA,⟨OA,hi⟩,SFA,SOA⟩
  ·repeat (first|refine und ?_|(refine js ?_;(first|(apply Zar (f:=233) (us:=[]) (vs:=[.int .i64 k]) (cs:=[.pointer (some ⟨b1,0,none⟩),.pointer (some ⟨b2,0,none⟩),.pointer (some ⟨b3,0,none⟩)]) (h:=fun w' hw _=>ho w' hw);rfl;rfl;rintro v O' ⟨rfl,rfl⟩)|(refine bx ?_;intro bk)))|refine walk ?_)
   exact⟨⟨k+1,some ⟨ey,er,en⟩⟩,OA,⟨OA,hi⟩,SFA,SOA⟩
  ·repeat (first|refine und ?_|(refine js ?_;(first|(apply Zar (f:=233) (us:=[]) (vs:=[.int .i64 k]) (cs:=[.pointer (some ⟨b1,0,none⟩),.pointer (some ⟨b2,0,none⟩),.pointer (some ⟨b3,0,none⟩)]) (h:=fun w' hw _=>ho w' hw);rfl;rfl;rintro v O' ⟨rfl,rfl⟩)|(apply Zar (f:=63) (us:=[]) (cs:=[]) (vs:=[.agg #[.int .i64 ey,.int .i64 er,.int .i64 en],.agg #[.int .i64 by_,.int .i64 br,.int .i64 bn]]) (h:=fun w' hw _=>hord ⟨ey,er,en⟩ ⟨by_,br,bn⟩ w');rfl;rfl;rintro v O' ⟨rfl,rfl⟩)|(refine bx ?_;intro bk)))|refine walk ?_)
   refine Zaf rfl (fun h2=>?_) (fun h2=>?_)
   ·rw[if_pos (of_decide_eq_true h2)]at hi
    repeat (first|(refine js ?_;(refine bx ?_;intro bk))|refine walk ?_)
    exact⟨⟨k+1,some ⟨ey,er,en⟩⟩,OA,⟨OA,hi⟩,SFA,SOA⟩
   ·rw[if_neg (of_decide_eq_false h2)]at hi
    repeat (first|(refine js ?_;(refine bx ?_;intro bk))|refine walk ?_)
    exact⟨⟨k+1,some ⟨by_,br,bn⟩⟩,OA,⟨OA,hi⟩,SFA,SOA⟩
 ·obtain rfl:k=l.length:=by have:=of_decide_eq_false h;omega
  rw[List.drop_length,ZcN]at hi
  subst hi
  rcases b with _|⟨by_,br,bn⟩ <;> simp only[evC,Zad.enc,dEv0]
  ·repeat (first|(refine js ?_;(refine bx ?_;intro bk))|refine walk ?_)
   exact rtC
  ·repeat (first|(refine js ?_;(refine bx ?_;intro bk))|refine walk ?_)
   exact rtC
theorem ZlU (t:Int) : -2000000000<=ZaA t/\ZaA t<=2000000000:=by unfold ZaA;omega
def RsOk (l:List Zab):Prop:=∀ r∈l,(-4611686018427387904<=r.save/\r.save<=4611686018427387904)/\r.from_<=4611686018427387904
theorem ZrY (A:Option Addr)(c:Nat)(l:List Zab)(nominal:Int)(w:World)(hG:Glob w)(hA:RdSl w A c Zab.enc 11 l)(hn:l.length<=1000000)(hR:RsOk l)(ht : -4611686018427387904<=nominal/\nominal<=4611686018427387904) :
  Does Tryz.prog 218 [.slice A l.length c,.int .i64 nominal] w (fun v O=>v = .tuple #[evV (ZgH l nominal),.bool (ZgH l nominal).isSome]/\O=[]):=by
 have hb:=fun(b1 b2 b3:Nat) w' (hw:Bel w.heap.size w w') c1 c2 c3=>Zuo A c l (ZaA nominal) nominal b1 b2 b3 w' (hG.up hw) (hA.up hw) hn hR (ZlU nominal) c1 c2 c3
 change ∀ (b1 b2 b3:Nat) w' (hw:Bel w.heap.size w w') c1 c2 c3,Does _ _ _ w' (fun v O=>v = .tuple #[evV (ZgH l nominal),.bool (ZgH l nominal).isSome]/\O=[]) at hb
 have hyr:=fun w' (hw:Bel w.heap.size w w')=>Zh8 nominal ht w' (hG.up hw)
 generalize ZgH l nominal=res at *
 generalize ZaA nominal=yr at *
 refine Zaa Tryz.func218 rfl rfl rfl rfl ?_
 rcases res with _|⟨ey,er,en⟩ <;> simp only[evV,Zad.enc,dEv0,Option.isSome]at hb ⊢
 ·repeat (first|(refine js ?_;(first|(refine Zac hyr ?_)|(apply Zag (h:=fun w' hw hH=>hb _ _ _ w' hw (hH.cells (by repeat' constructor)) (hH.cells (by repeat' constructor)) (hH.cells (by repeat' constructor)));rfl;rintro v O' ⟨rfl,rfl⟩)|(refine bx ?_;intro bk)))|refine walk ?_)
  exact rtC
 ·repeat (first|(refine js ?_;(first|(refine Zac hyr ?_)|(apply Zag (h:=fun w' hw hH=>hb _ _ _ w' hw (hH.cells (by repeat' constructor)) (hH.cells (by repeat' constructor)) (hH.cells (by repeat' constructor)));rfl;rintro v O' ⟨rfl,rfl⟩)|(refine bx ?_;intro bk)))|refine walk ?_)
  exact rtC
def EvOk (o:Option Zad):Prop:=∀ e,o=some e -> -200000000000000000<=e.nominal/\e.nominal<=200000000000000000
theorem Zs6 (least:Int)(hl:least<=0)(r:Zab)(i y:Int):EvOk (onR least r i y):=by
 intro e he
 unfold onR at he
 split at he
 ·cases he
 ·rename_i h1
  split at he
  ·cases he
  ·have hb:=ZhC y r.month r.day
   have hc:ZaP r.at_=true:=by
    cases hc:ZaP r.at_
    ·exact absurd (.inr (.inr hc)) h1
    ·rfl
   simp only[ZaP,Bool.and_eq_true,decide_eq_true_eq]at hc
   simp only[Option.some.injEq]at he
   subst he
   dsimp only
   split <;> omega
theorem ZoH (least nominal:Int)(hl:least<=0)(r:Zab)(i:Int):∀ (k:Nat) (y:Int),EvOk (evIn least nominal r i y k)
 | 0,_=>fun e he=>by cases he
 | k+1,y=>by
  rw[evIn]
  have h:=Zs6 least hl r i y
  split
  ·rename_i e he
   split
   ·intro e2 h2;cases h2;exact h e he
   ·exact ZoH least nominal hl r i k (y+1)
  ·exact ZoH least nominal hl r i k (y+1)
theorem ZkG (least nominal yr:Int)(hl:least<=0):∀ (l:List Zab) (i:Nat) (b:Option Zad),EvOk b->EvOk (ZcN least nominal yr l i b)
 | [],_,_,h=>h
 | r::l,i,b,h=>by
  rw[ZcN]
  refine ZkG least nominal yr hl l (i+1) _ ?_
  have he:=ZoH least nominal hl r i 20 (max (max r.from_ (-2000000000)) (yr - 2))
  generalize evIn least nominal r i (max (max r.from_ (-2000000000)) (yr - 2)) 20=o at *
  cases o with
  | none=>exact h
  | some e =>
   cases b with
   | none=>exact he
   | some x =>
    dsimp only
    split
    ·exact he
    ·exact h
theorem ZyE {G:Prop}(h:G:=by(first|(apply ZlF;rfl;rfl;exact h1)|(apply Zf9;rfl;rfl;exact h2))):G:=h
theorem ZwY (A:Option Addr)(c:Nat)(l:List Zab)(nominal:Int)(w:World)(hG:Glob w)(hA:RdSl w A c Zab.enc 11 l)(hn:l.length<=1000000)(hR:RsOk l)(ht : -1000000000000000000<=nominal/\nominal<=1000000000000000000) :
  Does Tryz.prog 189 [.slice A l.length c,.int .i64 nominal] w (fun v O=>v = .bool (farD l nominal)/\O=[]):=by
 have haf:=fun w' (hw:Bel w.heap.size w w')=>ZrY A c l (nominal - 259200) w' (hG.up hw) (hA.up hw) hn hR (by omega)
 have hbd:EvOk (ZgH l (nominal - 259200)):=ZkG _ _ _ (ZeQ l fun r hr=>(hR r hr).1).2 l 0 none (fun e he=>by cases he)
 unfold farD
 generalize ZgH l (nominal - 259200)=res at *
 have h1:(if 1152921504606846976<nominal then (1152921504606846976:Int) else nominal)=nominal:=if_neg (by omega)
 have h2:(if (-1152921504606846976:Int)<nominal then nominal else -1152921504606846976)=nominal:=if_pos (by omega)
 refine Zaa Tryz.func189 rfl rfl rfl rfl ?_
 rcases res with _|⟨ey,er,en⟩ <;> simp only[evV,Zad.enc,dEv0,Option.isSome]at haf ⊢
 ·repeat' (first|(apply RL_pu;rfl;exact ZyE)|(refine js ?_;(first|(refine Zac haf ?_)|(refine bx ?_;intro bk)))|refine walk1 ?_|refine und ?_|(refine Zat rfl rfl rfl (fun hc=>?_) (fun hc=>?_))|(refine Zas rfl rfl rfl (fun hc=>?_) (fun hc=>?_))|(refine Zaf rfl (fun hc=>?_) (fun hc=>?_)))
  exact rtA
 ·have hb:=hbd _ rfl
  dsimp only at hb
  repeat' (first|(apply RL_pu;rfl;exact ZyE)|(refine js ?_;(first|(refine Zac haf ?_)|(refine bx ?_;intro bk)))|refine walk1 ?_|refine und ?_|(refine Zat rfl rfl rfl (fun hc=>?_) (fun hc=>?_))|(refine Zas rfl rfl rfl (fun hc=>?_) (fun hc=>?_))|(refine Zaf rfl (fun hc=>?_) (fun hc=>?_)))
  exact rtA
end Go.Proofs.YtdlmhmmhdbbliaaGreatDoor
namespace Go.Wk
open Go Go.RowKit
def ZdN (c:Int):Bool:=(decide (c<65)||decide (90<c))&&(decide (c<97)||decide (122<c))
end Go.Wk
namespace Go.Proofs.YtdlmhmmhdbbliaaGreatDoor
open Go Go.RowKit Go.Wk
attribute [local irreducible] W RL Does Zau Zak retQ Calls Pu Stp RD Qy Ay Zaj
theorem Zg2 (s:ByteArray)(ok:Bool)(w:World):Does Tryz.prog 104 [.string s,.bool ok] w (fun v O=>v = .tuple #[.string (if ok then s else ByteArray.empty),.int .i64 (if ok then 0 else 15)]/\O=[]):=by
 rw[show ByteArray.empty=⟨#[]⟩ from rfl]
 refine Zaa Tryz.func104 rfl rfl rfl rfl ?_
 cases ok
 ·repeat' (first|refine walk ?_|(refine Zaf rfl (fun hc=>?_) (fun hc=>?_)))
  all_goals exact clo2
 ·repeat' (first|refine walk ?_|(refine Zaf rfl (fun hc=>?_) (fun hc=>?_)))
  all_goals exact clo2
end Go.Proofs.YtdlmhmmhdbbliaaGreatDoor
namespace Go.Wk
open Go Go.RowKit Go.Lib
theorem ZbF {P:Program}{f:FuncId}{args:List Value}{w:World}{v:Value}(h:Calls P f args.toArray w fun e w'=>e = .returned v/\Below w.heap.size w w'):Does P f args w fun v' O=>v'=v/\O=[] :=
 h.mono fun _ _ ⟨he,hb⟩=>⟨v,[],he,⟨hb⟩,Zay.nil _ _,rfl,rfl⟩
theorem Zzw (B:Nat)(w:World)(n:Nat):Below B w (w.drewN n):=⟨rfl,rfl,rfl,Nat.le_refl _,fun _ _=>rfl⟩
theorem ZtH (s:ByteArray):∀ (f pos:Nat),s.size<=pos+f->(idxFuncFrom (fun r=>ZdN (r:Int)) true s f pos<0↔Zdf (s.data.toList.drop pos)=true)
 | 0,pos,h=>by
  rw[List.drop_eq_nil_of_le (by simpa using h)]
  simp[idxFuncFrom,Zdf]
 | f+1,pos,h=>by
  unfold idxFuncFrom
  by_cases hp:pos<s.size
  ·rw[if_pos hp]
   have hp':pos<s.data.toList.length:=by simpa using hp
   rw[List.drop_eq_getElem_cons hp',Zdf,List.all_cons]
   have hg:s.get! pos=s.data.toList[pos]:=by
    rw[Array.getElem_toList]
    show s.data[pos]! = _
    rw[getElem!_pos s.data pos (by simpa using hp')]
   have ih:=ZtH s f (pos+1) (by omega)
   unfold Zdf at ih
   have hd:(s.data.toList[pos].toNat<128/\Utf8.decode s pos=(s.data.toList[pos].toNat,1))\/(128<=s.data.toList[pos].toNat/\128<=(Utf8.decode s pos).1):=by
    unfold Utf8.decode
    simp only[Nat.add_zero,hg]
    generalize s.data.toList[pos].toNat=b
    by_cases hb:b<128
    ·exact .inl ⟨hb,by rw[if_pos hb]⟩
    ·refine .inr ⟨by omega,?_⟩
     rw[if_neg hb]
     repeat' split
     all_goals first|(simp only[Utf8.runeError];omega)|(dsimp only;omega)|(dsimp only;simp only[Bool.and_eq_true,decide_eq_true_eq,ge_iff_le]at *;omega)|decide
   generalize s.data.toList[pos]=b at *
   rcases hd with⟨hb,hd⟩|⟨hb,hd⟩
   ·rw[hd]
    dsimp only
    by_cases hl:ZdN (b.toNat:Int)=true
    ·rw[if_pos hl]
     have:decide (Zds b.toNat=1)=false:=by
      unfold ZdN at hl
      simp only[Bool.and_eq_true,Bool.or_eq_true,decide_eq_true_eq]at hl
      unfold Zds
      rw[if_neg (by omega)]
      repeat' split
      all_goals decide
     rw[this]
     simp
    ·rw[if_neg hl,ih]
     have:decide (Zds b.toNat=1)=true:=by
      unfold ZdN at hl
      simp only[Bool.and_eq_true,Bool.or_eq_true,decide_eq_true_eq]at hl
      unfold Zds
      rw[if_pos (by omega)]
      rfl
     rw[this,Bool.true_and]
   ·have hl:ZdN ((Utf8.decode s pos).1:Int)=true:=by
     unfold ZdN
     simp only[Bool.and_eq_true,Bool.or_eq_true,decide_eq_true_eq]
     omega
    rw[if_pos hl]
    have:decide (Zds b.toNat=1)=false:=by
     unfold Zds
     rw[if_neg (by omega)]
     repeat' split
     all_goals decide
    rw[this]
    simp
  ·rw[if_neg hp,List.drop_eq_nil_of_le (by simpa using hp)]
   simp[Zdf]
theorem Zml:∀ (l:List UInt8),l.length<=2->(match numU l with|some n=>∃ u:Nat,parseUintB 8 l = .ok u/\n=u/\u<=99|none=>parseUintB 8 l = .syntax)
 | [],_=>rfl
 | [a],_=>by
  unfold numU parseUintB
  simp only[parseUintM,List.isEmpty_cons,Bool.false_eq_true,if_false,List.all_cons,List.all_nil,Bool.and_true,List.foldl_cons,List.foldl_nil,reduceCtorEq]
  by_cases h:48<=a/\a<=57
  ·have h1:48<=a.toNat/\a.toNat<=57:=⟨UInt8.le_iff_toNat_le.1 h.1,UInt8.le_iff_toNat_le.1 h.2⟩
   rw[if_pos (by simp[h.1,h.2]),if_pos h1]
   dsimp only
   refine⟨_,by rw[if_neg (by omega),if_neg (by omega)],by omega,by omega⟩
  ·have h1:¬ (48<=a.toNat/\a.toNat<=57):=fun hh=>h ⟨UInt8.le_iff_toNat_le.2 hh.1,UInt8.le_iff_toNat_le.2 hh.2⟩
   rw[if_neg (by simpa using h),if_neg h1]
 | [a,b],_=>by
  unfold numU parseUintB
  simp only[parseUintM,List.isEmpty_cons,Bool.false_eq_true,if_false,List.all_cons,List.all_nil,Bool.and_true,List.foldl_cons,List.foldl_nil,reduceCtorEq]
  by_cases h:48<=a/\a<=57
  ·have h1:48<=a.toNat/\a.toNat<=57:=⟨UInt8.le_iff_toNat_le.1 h.1,UInt8.le_iff_toNat_le.1 h.2⟩
   by_cases h':48<=b/\b<=57
   ·have h2:48<=b.toNat/\b.toNat<=57:=⟨UInt8.le_iff_toNat_le.1 h'.1,UInt8.le_iff_toNat_le.1 h'.2⟩
    rw[if_pos (by simp[h.1,h.2,h'.1,h'.2]),if_pos h1,if_neg (by omega),if_neg (by omega),if_pos h2]
    dsimp only
    refine⟨_,by rw[if_neg (by omega),if_neg (by omega)],by omega,by omega⟩
   ·have h2:¬ (48<=b.toNat/\b.toNat<=57):=fun hh=>h' ⟨UInt8.le_iff_toNat_le.2 hh.1,UInt8.le_iff_toNat_le.2 hh.2⟩
    rw[if_neg (by intro hh;simp only[Bool.and_eq_true,decide_eq_true_eq]at hh;exact h' hh.2),if_pos h1,if_neg (by omega),if_neg (by omega),if_neg h2]
  ·have h1:¬ (48<=a.toNat/\a.toNat<=57):=fun hh=>h ⟨UInt8.le_iff_toNat_le.2 hh.1,UInt8.le_iff_toNat_le.2 hh.2⟩
   rw[if_neg (by intro hh;simp only[Bool.and_eq_true,decide_eq_true_eq]at hh;exact h hh.1),if_neg h1]
 | _::_::_::_,h=>by simp only[List.length_cons]at h;omega
end Go.Wk
namespace Go.Proofs.YtdlmhmmhdbbliaaGreatDoor
open Go Go.RowKit Go.Wk Go.Lib
structure LibW (w:World):Prop where
 mxl:∃ m,w.cell? ⟨Zky.g 1,0,none⟩=some (.int .i64 m)
 syn:∃ ev,w.cell? ⟨Ziu.g 0,0,none⟩=some ev/\(ev = .nilIface\/∃ te pe,ev = .iface te pe)
theorem Zln (s p:ByteArray)(w:World)(hL:LibW w)(hs:s.size<4294967281) :
  Does Tryz.prog 153 [.string s,.string p] w (fun v O=>v = .tuple #[.string ⟨(cutV s.data.toList p.data.toList).1.toArray⟩,.string ⟨(cutV s.data.toList p.data.toList).2.1.toArray⟩,.bool (cutV s.data.toList p.data.toList).2.2]/\O=[]):=by
 obtain⟨m,hm⟩:=hL.mxl
 rw[<- Zzr]
 exact ZbF ((Any.strings_Cut { ZxH with } s p m w hs hm).mono fun e w' ⟨he,n,hw⟩=>⟨he,hw▸Zzw _ _ _⟩)
theorem Zmi (s p:ByteArray)(w:World):Does Tryz.prog 45 [.string s,.string p] w (fun v O=>v = .bool (p.data.toList.isPrefixOf s.data.toList)/\O=[]) :=
 ZbF ((Any.strings_HasPrefix Zy2 s p w).mono fun e w' ⟨he,hw⟩=>⟨he,hw▸Below.refl _ _⟩)
theorem Zut (c:Int)(w:World):Calls Tryz.prog 155 #[.int .i32 c] w fun e w'=>e = .returned (.bool (ZdN c))/\∃ q,w'=w.drewN q:=by
 go_enter Tryz.func155,Tryz.ntmps155
 go_wp2
 all_goals go_ret
 all_goals refine⟨congrArg Ending.returned (congrArg Value.bool (?_:_=ZdN c)),0,rfl⟩
 all_goals unfold ZdN
 all_goals first|rfl|(simp[*];done)|(simp_all;done)|(simp_all;omega)
theorem ZwK (s:ByteArray)(w:World):Does Tryz.prog 115 [.string s,.func (.func 155) #[] #[]] w (fun v O=>v = .int .i64 (idxFunc (fun r=>ZdN (r:Int)) true s)/\O=[]) :=
 ZbF (Any.strings_IndexFunc_runes ZAA 155 #[] (enters_of Tryz.func155 (by kernel_rfl) rfl) (fun r=>ZdN (r:Int)) s w (fun W x _ _=>by unfold FnGives;simpa using Zut x W))
theorem Zwg (s:ByteArray)(w:World)(hL:LibW w)(hs:s.size<=2) :
  Does Tryz.prog 223 [.string s,.int .i64 10,.int .i64 8] w (fun v O=>(match numU s.data.toList with|some n=>v = .tuple #[.int .u64 n,.nilIface]/\0<=n/\n<=99|none=>∃ t p,v = .tuple #[.int .u64 0,.iface t (.pointer p)])/\O=[]):=by
 have h:=Zml s.data.toList (by simpa using hs)
 cases hn:numU s.data.toList with
 | none =>
  rw[hn]at h
  obtain⟨ev,h1,h2⟩:=hL.syn
  exact(Any.strconv_ParseUint_10_at8_syntax ZAk s (by omega) h ev w h1 h2).mono fun e w' ⟨N,he,_,_,hb⟩=>⟨_,[],he,⟨hb⟩,Zay.nil _ _,⟨_,_,rfl⟩,rfl⟩
 | some n =>
  rw[hn]at h
  obtain⟨u,h1,rfl,h3⟩:=h
  exact(Any.strconv_ParseUint_10_at8_ok ZAk s (by omega) u h1 w).mono fun e w' ⟨he,hb⟩=>⟨_,[],he,⟨by rcases hb with rfl|rfl;exact Below.refl _ _;exact Go.Joins.below_bytesWorld _ _ _ _ (Nat.le_refl _)⟩,Zay.nil _ _,⟨rfl,by omega,by omega⟩,rfl⟩
end Go.Proofs.YtdlmhmmhdbbliaaGreatDoor
