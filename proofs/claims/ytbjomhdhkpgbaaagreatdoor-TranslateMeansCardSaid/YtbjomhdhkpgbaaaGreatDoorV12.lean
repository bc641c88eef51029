/- Parts of the proof. -/
import Derived.Test.YtbjomhdhkpgbaaaGreatDoorV11
import Derived.Test.YtbjomhdhkpgbaaaGreatDoorV06
import Derived.Lib.TrimUEq
import Derived.Lib.SmallJoins
import Derived.Test.YtbjomhdhkpgbaaaGreatDoorV09
set_option maxHeartbeats 4000000
set_option linter.unusedVariables false
set_option linter.unusedSimpArgs false
namespace Go.Wk
open Go Go.RowKit
section
variable {P:Program}{n:Nat}{wr:World}{fr:Fr}{O:List It}{ty:TypeId}
theorem ZhP {x y:Operand}{ts:Array TypeId}{k:IntKind}{i j q:Int}(hx:ev fr x=some (.int k i))(hy:ev fr y=some (.int k j))(hq:(if i<j then j else i)=q):Pu P n wr fr O (.call ⟨.builtin .max,#[x,y],ts⟩) ty (.int k q):=by
 rw[<- hq]
 exact Zqq hx hy
theorem Zj5 {x y:Operand}{ts:Array TypeId}{k:IntKind}{i j q:Int}(hx:ev fr x=some (.int k i))(hy:ev fr y=some (.int k j))(hq:(if j<i then j else i)=q):Pu P n wr fr O (.call ⟨.builtin .min,#[x,y],ts⟩) ty (.int k q):=by
 rw[<- hq]
 exact Zfy hx hy
end
end Go.Wk
namespace Go.Proofs.YtbjomhdhkpgbaaaGreatDoor
open Go Go.RowKit Go.Wk
attribute [local irreducible] W RL Does Zar Zal retQ Calls Pu Stp RD Qy Ay Zak
theorem ZkX (r:Zab)(w:World):Does Tryz.prog 200 [.agg (Zab.enc r).toArray] w (fun v O=>v = .int .i64 (lastY r)/\O=[]):=by
 unfold lastY
 obtain⟨nm,fr,to,mo,⟨dk,dw,dd⟩,⟨cs,cb⟩,sv,le⟩:=r
 simp only at *
 show Does _ _ [.agg #[.string nm,.int .i64 fr,.int .i64 to,.int .i64 mo,.int .i64 dk,.int .i64 dw,.int .i64 dd,.int .i64 cs,.int .i64 cb,.int .i64 sv,.string le]] w _
 refine Zaa Tryz.func200 rfl rfl rfl rfl ?_
 rw[show min to 2000000000=if 2000000000<to then 2000000000 else to by split <;> omega]
 repeat' (first|(apply RL_pu;rfl;(apply Zfy;rfl;rfl))|(refine js ?_;(refine bx ?_;intro bk))|refine walk1 ?_|(refine Zah rfl (fun hc=>?_) (fun hc=>?_)))
 all_goals exact clo1
def evV:Option Zaf->Value
 | some e => .agg (Zaf.enc e).toArray
 | none => .agg (Zaf.enc dEv0).toArray
theorem Zfm (l:List Zab)(h:∀ r∈l,-4611686018427387904<=r.save/\r.save<=4611686018427387904) : -4611686018427387904<=Zaj l/\Zaj l<=0:=by
 have h1:=Zvd l 0 (by omega) (by omega) h
 refine⟨h1.1,?_⟩
 have:∀ (l:List Zab) (m:Int),l.foldl (fun m r=>min m r.save) m<=m:=fun l=>by
  induction l with
  | nil=>intro m;exact Int.le_refl _
  | cons r l ih=>intro m;have:=ih (min m r.save);simp only[List.foldl_cons];omega
 exact this l 0
theorem ZCZ {G:Prop}(h:G:=by(first|exact PuI|(apply Pu_add;rfl;rfl;(constructor <;> omega))|(apply ZeX;rfl;rfl;(constructor <;> omega))|(apply Pu_add;rfl;rfl;(constructor <;> (simp only[decide_eq_false_iff_not,decide_eq_true_eq]at *;omega)))|(apply ZhP;rfl;rfl;exact hmx)|(apply Zqq;rfl;rfl))):G:=h
theorem ZgY (A:Option Addr)(c:Nat)(l:List Zab)(i:Nat)(y:Int)(r:Zab)(w:World)(hG:Glob w)(hA:RdSl w A c Zab.enc 11 l)(hi:l[i]?=some r)(hn:l.length<=1000000)(hR:∀ r∈l,-4611686018427387904<=r.save/\r.save<=4611686018427387904) :
  Does Tryz.prog 172 [.slice A l.length c,.int .i64 i,.int .i64 y] w (fun v O=>v = .tuple #[evV (onR (Zaj l) r i y),.bool (onR (Zaj l) r i y).isSome]/\O=[]):=by
 have hlt:i<l.length:=(List.getElem?_eq_some_iff.1 hi).1
 have hls:=Zfm l hR
 have hlst:=fun w' (hw:Bel w.heap.size w w')=>Zch A c l w' (hA.up hw)
 have hlast:=ZkX r
 have hcc:=ZeK r.at_
 have hcb:ZaQ r.at_=true -> -604799<=r.at_.sec/\r.at_.sec<=604799:=fun hc=>by
  simp only[ZaQ,Bool.and_eq_true,decide_eq_true_eq]at hc
  omega
 have ho:=fun w' (hw:Bel w.heap.size w w')=>Zpn y r.month r.day w' (hG.up hw)
 have hob:=Zi0 y r.month r.day
 obtain⟨hna,hca⟩:=hA.rd i _ hi
 obtain⟨res,hres⟩:∃ res,onR (Zaj l) r i y=res:=⟨_,rfl⟩
 rw[hres]
 unfold onR at hres
 clear hi hR
 generalize Zaj l=least at *
 generalize lastY r=ly at *
 generalize onD y r.month r.day=x at *
 generalize ZaQ r.at_=z at *
 obtain⟨x1,x2⟩:=x
 obtain⟨nm,fr,to,mo,⟨dk,dw,dd⟩,⟨cs,cb⟩,sv,le⟩:=r
 simp only[Zab.enc]at *
 rw[show max fr (-2000000000)=if fr < -2000000000 then -2000000000 else fr by split <;> omega]at hres
 rw[show max least (-10800)=if least < -10800 then -10800 else least by split <;> omega]at hres
 have hmb : -10800<=(if least < -10800 then (-10800:Int) else least)/\(if least < -10800 then (-10800:Int) else least)<=0:=by split <;> omega
 obtain⟨mx,hmx⟩:∃ mx,(if least < -10800 then (-10800:Int) else least)=mx:=⟨_,rfl⟩
 rw[hmx]at hres hmb
 cases z
 ·clear hcb ho hob
  obtain rfl:none=res:=by rw[<- hres,if_pos (by simp)]
  clear hres
  refine Zaa Tryz.func172 rfl rfl rfl rfl ?_
  repeat' (first|(apply RL_pu;rfl;exact ZCZ)|(refine js ?_;(first|(refine Zae hlst ?_)|(refine Zae (fun w' hw=>hlast w') ?_)|(refine Zae (fun w' hw=>hcc w') ?_)|(refine Zae ho ?_)|(refine bx ?_;intro bk)))|refine walk1 ?_|refine und ?_|(refine Zax rfl rfl rfl (fun hc=>?_) (fun hc=>?_))|(refine Zaw rfl rfl rfl (fun hc=>?_) (fun hc=>?_))|(refine Zah rfl (fun hc=>?_) (fun hc=>?_)))
  ·exact absurd (of_decide_eq_true hc) (by omega)
  all_goals first|exact rtC|(exfalso;simp_all;done)
 ·have hb:=hcb rfl
  clear hcb
  refine Zaa Tryz.func172 rfl rfl rfl rfl ?_
  repeat' (first|(apply RL_pu;rfl;exact ZCZ)|(refine js ?_;(first|(refine Zae hlst ?_)|(refine Zae (fun w' hw=>hlast w') ?_)|(refine Zae (fun w' hw=>hcc w') ?_)|(refine Zae ho ?_)|(refine bx ?_;intro bk)))|refine walk1 ?_|refine und ?_|(refine Zax rfl rfl rfl (fun hc=>?_) (fun hc=>?_))|(refine Zaw rfl rfl rfl (fun hc=>?_) (fun hc=>?_))|(refine Zah rfl (fun hc=>?_) (fun hc=>?_)))
  ·exact absurd (of_decide_eq_true hc) (by omega)
  ·have h:=of_decide_eq_true hc
   obtain rfl:none=res:=by rw[<- hres,if_pos (.inl h)]
   exact rtC
  ·have h:=of_decide_eq_true hc
   obtain rfl:none=res:=by rw[<- hres,if_pos (.inr (.inl h))]
   exact rtC
  ·have hx:¬ x2=0:=by simpa using hc
   obtain rfl:none=res:=by rw[<- hres,if_neg (fun h=>h.elim (fun h=>absurd h (of_decide_eq_false (by assumption))) (fun h=>h.elim (fun h=>absurd h (of_decide_eq_false (by assumption))) (fun h=>by cases h))),if_pos hx]
   exact rtC
  ·rename_i hx2
   have hx:¬ ¬ x2=0:=by simpa using hx2
   obtain rfl:some ⟨y,(i:Int),86400*x1+cs+mx⟩=res:=by rw[<- hres,if_neg (fun h=>h.elim (fun h=>absurd h (of_decide_eq_false (by assumption))) (fun h=>h.elim (fun h=>absurd h (of_decide_eq_false (by assumption))) (fun h=>by cases h))),if_neg hx,if_pos (of_decide_eq_true hc)]
   exact rtC
  ·rename_i hx2
   have hx:¬ ¬ x2=0:=by simpa using hx2
   obtain rfl:some ⟨y,(i:Int),86400*x1+cs⟩=res:=by rw[<- hres,if_neg (fun h=>h.elim (fun h=>absurd h (of_decide_eq_false (by assumption))) (fun h=>h.elim (fun h=>absurd h (of_decide_eq_false (by assumption))) (fun h=>by cases h))),if_neg hx,if_neg (of_decide_eq_false hc),Int.add_zero]
   exact rtC
end Go.Proofs.YtbjomhdhkpgbaaaGreatDoor
namespace Go.Wk
open Go Go.RowKit
def cmpI (a b:Int):Int:=if a<b then -1 else if b<a then 1 else 0
def iEnc (i:Int):List Value:=[.int .i64 i]
def Zcf:List Int->Int
 | []=>0
 | x::l=>if x=0 then Zcf l else x
theorem ZuL (a b:Zaf):ordE a b=Zcf [cmpI a.nominal b.nominal,cmpI a.rule b.rule,cmpI a.year b.year]:=by
 unfold ordE cmpI Zcf Zcf Zcf Zcf
 repeat' split
 all_goals omega
end Go.Wk
namespace Go.Proofs.YtbjomhdhkpgbaaaGreatDoor
open Go Go.RowKit Go.Wk
attribute [local irreducible] W RL Does Zar Zal retQ Calls Pu Stp RD Qy Ay Zak
theorem ZkN (a:Int)(w:World):Does Tryz.prog 240 [.int .i64 a] w (fun v O=>v = .bool false/\O=[]):=by
 refine Zaa Tryz.func240 rfl rfl rfl rfl ?_
 repeat (first|refine walk ?_)
 exact ret_1 _ [] (.tmp rfl) .nil ⟨by simp,rfl⟩
theorem Zni (a:Int)(w:World):Does Tryz.prog 241 [.int .i64 a] w (fun v O=>v = .bool false/\O=[]):=by
 refine Zaa Tryz.func241 rfl rfl rfl rfl ?_
 repeat (first|refine walk ?_)
 exact ret_1 _ [] (.tmp rfl) .nil ⟨by simp,rfl⟩
theorem Zk7 (a b:Int)(w:World):Does Tryz.prog 203 [.int .i64 a,.int .i64 b] w (fun v O=>v = .int .i64 (cmpI a b)/\O=[]):=by
 refine Zaa Tryz.func203 rfl rfl rfl rfl ?_
 repeat' (first|(refine js ?_;(first|(refine Zae (fun w' _=>ZkN a w') ?_)|(refine Zae (fun w' _=>ZkN b w') ?_)))|refine walk ?_|(refine Zah rfl (fun hc=>?_) (fun hc=>?_)))
 all_goals first|(refine ret_1 _ [] (.tmp rfl) .nil ⟨?_,rfl⟩;first|rfl|(simp only[*,Bool.true_and,Bool.false_and,Bool.true_or,Bool.false_or,Bool.not_true,Bool.not_false];done)|(simp_all [cmpI];done)|(simp_all [cmpI];omega)|(simp_all [cmpI];rw[Bool.eq_iff_iff];simp;omega))|(exfalso;simp_all [cmpI];done)|(exfalso;simp_all [cmpI];omega)|(exfalso;omega)
theorem ZvV (a b:Int)(w:World):Does Tryz.prog 204 [.int .i64 a,.int .i64 b] w (fun v O=>v = .int .i64 (cmpI a b)/\O=[]):=by
 refine Zaa Tryz.func204 rfl rfl rfl rfl ?_
 repeat' (first|(refine js ?_;(first|(refine Zae (fun w' _=>Zni a w') ?_)|(refine Zae (fun w' _=>Zni b w') ?_)))|refine walk ?_|(refine Zah rfl (fun hc=>?_) (fun hc=>?_)))
 all_goals first|(refine ret_1 _ [] (.tmp rfl) .nil ⟨?_,rfl⟩;first|rfl|(simp only[*,Bool.true_and,Bool.false_and,Bool.true_or,Bool.false_or,Bool.not_true,Bool.not_false];done)|(simp_all [cmpI];done)|(simp_all [cmpI];omega)|(simp_all [cmpI];rw[Bool.eq_iff_iff];simp;omega))|(exfalso;simp_all [cmpI];done)|(exfalso;simp_all [cmpI];omega)|(exfalso;omega)
theorem ZAU (A:Option Addr)(c:Nat)(l:List Int)(w:World)(hA:RdSl w A c iEnc 1 l):Does Tryz.prog 202 [.slice A l.length c] w (fun v O=>v = .int .i64 (Zcf l)/\O=[]):=by
 have hle:=hA.le
 have hcp:=hA.cap
 unfold maxLen at hcp
 obtain⟨res,hres⟩:∃ res,Zcf l=res:=⟨_,rfl⟩
 rw[hres]
 refine Zaa Tryz.func202 rfl rfl rfl rfl ?_
 repeat (first|refine walk ?_)
 refine Zaq [(6,_),(7,_),(3,_)] [] (fun k:Nat=>[(8,.int .i64 k)]) (fun _=>[]) (fun k=>k<=l.length/\Zcf (l.drop k)=res) (fun k=>l.length - k) 0 SFA SOA ⟨Nat.zero_le _,hres⟩ ?_
 rintro k ⟨hk,hi⟩
 repeat (first|refine walk ?_)
 refine Zah rfl (fun h=>?_) (fun h=>?_)
 ·have hlt:k<l.length:=by simpa using h
  obtain⟨hna,hca⟩:=hA.rd k _ (List.getElem?_eq_getElem hlt)
  rw[Zao hlt,Zcf]at hi
  generalize l[k]=r at *
  repeat (first|(apply RL_pu;rfl;exact PuI)|refine walk1 ?_)
  refine Zah rfl (fun h2=>?_) (fun h2=>?_)
  ·rw[if_neg (by simpa using h2)]at hi
   repeat (first|refine walk ?_)
   exact ret_1 _ [] (.tmp rfl) .nil ⟨by rw[<- hi],rfl⟩
  ·rw[if_pos (by simpa using h2)]at hi
   repeat (first|refine walk ?_)
   exact⟨k+1,OA,⟨OA,hi⟩,SFA,.nil⟩
 ·have hkl:k=l.length:=by
   have:=of_decide_eq_false h
   omega
  subst hkl
  rw[List.drop_length]at hi
  repeat (first|refine walk ?_)
  exact ret_1 _ [] (.tmp rfl) .nil ⟨by rw[<- hi];rfl,rfl⟩
theorem Zp3 {α:Type}{enc:α->List Value}{sz c:Nat}{ad:Addr}{l:List α}{w:World}(hsz:∀ x,(enc x).length=sz)(h1:l.length<=c)(h2:c<=maxLen)(h:Zam w ad (l.flatMap enc)):RdSl w (some ad) c enc sz l :=
 ⟨h1,h2,fun k x hk=>⟨by simp,fun j v hj=>by
  rw[Zbe]
  exact h _ v (ZaK hsz l k x j v hk hj)⟩⟩
theorem ZkL (a b:Zaf)(w:World):Does Tryz.prog 174 [.agg (Zaf.enc a).toArray,.agg (Zaf.enc b).toArray] w (fun v O=>v = .int .i64 (ordE a b)/\O=[]):=by
 rw[ZuL]
 obtain⟨y,r,n⟩:=a
 obtain⟨y2,r2,n2⟩:=b
 dsimp only
 have h1:=Zk7 n n2
 have h2:=ZvV r r2
 have h3:=Zk7 y y2
 generalize cmpI n n2=x1 at *
 generalize cmpI r r2=x2 at *
 generalize cmpI y y2=x3 at *
 have h4:=fun(bk:Nat) w' (hc:Zam w' ⟨bk,0,none⟩ [.int .i64 x1,.int .i64 x2,.int .i64 x3])=>ZAU (some ⟨bk,0,none⟩) 3 [x1,x2,x3] w' (Zp3 (fun _=>rfl) (Nat.le_refl 3) (by decide) hc)
 show Does _ _ [.agg #[.int .i64 y,.int .i64 r,.int .i64 n],.agg #[.int .i64 y2,.int .i64 r2,.int .i64 n2]] w _
 refine Zaa Tryz.func174 rfl rfl rfl rfl ?_
 repeat (first|refine walk ?_|(refine jg ?_;(try intro F);(first|(refine Zae (fun w' _=>h1 w') ?_)|(refine Zae (fun w' _=>h2 w') ?_)|(refine Zae (fun w' _=>h3 w') ?_)|(apply Zad (h:=fun w' _ hH=>h4 _ w' (hH.cells (by repeat' constructor)));rfl;rintro v O' ⟨rfl,rfl⟩)|(refine bx ?_;intro bk));refine fin ?_)|(refine jn ?_;(try intro F);(first|(refine bx ?_;intro bk)|(apply Zag;exact PuA));refine fin ?_)|(apply RD_W;rfl;intro bk))
 exact rtA
end Go.Proofs.YtbjomhdhkpgbaaaGreatDoor
namespace Go.Wk
open Go Go.RowKit
section
variable {P:Program}{n:Nat}{wr:World}{fr:Fr}{O:List It}{ty:TypeId}
theorem ZBQ {x y z:Operand}{ts:Array TypeId}{k:IntKind}{i j l q:Int}(hx:ev fr x=some (.int k i))(hy:ev fr y=some (.int k j))(hz:ev fr z=some (.int k l))(hq:max (max i j) l=q):Pu P n wr fr O (.call ⟨.builtin .max,#[x,y,z],ts⟩) ty (.int k q):=by
 have h1:(if i<j then j else i)=max i j:=by split <;> omega
 have h2:(if max i j<l then l else max i j)=q:=by rw[<- hq];split <;> omega
 exact fun a w hs _ _ _ _=>by
  simp only[execOp,resolve,invoke,builtin,Builtin.max_,Builtin.max2,hs.sim.ev hx,hs.sim.ev hy,hs.sim.ev hz]
  simp[execOp,resolve,invoke,builtin,Builtin.max_,Builtin.max2,hs.sim.ev hx,hs.sim.ev hy,hs.sim.ev hz,h1,h2]
end
end Go.Wk
namespace Go.Proofs.YtbjomhdhkpgbaaaGreatDoor
open Go Go.RowKit Go.Wk
attribute [local irreducible] W RL Does Zar Zal retQ Calls Pu Stp RD Qy Ay Zak
theorem Zxh {G:Prop}(h:G:=by(first|exact PuI|(apply Pu_loadO1;rfl;first|exact c1 0 _ rfl|exact c2 0 _ rfl|exact c3 0 _ rfl|exact hcell)|(apply ZBQ;rfl;rfl;rfl;exact hy0))):G:=h
theorem ZzW {G:Prop}(h:G:=by first|(apply Qy_y;rfl;exact Zxh)|exact QyA):G:=h
theorem ZCT {G:Prop}(h:G:=by repeat (first|exact QF.nil|(apply QF.mk;rfl;rfl;decide +kernel;exact ZzW))):G:=h
theorem Zsg {G:Prop}(h:G:=by(apply Pu_loadO1;rfl;first|exact c1 0 _ rfl|exact c2 0 _ rfl|exact c3 0 _ rfl)):G:=h
theorem Zqf (A:Option Addr)(c:Nat)(l:List Zab)(i:Nat)(r:Zab)(yr nominal:Int)(b1 b2 b3:Nat)(w:World)(hG:Glob w)(hA:RdSl w A c Zab.enc 11 l)(hi:l[i]?=some r)(hn:l.length<=1000000)(hR:∀ r∈l,-4611686018427387904<=r.save/\r.save<=4611686018427387904)
  (hy : -2000000000<=yr/\yr<=2000000000) (hf:r.from_<=4611686018427387904) (c1:Zam w ⟨b1,0,none⟩ [.slice A l.length c]) (c2:Zam w ⟨b2,0,none⟩ [.int .i64 yr]) (c3:Zam w ⟨b3,0,none⟩ [.int .i64 nominal]) :
  Does Tryz.prog 212 [.int .i64 i,.pointer (some ⟨b1,0,none⟩),.pointer (some ⟨b2,0,none⟩),.pointer (some ⟨b3,0,none⟩)] w (fun v O=>v = .tuple #[evV (evIn (Zaj l) nominal r i (max (max r.from_ (-2000000000)) (yr - 2)) 20),.bool (evIn (Zaj l) nominal r i (max (max r.from_ (-2000000000)) (yr - 2)) 20).isSome]/\O=[]):=by
 have hlt:i<l.length:=(List.getElem?_eq_some_iff.1 hi).1
 obtain⟨y0,hy0⟩:∃ y0,max (max r.from_ (-2000000000)) (yr - 2)=y0:=⟨_,rfl⟩
 have hyb : -3000000000<=y0/\y0<=4611686018427387904:=by omega
 rw[hy0]
 obtain⟨res,hres⟩:∃ res,evIn (Zaj l) nominal r i y0 20=res:=⟨_,rfl⟩
 rw[hres]
 have hon:=fun y w' (hw:Bel w.heap.size w w')=>ZgY A c l i y r w' (hG.up hw) (hA.up hw) hi hn hR
 obtain⟨hna,hca⟩:=hA.rd i _ hi
 generalize Zaj l=least at *
 have hfr:((Zab.enc r)[1]?)=some (.int .i64 r.from_):=rfl
 have hcell:w.cell? (((adr A).add (i*11)).add 1)=some (.int .i64 r.from_):=hca 1 _ hfr
 refine Zaa Tryz.func212 rfl rfl rfl rfl ?_
 repeat (first|(apply RL_pu;rfl;exact Zxh)|(apply RD_Q;rfl;rfl;decide +kernel;rfl;rfl;exact ZzW)|refine walk1 ?_|(refine jn ?_;(try intro F);(first|(refine bx ?_;intro bk)|(refine stA ?_)|(apply Zag;first|exact Zxh|exact PuA));first|refine⟨_,EndsA,ZCT,?_⟩|refine fin ?_)|(apply RD_W;rfl;intro bk))
 refine Zaq [(0,.int .i64 i),(1,.pointer (some ⟨b1,0,none⟩)),(2,.pointer (some ⟨b2,0,none⟩)),(3,.pointer (some ⟨b3,0,none⟩)),(7,.int .i64 y0),(5,.pointer (some ⟨bk,0,none⟩))] [.blk bk [.int .i64 0,.int .i64 0,.int .i64 0] 170] (fun j:Nat=>[(19,.int .i64 j)]) (fun _=>[]) (fun j=>j<=20/\evIn least nominal r i (y0+j) (20 - j)=res) (fun j=>20 - j) 0 SFA SOA ⟨Nat.zero_le _,by simpa using hres⟩ ?_
 rintro j ⟨hj,hi2⟩
 repeat (first|refine walk ?_|(refine jn ?_;(try intro F);(first|(refine bx ?_;intro bk)|(refine stA ?_)|(apply Zag;exact PuA));refine fin ?_)|(apply RD_W;rfl;intro bk))
 refine Zah rfl (fun h=>?_) (fun h=>?_)
 ·have hj20:j<20:=by have:=of_decide_eq_true h;omega
  rw[show 20 - j=(19 - j)+1 by omega,evIn]at hi2
  have ho:=hon (y0+j)
  generalize onR least r i (y0+j)=o at *
  cases o with
  | none =>
   simp only[evV,Zaf.enc,dEv0,Option.isSome]at ho
   repeat (first|(apply RL_pu;rfl;exact Zsg)|(apply RD_Q;rfl;rfl;decide +kernel;rfl;rfl;exact QyEvA1)|refine walk1 ?_|(refine jg ?_;(try intro F);(first|(refine Zae ho ?_)|(refine bx ?_;intro bk)|(refine stA ?_));first|refine⟨_,EndsA,QFEvA1,?_⟩|refine fin ?_)|(refine jn ?_;(try intro F);(first|(refine bx ?_;intro bk)|(refine stA ?_)|(apply Zag;first|exact Zsg|exact PuA));first|refine⟨_,EndsA,QFEvA1,?_⟩|refine fin ?_)|(apply RD_W;rfl;intro bk))
   exact⟨j+1,OA,⟨OA,by rw[show 20 - (j+1)=19 - j by omega,show y0+((j+1:Nat):Int)=y0+j+1 by omega];exact hi2⟩,SFA,SOA⟩
  | some e =>
   obtain⟨ey,er,en⟩:=e
   simp only[evV,Zaf.enc,Option.isSome]at ho hi2
   repeat (first|(apply RL_pu;rfl;exact Zsg)|(apply RD_Q;rfl;rfl;decide +kernel;rfl;rfl;exact QyEvA1)|refine walk1 ?_|(refine jg ?_;(try intro F);(first|(refine Zae ho ?_)|(refine bx ?_;intro bk)|(refine stA ?_));first|refine⟨_,EndsA,QFEvA1,?_⟩|refine fin ?_)|(refine jn ?_;(try intro F);(first|(refine bx ?_;intro bk)|(refine stA ?_)|(apply Zag;first|exact Zsg|exact PuA));first|refine⟨_,EndsA,QFEvA1,?_⟩|refine fin ?_)|(apply RD_W;rfl;intro bk))
   refine Zah rfl (fun h2=>?_) (fun h2=>?_)
   ·rw[if_pos (of_decide_eq_true h2)]at hi2
    subst hi2
    repeat (first|refine walk ?_|(refine jn ?_;(try intro F);(first|(refine bx ?_;intro bk)|(refine stA ?_)|(apply Zag;exact PuA));refine fin ?_)|(apply RD_W;rfl;intro bk))
    exact rtC
   ·rw[if_neg (of_decide_eq_false h2)]at hi2
    repeat (first|refine walk ?_|(refine jn ?_;(try intro F);(first|(refine bx ?_;intro bk)|(refine stA ?_)|(apply Zag;exact PuA));refine fin ?_)|(apply RD_W;rfl;intro bk))
    exact⟨j+1,OA,⟨OA,by rw[show 20 - (j+1)=19 - j by omega,show y0+((j+1:Nat):Int)=y0+j+1 by omega];exact hi2⟩,SFA,SOA⟩
 ·obtain rfl:j=20:=by have:=of_decide_eq_false h;omega
  obtain rfl:none=res:=by rw[<- hi2];rfl
  repeat (first|refine walk ?_|(refine jn ?_;(try intro F);(first|(refine bx ?_;intro bk)|(refine stA ?_)|(apply Zag;exact PuA));refine fin ?_)|(apply RD_W;rfl;intro bk))
  exact rtC
def evC:Option Zaf->List Value
 | some e=>Zaf.enc e
 | none=>Zaf.enc dEv0
structure BG where
 k:Nat
 b:Option Zaf
theorem Zv8 (A:Option Addr)(c:Nat)(l:List Zab)(yr nominal:Int)(b1 b2 b3:Nat)(w:World)(hG:Glob w)(hA:RdSl w A c Zab.enc 11 l)(hn:l.length<=1000000)(hR:∀ r∈l,(-4611686018427387904<=r.save/\r.save<=4611686018427387904)/\r.from_<=4611686018427387904)
  (hy : -2000000000<=yr/\yr<=2000000000) (c1:Zam w ⟨b1,0,none⟩ [.slice A l.length c]) (c2:Zam w ⟨b2,0,none⟩ [.int .i64 yr]) (c3:Zam w ⟨b3,0,none⟩ [.int .i64 nominal]) :
  Does Tryz.prog 211 [.slice A l.length c,.func (.func 212) #[] #[.pointer (some ⟨b1,0,none⟩),.pointer (some ⟨b2,0,none⟩),.pointer (some ⟨b3,0,none⟩)],.func (.func 174) #[] #[]] w
   (fun v O=>v = .tuple #[evV (Zb5 (Zaj l) nominal yr l 0 none),.bool (Zb5 (Zaj l) nominal yr l 0 none).isSome]/\O=[]):=by
 have haf:=fun(i:Nat) r (hi:l[i]?=some r) w' (hw:Bel w.heap.size w w')=>Zqf A c l i r yr nominal b1 b2 b3 w' (hG.up hw) (hA.up hw) hi hn (fun r hr=>(hR r hr).1) hy (hR r (List.mem_of_getElem? hi)).2 (c1.up hw (Nat.le_refl _)) (c2.up hw (Nat.le_refl _)) (c3.up hw (Nat.le_refl _))
 obtain⟨res,hres⟩:∃ res,Zb5 (Zaj l) nominal yr l 0 none=res:=⟨_,rfl⟩
 rw[hres]
 generalize Zaj l=least at *
 clear hA hR c1 c2 c3
 refine Zaa Tryz.func211 rfl rfl rfl rfl ?_
 repeat (first|(refine js ?_;(refine bx ?_;intro bk))|refine walk ?_)
 rename_i b6
 refine Zaq [(13,.slice A l.length c),(1,.func (.func 212) #[] #[.pointer (some ⟨b1,0,none⟩),.pointer (some ⟨b2,0,none⟩),.pointer (some ⟨b3,0,none⟩)]),(2,.func (.func 174) #[] #[]),(8,.pointer (some ⟨bk,0,none⟩)),(6,.pointer (some ⟨b6,0,none⟩)),(14,.int .i64 l.length)] [.blk b6 [.int .i64 0,.int .i64 0,.int .i64 0] 170]
  (fun g:BG=>[(15,.int .i64 g.k),(9,.bool g.b.isSome)]) (fun g=>[.blk bk (evC g.b) 170]) (fun g=>g.k<=l.length/\Zb5 least nominal yr (l.drop g.k) g.k g.b=res) (fun g=>l.length - g.k) ⟨0,none⟩ SFA SOA ⟨Nat.zero_le _,hres⟩ ?_
 rintro⟨k,b⟩ ⟨hk,hi⟩
 dsimp only at hk hi ⊢
 repeat (first|(refine js ?_;(refine bx ?_;intro bk))|refine walk ?_)
 refine Zah rfl (fun h=>?_) (fun h=>?_)
 ·have hlt:k<l.length:=by simpa using h
  have ho:=haf k _ (List.getElem?_eq_getElem hlt)
  rw[Zao hlt,Zb5]at hi
  generalize evIn least nominal l[k] k (max (max l[k].from_ (-2000000000)) (yr - 2)) 20=o at *
  have hord:=fun e e2 w'=>ZkL e e2 w'
  rcases o with _|⟨ey,er,en⟩ <;> rcases b with _|⟨by_,br,bn⟩ <;> simp only[evV,evC,Zaf.enc,dEv0,Option.isSome]at ho hi ⊢
  ·repeat (first|refine und ?_|(refine js ?_;(first|(apply Zap (f:=212) (us:=[]) (vs:=[.int .i64 k]) (cs:=[.pointer (some ⟨b1,0,none⟩),.pointer (some ⟨b2,0,none⟩),.pointer (some ⟨b3,0,none⟩)]) (h:=fun w' hw _=>ho w' hw);rfl;rfl;rintro v O' ⟨rfl,rfl⟩)|(refine bx ?_;intro bk)))|refine walk ?_)
   exact⟨⟨k+1,none⟩,OA,⟨OA,hi⟩,SFA,SOA⟩
  ·repeat (first|refine und ?_|(refine js ?_;(first|(apply Zap (f:=212) (us:=[]) (vs:=[.int .i64 k]) (cs:=[.pointer (some ⟨b1,0,none⟩),.pointer (some ⟨b2,0,none⟩),.pointer (some ⟨b3,0,none⟩)]) (h:=fun w' hw _=>ho w' hw);rfl;rfl;rintro v O' ⟨rfl,rfl⟩)|(refine bx ?_;intro bk)))|refine walk ?_)
   exact⟨⟨k+1,some ⟨by_,br,bn⟩⟩,OA,⟨OA,hi⟩,SFA,SOA⟩
  ·repeat (first|refine und ?_|(refine js ?_;(first|(apply Zap (f:=212) (us:=[]) (vs:=[.int .i64 k]) (cs:=[.pointer (some ⟨b1,0,none⟩),.pointer (some ⟨b2,0,none⟩),.pointer (some ⟨b3,0,none⟩)]) (h:=fun w' hw _=>ho w' hw);rfl;rfl;rintro v O' ⟨rfl,rfl⟩)|(refine bx ?_;intro bk)))|refine walk ?_)
   exact⟨⟨k+1,some ⟨ey,er,en⟩⟩,OA,⟨OA,hi⟩,SFA,SOA⟩
  ·repeat (first|refine und ?_|(refine js ?_;(first|(apply Zap (f:=212) (us:=[]) (vs:=[.int .i64 k]) (cs:=[.pointer (some ⟨b1,0,none⟩),.pointer (some ⟨b2,0,none⟩),.pointer (some ⟨b3,0,none⟩)]) (h:=fun w' hw _=>ho w' hw);rfl;rfl;rintro v O' ⟨rfl,rfl⟩)|(apply Zap (f:=174) (us:=[]) (cs:=[]) (vs:=[.agg #[.int .i64 ey,.int .i64 er,.int .i64 en],.agg #[.int .i64 by_,.int .i64 br,.int .i64 bn]]) (h:=fun w' hw _=>hord ⟨ey,er,en⟩ ⟨by_,br,bn⟩ w');rfl;rfl;rintro v O' ⟨rfl,rfl⟩)|(refine bx ?_;intro bk)))|refine walk ?_)
   refine Zah rfl (fun h2=>?_) (fun h2=>?_)
   ·rw[if_pos (of_decide_eq_true h2)]at hi
    repeat (first|(refine js ?_;(refine bx ?_;intro bk))|refine walk ?_)
    exact⟨⟨k+1,some ⟨ey,er,en⟩⟩,OA,⟨OA,hi⟩,SFA,SOA⟩
   ·rw[if_neg (of_decide_eq_false h2)]at hi
    repeat (first|(refine js ?_;(refine bx ?_;intro bk))|refine walk ?_)
    exact⟨⟨k+1,some ⟨by_,br,bn⟩⟩,OA,⟨OA,hi⟩,SFA,SOA⟩
 ·obtain rfl:k=l.length:=by have:=of_decide_eq_false h;omega
  rw[List.drop_length,Zb5]at hi
  subst hi
  rcases b with _|⟨by_,br,bn⟩ <;> simp only[evC,Zaf.enc,dEv0]
  ·repeat (first|(refine js ?_;(refine bx ?_;intro bk))|refine walk ?_)
   exact rtC
  ·repeat (first|(refine js ?_;(refine bx ?_;intro bk))|refine walk ?_)
   exact rtC
theorem ZmH (t:Int) : -2000000000<=Zd6 t/\Zd6 t<=2000000000:=by unfold Zd6;omega
def RsOk (l:List Zab):Prop:=∀ r∈l,(-4611686018427387904<=r.save/\r.save<=4611686018427387904)/\r.from_<=4611686018427387904
theorem Ztu (A:Option Addr)(c:Nat)(l:List Zab)(nominal:Int)(w:World)(hG:Glob w)(hA:RdSl w A c Zab.enc 11 l)(hn:l.length<=1000000)(hR:RsOk l)(ht : -4611686018427387904<=nominal/\nominal<=4611686018427387904) :
  Does Tryz.prog 180 [.slice A l.length c,.int .i64 nominal] w (fun v O=>v = .tuple #[evV (Zfv l nominal),.bool (Zfv l nominal).isSome]/\O=[]):=by
 have hb:=fun(b1 b2 b3:Nat) w' (hw:Bel w.heap.size w w') c1 c2 c3=>Zv8 A c l (Zd6 nominal) nominal b1 b2 b3 w' (hG.up hw) (hA.up hw) hn hR (ZmH nominal) c1 c2 c3
 change ∀ (b1 b2 b3:Nat) w' (hw:Bel w.heap.size w w') c1 c2 c3,Does _ _ _ w' (fun v O=>v = .tuple #[evV (Zfv l nominal),.bool (Zfv l nominal).isSome]/\O=[]) at hb
 have hyr:=fun w' (hw:Bel w.heap.size w w')=>ZmG nominal ht w' (hG.up hw)
 generalize Zfv l nominal=res at *
 generalize Zd6 nominal=yr at *
 refine Zaa Tryz.func180 rfl rfl rfl rfl ?_
 rcases res with _|⟨ey,er,en⟩ <;> simp only[evV,Zaf.enc,dEv0,Option.isSome]at hb ⊢
 ·repeat (first|(refine js ?_;(first|(refine Zae hyr ?_)|(apply Zad (h:=fun w' hw hH=>hb _ _ _ w' hw (hH.cells (by repeat' constructor)) (hH.cells (by repeat' constructor)) (hH.cells (by repeat' constructor)));rfl;rintro v O' ⟨rfl,rfl⟩)|(refine bx ?_;intro bk)))|refine walk ?_)
  exact rtC
 ·repeat (first|(refine js ?_;(first|(refine Zae hyr ?_)|(apply Zad (h:=fun w' hw hH=>hb _ _ _ w' hw (hH.cells (by repeat' constructor)) (hH.cells (by repeat' constructor)) (hH.cells (by repeat' constructor)));rfl;rintro v O' ⟨rfl,rfl⟩)|(refine bx ?_;intro bk)))|refine walk ?_)
  exact rtC
def EvOk (o:Option Zaf):Prop:=∀ e,o=some e -> -200000000000000000<=e.nominal/\e.nominal<=200000000000000000
theorem ZuO (least:Int)(hl:least<=0)(r:Zab)(i y:Int):EvOk (onR least r i y):=by
 intro e he
 unfold onR at he
 split at he
 ·cases he
 ·rename_i h1
  split at he
  ·cases he
  ·have hb:=Zi0 y r.month r.day
   have hc:ZaQ r.at_=true:=by
    cases hc:ZaQ r.at_
    ·exact absurd (.inr (.inr hc)) h1
    ·rfl
   simp only[ZaQ,Bool.and_eq_true,decide_eq_true_eq]at hc
   simp only[Option.some.injEq]at he
   subst he
   dsimp only
   split <;> omega
theorem ZpR (least nominal:Int)(hl:least<=0)(r:Zab)(i:Int):∀ (k:Nat) (y:Int),EvOk (evIn least nominal r i y k)
 | 0,_=>fun e he=>by cases he
 | k+1,y=>by
  rw[evIn]
  have h:=ZuO least hl r i y
  split
  ·rename_i e he
   split
   ·intro e2 h2;cases h2;exact h e he
   ·exact ZpR least nominal hl r i k (y+1)
  ·exact ZpR least nominal hl r i k (y+1)
theorem Zlh (least nominal yr:Int)(hl:least<=0):∀ (l:List Zab) (i:Nat) (b:Option Zaf),EvOk b->EvOk (Zb5 least nominal yr l i b)
 | [],_,_,h=>h
 | r::l,i,b,h=>by
  rw[Zb5]
  refine Zlh least nominal yr hl l (i+1) _ ?_
  have he:=ZpR least nominal hl r i 20 (max (max r.from_ (-2000000000)) (yr - 2))
  generalize evIn least nominal r i (max (max r.from_ (-2000000000)) (yr - 2)) 20=o at *
  cases o with
  | none=>exact h
  | some e =>
   cases b with
   | none=>exact he
   | some x =>
    dsimp only
    split
    ·exact he
    ·exact h
theorem ZAq {G:Prop}(h:G:=by(first|(apply Zj5;rfl;rfl;exact h1)|(apply ZhP;rfl;rfl;exact h2))):G:=h
theorem ZyL (A:Option Addr)(c:Nat)(l:List Zab)(nominal:Int)(w:World)(hG:Glob w)(hA:RdSl w A c Zab.enc 11 l)(hn:l.length<=1000000)(hR:RsOk l)(ht : -1000000000000000000<=nominal/\nominal<=1000000000000000000) :
  Does Tryz.prog 139 [.slice A l.length c,.int .i64 nominal] w (fun v O=>v = .bool (farD l nominal)/\O=[]):=by
 have haf:=fun w' (hw:Bel w.heap.size w w')=>Ztu A c l (nominal - 259200) w' (hG.up hw) (hA.up hw) hn hR (by omega)
 have hbd:EvOk (Zfv l (nominal - 259200)):=Zlh _ _ _ (Zfm l fun r hr=>(hR r hr).1).2 l 0 none (fun e he=>by cases he)
 unfold farD
 generalize Zfv l (nominal - 259200)=res at *
 have h1:(if 1152921504606846976<nominal then (1152921504606846976:Int) else nominal)=nominal:=if_neg (by omega)
 have h2:(if (-1152921504606846976:Int)<nominal then nominal else -1152921504606846976)=nominal:=if_pos (by omega)
 refine Zaa Tryz.func139 rfl rfl rfl rfl ?_
 rcases res with _|⟨ey,er,en⟩ <;> simp only[evV,Zaf.enc,dEv0,Option.isSome]at haf ⊢
 ·repeat' (first|(apply RL_pu;rfl;exact ZAq)|(refine js ?_;(first|(refine Zae haf ?_)|(refine bx ?_;intro bk)))|refine walk1 ?_|refine und ?_|(refine Zax rfl rfl rfl (fun hc=>?_) (fun hc=>?_))|(refine Zaw rfl rfl rfl (fun hc=>?_) (fun hc=>?_))|(refine Zah rfl (fun hc=>?_) (fun hc=>?_)))
  exact rtA
 ·have hb:=hbd _ rfl
  dsimp only at hb
  repeat' (first|(apply RL_pu;rfl;exact ZAq)|(refine js ?_;(first|(refine Zae haf ?_)|(refine bx ?_;intro bk)))|refine walk1 ?_|refine und ?_|(refine Zax rfl rfl rfl (fun hc=>?_) (fun hc=>?_))|(refine Zaw rfl rfl rfl (fun hc=>?_) (fun hc=>?_))|(refine Zah rfl (fun hc=>?_) (fun hc=>?_)))
  exact rtA
end Go.Proofs.YtbjomhdhkpgbaaaGreatDoor
namespace Go.Wk
open Go Go.RowKit
def Zec (c:Int):Bool:=(decide (c<65)||decide (90<c))&&(decide (c<97)||decide (122<c))
end Go.Wk
namespace Go.Proofs.YtbjomhdhkpgbaaaGreatDoor
open Go Go.RowKit Go.Wk
attribute [local irreducible] W RL Does Zar Zal retQ Calls Pu Stp RD Qy Ay Zak
theorem Zht (s:ByteArray)(ok:Bool)(w:World):Does Tryz.prog 115 [.string s,.bool ok] w (fun v O=>v = .tuple #[.string (if ok then s else ByteArray.empty),.int .i64 (if ok then 0 else 15)]/\O=[]):=by
 rw[show ByteArray.empty=⟨#[]⟩ from rfl]
 refine Zaa Tryz.func115 rfl rfl rfl rfl ?_
 cases ok
 ·repeat' (first|refine walk ?_|(refine Zah rfl (fun hc=>?_) (fun hc=>?_)))
  all_goals exact clo2
 ·repeat' (first|refine walk ?_|(refine Zah rfl (fun hc=>?_) (fun hc=>?_)))
  all_goals exact clo2
end Go.Proofs.YtbjomhdhkpgbaaaGreatDoor
namespace Go.Wk
open Go Go.RowKit Go.Lib
theorem ZjI {P:Program}{f:FuncId}{args:List Value}{w:World}{v:Value}(h:Calls P f args.toArray w fun e w'=>e = .returned v/\Below w.heap.size w w'):Does P f args w fun v' O=>v'=v/\O=[] :=
 h.mono fun _ _ ⟨he,hb⟩=>⟨v,[],he,⟨hb⟩,Zau.nil _ _,rfl,rfl⟩
theorem ZBm (B:Nat)(w:World)(n:Nat):Below B w (w.drewN n):=⟨rfl,rfl,rfl,Nat.le_refl _,fun _ _=>rfl⟩
theorem Zvr (s:ByteArray):∀ (f pos:Nat),s.size<=pos+f->(idxFuncFrom (fun r=>Zec (r:Int)) true s f pos<0↔ZdB (s.data.toList.drop pos)=true)
 | 0,pos,h=>by
  rw[List.drop_eq_nil_of_le (by simpa using h)]
  simp[idxFuncFrom,ZdB]
 | f+1,pos,h=>by
  unfold idxFuncFrom
  by_cases hp:pos<s.size
  ·rw[if_pos hp]
   have hp':pos<s.data.toList.length:=by simpa using hp
   rw[List.drop_eq_getElem_cons hp',ZdB,List.all_cons]
   have hg:s.get! pos=s.data.toList[pos]:=by
    rw[Array.getElem_toList]
    show s.data[pos]! = _
    rw[getElem!_pos s.data pos (by simpa using hp')]
   have ih:=Zvr s f (pos+1) (by omega)
   unfold ZdB at ih
   have hd:(s.data.toList[pos].toNat<128/\Utf8.decode s pos=(s.data.toList[pos].toNat,1))\/(128<=s.data.toList[pos].toNat/\128<=(Utf8.decode s pos).1):=by
    unfold Utf8.decode
    simp only[Nat.add_zero,hg]
    generalize s.data.toList[pos].toNat=b
    by_cases hb:b<128
    ·exact .inl ⟨hb,by rw[if_pos hb]⟩
    ·refine .inr ⟨by omega,?_⟩
     rw[if_neg hb]
     repeat' split
     all_goals first|(simp only[Utf8.runeError];omega)|(dsimp only;omega)|(dsimp only;simp only[Bool.and_eq_true,decide_eq_true_eq,ge_iff_le]at *;omega)|decide
   generalize s.data.toList[pos]=b at *
   rcases hd with⟨hb,hd⟩|⟨hb,hd⟩
   ·rw[hd]
    dsimp only
    by_cases hl:Zec (b.toNat:Int)=true
    ·rw[if_pos hl]
     have:decide (ZdM b.toNat=1)=false:=by
      unfold Zec at hl
      simp only[Bool.and_eq_true,Bool.or_eq_true,decide_eq_true_eq]at hl
      unfold ZdM
      rw[if_neg (by omega)]
      repeat' split
      all_goals decide
     rw[this]
     simp
    ·rw[if_neg hl,ih]
     have:decide (ZdM b.toNat=1)=true:=by
      unfold Zec at hl
      simp only[Bool.and_eq_true,Bool.or_eq_true,decide_eq_true_eq]at hl
      unfold ZdM
      rw[if_pos (by omega)]
      rfl
     rw[this,Bool.true_and]
   ·have hl:Zec ((Utf8.decode s pos).1:Int)=true:=by
     unfold Zec
     simp only[Bool.and_eq_true,Bool.or_eq_true,decide_eq_true_eq]
     omega
    rw[if_pos hl]
    have:decide (ZdM b.toNat=1)=false:=by
     unfold ZdM
     rw[if_neg (by omega)]
     repeat' split
     all_goals decide
    rw[this]
    simp
  ·rw[if_neg hp,List.drop_eq_nil_of_le (by simpa using hp)]
   simp[ZdB]
theorem Znf:∀ (l:List UInt8),l.length<=2->(match numU l with|some n=>∃ u:Nat,parseUintB 8 l = .ok u/\n=u/\u<=99|none=>parseUintB 8 l = .syntax)
 | [],_=>rfl
 | [a],_=>by
  unfold numU parseUintB
  simp only[parseUintM,List.isEmpty_cons,Bool.false_eq_true,if_false,List.all_cons,List.all_nil,Bool.and_true,List.foldl_cons,List.foldl_nil,reduceCtorEq]
  by_cases h:48<=a/\a<=57
  ·have h1:48<=a.toNat/\a.toNat<=57:=⟨UInt8.le_iff_toNat_le.1 h.1,UInt8.le_iff_toNat_le.1 h.2⟩
   rw[if_pos (by simp[h.1,h.2]),if_pos h1]
   dsimp only
   refine⟨_,by rw[if_neg (by omega),if_neg (by omega)],by omega,by omega⟩
  ·have h1:¬ (48<=a.toNat/\a.toNat<=57):=fun hh=>h ⟨UInt8.le_iff_toNat_le.2 hh.1,UInt8.le_iff_toNat_le.2 hh.2⟩
   rw[if_neg (by simpa using h),if_neg h1]
 | [a,b],_=>by
  unfold numU parseUintB
  simp only[parseUintM,List.isEmpty_cons,Bool.false_eq_true,if_false,List.all_cons,List.all_nil,Bool.and_true,List.foldl_cons,List.foldl_nil,reduceCtorEq]
  by_cases h:48<=a/\a<=57
  ·have h1:48<=a.toNat/\a.toNat<=57:=⟨UInt8.le_iff_toNat_le.1 h.1,UInt8.le_iff_toNat_le.1 h.2⟩
   by_cases h':48<=b/\b<=57
   ·have h2:48<=b.toNat/\b.toNat<=57:=⟨UInt8.le_iff_toNat_le.1 h'.1,UInt8.le_iff_toNat_le.1 h'.2⟩
    rw[if_pos (by simp[h.1,h.2,h'.1,h'.2]),if_pos h1,if_neg (by omega),if_neg (by omega),if_pos h2]
    dsimp only
    refine⟨_,by rw[if_neg (by omega),if_neg (by omega)],by omega,by omega⟩
   ·have h2:¬ (48<=b.toNat/\b.toNat<=57):=fun hh=>h' ⟨UInt8.le_iff_toNat_le.2 hh.1,UInt8.le_iff_toNat_le.2 hh.2⟩
    rw[if_neg (by intro hh;simp only[Bool.and_eq_true,decide_eq_true_eq]at hh;exact h' hh.2),if_pos h1,if_neg (by omega),if_neg (by omega),if_neg h2]
  ·have h1:¬ (48<=a.toNat/\a.toNat<=57):=fun hh=>h ⟨UInt8.le_iff_toNat_le.2 hh.1,UInt8.le_iff_toNat_le.2 hh.2⟩
   rw[if_neg (by intro hh;simp only[Bool.and_eq_true,decide_eq_true_eq]at hh;exact h hh.1),if_neg h1]
 | _::_::_::_,h=>by simp only[List.length_cons]at h;omega
end Go.Wk
namespace Go.Proofs.YtbjomhdhkpgbaaaGreatDoor
open Go Go.RowKit Go.Wk Go.Lib
structure LibW (w:World):Prop where
 mxl:∃ m,w.cell? ⟨Zk6.g 1,0,none⟩=some (.int .i64 m)
 syn:∃ ev,w.cell? ⟨ZiY.g 0,0,none⟩=some ev/\(ev = .nilIface\/∃ te pe,ev = .iface te pe)
theorem Zl4 (s p:ByteArray)(w:World)(hL:LibW w)(hs:s.size<4294967281) :
  Does Tryz.prog 98 [.string s,.string p] w (fun v O=>v = .tuple #[.string ⟨(cutV s.data.toList p.data.toList).1.toArray⟩,.string ⟨(cutV s.data.toList p.data.toList).2.1.toArray⟩,.bool (cutV s.data.toList p.data.toList).2.2]/\O=[]):=by
 obtain⟨m,hm⟩:=hL.mxl
 rw[<- ZBh]
 exact ZjI ((Any.strings_Cut { ZzD with } s p m w hs hm).mono fun e w' ⟨he,n,hw⟩=>⟨he,hw▸ZBm _ _ _⟩)
theorem ZuF (s p:ByteArray)(w:World):Does Tryz.prog 184 [.string s,.string p] w (fun v O=>v = .bool (p.data.toList.isPrefixOf s.data.toList)/\O=[]) :=
 ZjI ((Any.strings_HasPrefix ZAS s p w).mono fun e w' ⟨he,hw⟩=>⟨he,hw▸Below.refl _ _⟩)
theorem Zwc (c:Int)(w:World):Calls Tryz.prog 142 #[.int .i32 c] w fun e w'=>e = .returned (.bool (Zec c))/\∃ q,w'=w.drewN q:=by
 go_enter Tryz.func142,Tryz.ntmps142
 go_wp2
 all_goals go_ret
 all_goals refine⟨congrArg Ending.returned (congrArg Value.bool (?_:_=Zec c)),0,rfl⟩
 all_goals unfold Zec
 all_goals first|rfl|(simp[*];done)|(simp_all;done)|(simp_all;omega)
theorem Zyw (s:ByteArray)(w:World):Does Tryz.prog 141 [.string s,.func (.func 142) #[] #[]] w (fun v O=>v = .int .i64 (idxFunc (fun r=>Zec (r:Int)) true s)/\O=[]) :=
 ZjI (Any.strings_IndexFunc_runes ZCv 142 #[] (enters_of Tryz.func142 (by kernel_rfl) rfl) (fun r=>Zec (r:Int)) s w (fun W x _ _=>by unfold FnGives;simpa using Zwc x W))
theorem ZxY (s:ByteArray)(w:World)(hL:LibW w)(hs:s.size<=2) :
  Does Tryz.prog 183 [.string s,.int .i64 10,.int .i64 8] w (fun v O=>(match numU s.data.toList with|some n=>v = .tuple #[.int .u64 n,.nilIface]/\0<=n/\n<=99|none=>∃ t p,v = .tuple #[.int .u64 0,.iface t (.pointer p)])/\O=[]):=by
 have h:=Znf s.data.toList (by simpa using hs)
 cases hn:numU s.data.toList with
 | none =>
  rw[hn]at h
  obtain⟨ev,h1,h2⟩:=hL.syn
  exact(Any.strconv_ParseUint_10_at8_syntax ZCg s (by omega) h ev w h1 h2).mono fun e w' ⟨N,he,_,_,hb⟩=>⟨_,[],he,⟨hb⟩,Zau.nil _ _,⟨_,_,rfl⟩,rfl⟩
 | some n =>
  rw[hn]at h
  obtain⟨u,h1,rfl,h3⟩:=h
  exact(Any.strconv_ParseUint_10_at8_ok ZCg s (by omega) u h1 w).mono fun e w' ⟨he,hb⟩=>⟨_,[],he,⟨by rcases hb with rfl|rfl;exact Below.refl _ _;exact Go.Joins.below_bytesWorld _ _ _ _ (Nat.le_refl _)⟩,Zau.nil _ _,⟨rfl,by omega,by omega⟩,rfl⟩
end Go.Proofs.YtbjomhdhkpgbaaaGreatDoor
namespace Go.Wk
open Go Go.RowKit
theorem ZCx (n:Int)(h0:0<=n)(h1:n<=99):(dig2 n).map Zp6=[.int .u8 (48+n / 10),.int .u8 (48+n % 10)]:=by
 have a:(UInt8.ofNat (48+(n / 10).toNat)).toNat=48+(n / 10).toNat:=by rw[UInt8.toNat_ofNat'];omega
 have b:(UInt8.ofNat (48+(n % 10).toNat)).toNat=48+(n % 10).toNat:=by rw[UInt8.toNat_ofNat'];omega
 simp only[dig2,List.map_cons,List.map_nil,Zp6,a,b]
 congr 2
 ·congr 1;omega
 ·congr 2;omega
def Zun (off:Int):UInt8:=if off<0 then 45 else 43
def Zum (off:Int):Int:=if off<0 then 45 else 43
def ZuI (p q r:Int):Nat:=if r≠0 then 3 else if q≠0 then 2 else 1
theorem ZxM (off:Int)(h0 : -86400<off)(h1:off<86400)(x:Int)(hx:(if off<0 then -off else off)=x):ZaT off=Zun off::(([x / 3600,x / 60 % 60,x % 60].take (ZuI (x / 3600) (x / 60 % 60) (x % 60))).flatMap dig2):=by
 unfold ZaT
 rw[if_neg (by omega)]
 simp only[hx,Zun]
 congr 1
 unfold ZuI
 by_cases h2:x % 60=0
 ·by_cases h3:x / 60 % 60=0
  ·have:x % 3600=0:=by omega
   simp[h2,h3,this]
  ·have:¬ x % 3600=0:=by omega
   simp[h2,h3,this]
 ·have:¬ x % 3600=0:=by omega
  simp[h2,this]
section
variable {P:Program}{n:Nat}{wr:World}{fr:Fr}{O:List It}{ty:TypeId}
theorem Zj8 {t len e sz:Nat}{ag:Bool}{ps:List (Nat × Operand)}{vs:List (Nat × Value)}{z cs cs':List Value}[hA:ArrT P t len e sz ag][hz:ZeroT P t z](hx:evpO fr ps=some vs)(hb:bld (places len sz) z vs=some cs)(hn:Nf cs cs') :
  Pu P n wr fr O (.build t ps.toArray) ty (.agg cs'.toArray):=by
 rw[<- hn.eq]
 intro a w hs _ _ _ _
 have h:=hz.h
 unfold Zhn at h
 split at h
 ·rename_i i hi
  split at h
  ·rename_i zv hzv
   simp only[Option.some.injEq]at h
   subst h
   have h:=hA.h
   unfold Zlf at h
   split at h
   ·rename_i len' e' hu
    split at h
    ·rename_i sz' ag' ht
     simp only[Option.some.injEq,Prod.mk.injEq]at h
     obtain⟨rfl,rfl,rfl,rfl⟩:=h
     obtain⟨inf,dd,hinf,hsz,_,_⟩:=Ty.parts ht
     have hf:=Zjz sz' len' vs zv.cells.toList cs hb
     have hf':Instr.fill (fun i=>some (i*sz',sz')) zv.cells vs=some cs.toArray:=by simpa using hf
     have hps:(Array.map (fun(x:Nat × Operand)=>(x.1,a.eval x.2)) ps.toArray).toList=vs:=by simpa using hs.sim.evpO hx
     simp only[execOp,Instr.build,Sem.run_bind,zeroValue,ZaR hi,Result.andThen_ok,hzv,Sem.run_pure,run_underlying hu,sizeOf,ZaR hinf,hsz]
     rw[hps]
     simp[hf']
    ·cases h
   ·cases h
  ·cases h
 ·cases h
end
end Go.Wk
namespace Go.Proofs.YtbjomhdhkpgbaaaGreatDoor
open Go Go.RowKit Go.Wk
attribute [local irreducible] W RL Does Zar Zal retQ Calls Pu Stp RD Qy Ay Zak RW
structure TG where
 k:Nat
 A:Option Addr
 c:Nat
 xs:List Value
theorem ZAa {G:Prop}(h:G:=by(apply ZeP;rfl;rfl;exact hb)):G:=h
theorem Zz9 {G:Prop}(h:G:=by(first|exact ZAa|(apply ZcJ;rfl;rfl;exact hb2))):G:=h
theorem Zz8 {G:Prop}(h:G:=by(first|(apply Za3;rfl;rfl;rfl)|(apply Zbs;rfl;rfl;decide;decide)|(apply Zox;rfl;(focus repeat' constructor);rfl)|(apply ZaA;rfl;rfl;exact b2))):G:=h
theorem Zz7 {G:Prop}(h:G:=by(first|(apply Za3;rfl;rfl;rfl)|(apply Zbs;rfl;rfl;decide;decide)|(apply Zox;rfl;(focus repeat' constructor);rfl)|(apply ZaA;rfl;rfl;exact b1))):G:=h
theorem Ze9 (off:Int)(w:World):Does Tryz.prog 117 [.int .i64 off] w (fun v O=>v = .string ⟨(ZaT off).toArray⟩/\O=[]):=by
 refine Zaa Tryz.func117 rfl rfl rfl rfl ?_
 repeat (first|(refine js ?_;(refine bx ?_;intro bk))|refine walk ?_)
 refine ZBz (fun _ _ _=>ZyG) ?_
 by_cases hlo:off <= -86400
 ·have e:ZaT off=[]:=by unfold ZaT;rw[if_pos (.inl hlo)]
  rw[e]
  have hb:decide (off <= -86400)=true:=decide_eq_true hlo
  repeat (first|(apply RL_pu;rfl;exact ZAa)|(refine js ?_;(refine bx ?_;intro bk))|refine walk1 ?_)
  exact rtA
 have hb:decide (off <= -86400)=false:=decide_eq_false hlo
 by_cases hhi:86400<=off
 ·have e:ZaT off=[]:=by unfold ZaT;rw[if_pos (.inr hhi)]
  rw[e]
  have hb2:decide (86400<=off)=true:=decide_eq_true hhi
  repeat (first|(apply RL_pu;rfl;exact Zz9)|(refine js ?_;(refine bx ?_;intro bk))|refine walk1 ?_)
  exact rtA
 have hb2:decide (86400<=off)=false:=decide_eq_false hhi
 obtain⟨x,hx⟩:∃ x,(if off<0 then -off else off)=x:=⟨_,rfl⟩
 have hx0:0<=x/\x<86400:=by split at hx <;> omega
 have hsg:Zp6 (Zun off) = .int .u8 (Zum off):=by unfold Zp6 Zun Zum;split <;> rfl
 rw[ZxM off (by omega) (by omega) x hx]
 generalize Zun off=sb at hsg ⊢
 obtain⟨sg,hsg2⟩:∃ sg,Zum off=sg:=⟨_,rfl⟩
 rw[hsg2]at hsg
 repeat (first|(apply RL_pu;rfl;exact Zz9)|(refine js ?_;(refine bx ?_;intro bk))|refine walk1 ?_)
 refine Zcw (fun fr' O'=>Sub [(0,.int .i64 x),(3,.int .u8 sg)] fr') ?_ ?_
 ·refine Zah rfl (fun hc=>?_) (fun hc=>?_)
  ·have hneg:=of_decide_eq_true hc
   rw[if_pos hneg]at hx
   subst hx
   obtain rfl:sg=45:=by rw[<- hsg2,Zum,if_pos hneg]
   repeat (first|(apply RL_pu;rfl;(apply Zhe;rfl;(constructor <;> omega)))|(refine js ?_;(refine bx ?_;intro bk))|refine walk1 ?_)
   exact⟨rfl,SFA⟩
  ·have hneg:=of_decide_eq_false hc
   rw[if_neg hneg]at hx
   subst hx
   obtain rfl:sg=43:=by rw[<- hsg2,Zum,if_neg hneg]
   repeat (first|(refine js ?_;(refine bx ?_;intro bk))|refine walk ?_)
   exact⟨rfl,SFA⟩
 intro fr' O' hfr
 refine thenQ_n ?_
 refine ZcH hfr .nil ?_
 have hp0:0<=x / 3600/\x / 3600<=99:=by omega
 have hp1:0<=x / 60 % 60/\x / 60 % 60<=99:=by omega
 have hp2:0<=x % 60/\x % 60<=99:=by omega
 repeat (first|(apply RL_pu;rfl;(first|(apply Pu_quo64;rfl;rfl;omega;omega;decide)|(apply Pu_remE;rfl;rfl;omega;decide)|(apply Zj8;rfl;rfl;(focus repeat (first|exact Nf.nil|apply Nf.cons)))))|(refine js ?_;(refine bx ?_;intro bk))|refine walk1 ?_)
 generalize x / 3600=p at *
 generalize x / 60 % 60=q at *
 generalize x % 60=r at *
 refine ZBB (thenQ_n ?_)
 obtain⟨N,hN⟩:∃ N,ZuI p q r=N:=⟨_,rfl⟩
 have hN3:1<=N/\N<=3:=by rw[<- hN];unfold ZuI;split <;> (try split) <;> omega
 refine W_seq (Zcw (fun fr' O'=>Sub [(3,.int .u8 sg),(4,.pointer (some ⟨bk,0,none⟩)),(5,.int .i64 N)] fr'/\SubO [.blk bk [.int .i64 p,.int .i64 q,.int .i64 r] 249] O') ?_ ?_)
 ·refine W_block (Ziy 3 (ZbY ?_))
  unfold ZuI at hN
  by_cases h2:r=0
  ·rw[if_neg (fun h=>h h2)]at hN
   have b2:decide (r=0)=true:=decide_eq_true h2
   repeat (first|(apply RL_pu;rfl;exact Zz8)|(refine js ?_;(refine bx ?_;intro bk))|refine walk1 ?_)
   refine ZbY ?_
   by_cases h1:q=0
   ·rw[if_neg (fun h=>h h1)]at hN
    subst hN
    have b1:decide (q=0)=true:=decide_eq_true h1
    repeat (first|(apply RL_pu;rfl;exact Zz7)|(refine js ?_;(refine bx ?_;intro bk))|refine walk1 ?_)
    refine ZbY ?_
    repeat (first|(apply RL_pu;rfl;(apply Za3;rfl;rfl;rfl))|(refine js ?_;(refine bx ?_;intro bk))|refine walk1 ?_)
    exact⟨rfl,SFA,SOA⟩
   ·rw[if_pos h1]at hN
    subst hN
    have b1:decide (q=0)=false:=decide_eq_false h1
    repeat (first|(apply RL_pu;rfl;exact Zz7)|(refine js ?_;(refine bx ?_;intro bk))|refine walk1 ?_)
    exact⟨rfl,SFA,SOA⟩
  ·rw[if_pos h2]at hN
   subst hN
   have b2:decide (r=0)=false:=decide_eq_false h2
   repeat (first|(apply RL_pu;rfl;exact Zz8)|(refine js ?_;(refine bx ?_;intro bk))|refine walk1 ?_)
   exact⟨rfl,SFA,SOA⟩
 rintro fr2 O2 ⟨hf2,hO2⟩
 rw[hN]
 refine thenQ_n ?_
 refine ZcH hf2 hO2 ?_
 clear hf2 hO2 hfr fr2 O2
 obtain⟨b3,hb3⟩:∃ b3,bk=b3:=⟨_,rfl⟩
 rw[hb3]
 clear hb3 bk
 repeat (first|(apply RL_pu;rfl;(apply Zov;rfl;rfl;omega;omega))|(refine js ?_;(refine bx ?_;intro bk))|refine walk1 ?_)
 refine Zwn (b:=bk) (m:=1) 1 (by repeat' constructor) rfl (by decide) ?_
 obtain⟨ps,hps⟩:∃ ps,[p,q,r]=ps:=⟨_,rfl⟩
 have hpl:ps.length=3:=by rw[<- hps];rfl
 have hpb:∀ (k:Nat) (x:Int),ps[k]?=some x->0<=x/\x<=99:=by
  intro k x hk
  rw[<- hps]at hk
  match k,hk with
  | 0,hk=>simp only[List.getElem?_cons_zero,Option.some.injEq]at hk;omega
  | 1,hk=>simp only[List.getElem?_cons_succ,List.getElem?_cons_zero,Option.some.injEq]at hk;omega
  | 2,hk=>simp only[List.getElem?_cons_succ,List.getElem?_cons_zero,Option.some.injEq]at hk;omega
  | k+3,hk=>simp at hk
 have hpv:[Value.int .i64 p,.int .i64 q,.int .i64 r]=ps.map (Value.int .i64):=by rw[<- hps];rfl
 rw[hpv,hps]
 refine Zaq [(40,.slice (some ⟨b3,0,none⟩) N 3),(41,.int .i64 N)] [.blk b3 (ps.map (Value.int .i64)) 249] (fun g:TG=>[(6,.slice g.A (1+2*g.k) g.c),(42,.int .i64 g.k)]) (fun g=>[.row (.slice g.A (1+2*g.k) g.c) 5 1 (1+2*g.k) g.xs])
  (fun g=>g.k<=N/\g.A≠none/\g.xs=(sb::(ps.take g.k).flatMap dig2).map Zp6) (fun g=>N - g.k) ⟨0,some ⟨bk,0,none⟩,1,[.int .u8 sg]⟩ SFA SOA ⟨Nat.zero_le _,by simp,by rw[<- hsg];rfl⟩ ?_
 rintro⟨k,A,c,xs⟩ ⟨hk,hA,hx⟩
 dsimp only at hk hA hx ⊢
 repeat (first|(refine js ?_;(refine bx ?_;intro bk))|refine walk ?_)
 refine Zah rfl (fun hc=>?_) (fun hc=>?_)
 ·simp only[decide_eq_true_eq,Int.ofNat_lt]at hc
  have hk3:k<ps.length:=by omega
  have hget:=List.getElem?_eq_getElem hk3
  have hbd:=hpb k _ hget
  have htk:=List.take_append_getElem hk3
  generalize ps[k]=x at *
  have hgv:(ps.map (Value.int .i64))[k*1]?=some (.int .i64 x):=by rw[Nat.mul_one,List.getElem?_map,hget];rfl
  repeat (first|(apply RL_pu;rfl;(first|(apply Pu_indexAddr;rfl;rfl;omega;omega;simp)|(apply Zj6;rfl;(focus repeat' constructor);exact hgv)|(apply Pu_quo64;rfl;rfl;omega;omega;decide)|(apply Pu_remE;rfl;rfl;omega;decide)|(apply Zzb;rfl;omega;omega)|(apply ZwO;rfl;rfl;(constructor <;> omega))))|(refine js ?_;(first|(apply Zay;rfl;rfl;(intro A' c';(focus repeat' constructor));(intro w' _ hO;exact Zbv (hO.of (by repeat' constructor)));rfl;rfl;(simp only[maxLen];omega);omega;intro A' c' hc1 hc2 hc3)|(refine bx ?_;intro bk)))|refine walk1 ?_)
  refine⟨⟨k+1,A',c',xs++[.int .u8 (48+x / 10),.int .u8 (48+x % 10)]⟩,OA,⟨OA,hc3 (by omega),?_⟩,SFA,SOA⟩
  dsimp only
  rw[<- htk,hx,<- ZCx x hbd.1 hbd.2]
  simp
 ·have hkN:k=N:=by simp only[decide_eq_false_iff_not,Int.ofNat_lt]at hc;omega
  subst hkN
  have hlen:1+2*k=(sb::(ps.take k).flatMap dig2).length:=by
   have:∀ l:List Int,(l.flatMap dig2).length=2*l.length:=fun l=>by
    induction l with
    | nil=>rfl
    | cons y l ih=>simp only[List.flatMap_cons,List.length_append,ih,List.length_cons,dig2,List.length_nil];omega
   rw[List.length_cons,this,List.length_take]
   omega
  repeat (first|(apply RL_pu;rfl;(apply ZoA;rfl;(focus repeat' constructor);exact hx;exact hlen;exact hA))|(refine js ?_;(refine bx ?_;intro bk))|refine walk1 ?_)
  exact rtA
end Go.Proofs.YtbjomhdhkpgbaaaGreatDoor
