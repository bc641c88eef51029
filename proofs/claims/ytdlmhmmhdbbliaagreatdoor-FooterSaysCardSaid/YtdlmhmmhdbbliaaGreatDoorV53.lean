/- Parts of the proof. -/
import Derived.Test.YtdlmhmmhdbbliaaGreatDoorV06
import Derived.Test.YtdlmhmmhdbbliaaGreatDoorV09
import Derived.Test.YtdlmhmmhdbbliaaGreatDoorV08
import Derived.Test.YtdlmhmmhdbbliaaGreatDoorV11
import Derived.Test.YtdlmhmmhdbbliaaGreatDoorV20
import Derived.Laws.OwnMore
set_option maxHeartbeats 4000000
set_option linter.unusedVariables false
set_option linter.unusedSimpArgs false
namespace Go.Wk
open Go Go.RowKit
def beIn (least nominal:Int)(r:Zab)(i y:Int):Nat->Option Zad
 | 0=>none
 | k+1=>match onR least r i y with
  | some e=>if e.nominal<nominal then some e else beIn least nominal r i (y - 1) k
  | none=>beIn least nominal r i (y - 1) k
def Zem (least nominal yr:Int):List Zab->Nat->Option Zad->Option Zad
 | [],_,best=>best
 | r::l,i,best =>
  Zem least nominal yr l (i+1) (match beIn least nominal r i (min (lastY r) (yr+2)) 20 with
   | none=>best
   | some e=>match best with|none=>some e|some b=>if ordE b e<0 then some e else some b)
def befD (l:List Zab)(nominal:Int):Option Zad:=Zem (Zah l) nominal (ZaA nominal) l 0 none
def fiIn (least:Int)(r:Zab)(i y:Int):Nat->Option Zad
 | 0=>none
 | k+1=>match onR least r i y with
  | some e=>some e
  | none=>fiIn least r i (y+1) k
def firL (least:Int):List Zab->Nat->List Zad
 | [],_=>[]
 | r::l,i=>(fiIn least r i (max r.from_ (-2000000000)) 9).toList++firL least l (i+1)
def dR0:Zab:=⟨ByteArray.empty,0,0,0,⟨0,0,0⟩,⟨0,0⟩,0,ByteArray.empty⟩
def ruE (l:List Zab)(e:Zad):Zab:=l.getD e.rule.toNat dR0
def fstB (l:List Zab)(all:Bool)(but:Int)(best:Option Zad)(e:Zad):Option Zad :=
 if (!all&&decide ((ruE l e).save=but))||(match best with|some b=>decide (b.nominal<=e.nominal)|none=>false) then best else some e
def fstD (l:List Zab)(all:Bool)(but:Int):Option Zad:=(firL (Zah l) l 0).foldl (fstB l all but) none
def behS (l:List Zab)(e:Zad):Int × ByteArray:=((ruE l e).save,(ruE l e).letter)
def iniS (l:List Zab):Int × ByteArray :=
 match fstD l true 0 with
 | none=>(0,ByteArray.empty)
 | some e=>match fstD l false (ruE l e).save with
  | some o=>behS l o
  | none=>behS l e
def befS (l:List Zab)(nominal:Int):Int × ByteArray :=
 match befD l nominal with
 | some e=>behS l e
 | none=>iniS l
def ZcF (l:List Zab)(e:Zad)(off:Int):Int :=
 if (ruE l e).at_.base=1 then e.nominal - max (Zah l) (-10800) - off
 else if (ruE l e).at_.base=0 then e.nominal - (befS l e.nominal).1 - off
 else e.nominal
end Go.Wk
namespace Go.Proofs.YtdlmhmmhdbbliaaGreatDoor
open Go Go.RowKit Go.Wk
attribute [local irreducible] W RL Does Zau Zak retQ Calls Pu Stp RD Qy Ay Zaj
theorem ZvK {G:Prop}(h:G:=by(first|exact PuI|(apply Pu_loadO1;rfl;first|exact c1 0 _ rfl|exact c2 0 _ rfl|exact c3 0 _ rfl)|(apply ZlF;rfl;rfl;exact hmn))):G:=h
theorem Zx2 {G:Prop}(h:G:=by first|(apply Qy_y;rfl;exact ZvK)|exact QyA):G:=h
theorem Zx9 {G:Prop}(h:G:=by repeat (first|exact QF.nil|(apply QF.mk;rfl;rfl;decide +kernel;exact Zx2))):G:=h
theorem ZqN {G:Prop}(h:G:=by(apply Pu_loadO1;rfl;first|exact c1 0 _ rfl|exact c2 0 _ rfl|exact c3 0 _ rfl)):G:=h
theorem Zno (A:Option Addr)(c:Nat)(l:List Zab)(i:Nat)(r:Zab)(yr nominal:Int)(b1 b2 b3:Nat)(w:World)(hG:Glob w)(hA:RdSl w A c Zab.enc 11 l)(hi:l[i]?=some r)(hn:l.length<=1000000)(hR:∀ r∈l,-4611686018427387904<=r.save/\r.save<=4611686018427387904)
  (hy : -2000000000<=yr/\yr<=2000000000) (hf : -4611686018427387904<=r.to) (c1:Zal w ⟨b1,0,none⟩ [.slice A l.length c]) (c2:Zal w ⟨b2,0,none⟩ [.int .i64 yr]) (c3:Zal w ⟨b3,0,none⟩ [.int .i64 nominal]) :
  Does Tryz.prog 59 [.int .i64 i,.pointer (some ⟨b1,0,none⟩),.pointer (some ⟨b2,0,none⟩),.pointer (some ⟨b3,0,none⟩)] w (fun v O=>v = .tuple #[evV (beIn (Zah l) nominal r i (min (lastY r) (yr+2)) 20),.bool (beIn (Zah l) nominal r i (min (lastY r) (yr+2)) 20).isSome]/\O=[]):=by
 have hlt:i<l.length:=(List.getElem?_eq_some_iff.1 hi).1
 obtain⟨y0,hy0⟩:∃ y0,min (lastY r) (yr+2)=y0:=⟨_,rfl⟩
 have hlb : -4611686018427387904<=lastY r/\lastY r<=2000000000:=by
  unfold lastY
  split <;> omega
 have hyb : -4611686018427387904<=y0/\y0<=2000000002:=by omega
 have hmn:(if yr+2<lastY r then yr+2 else lastY r)=y0:=by rw[<- hy0];split <;> omega
 have hla:=fun w'=>Zkm r w'
 rw[hy0]
 obtain⟨res,hres⟩:∃ res,beIn (Zah l) nominal r i y0 20=res:=⟨_,rfl⟩
 rw[hres]
 have hon:=fun y w' (hw:Bel w.heap.size w w')=>Zgv A c l i y r w' (hG.up hw) (hA.up hw) hi hn hR
 obtain⟨hna,hca⟩:=hA.rd i _ hi
 generalize Zah l=least at *
 generalize lastY r=ly at *
 clear hy0
 obtain⟨nm,fr,to,mo,⟨dk,dw,dd⟩,⟨cs,cb⟩,sv,le⟩:=r
 change Zal w _ [.string nm,.int .i64 fr,.int .i64 to,.int .i64 mo,.int .i64 dk,.int .i64 dw,.int .i64 dd,.int .i64 cs,.int .i64 cb,.int .i64 sv,.string le]at hca
 refine Zaa Tryz.func59 rfl rfl rfl rfl ?_
 repeat (first|(apply RL_pu;rfl;exact ZvK)|(apply RD_Q;rfl;rfl;decide +kernel;rfl;rfl;exact Zx2)|refine walk1 ?_|(refine jg ?_;(try intro F);(first|(refine Zac (fun w' _=>hla w') ?_)|(refine bx ?_;intro bk)|(refine stA ?_));first|refine⟨_,EndsA,Zx9,?_⟩|refine fin ?_)|(refine jn ?_;(try intro F);(first|(refine bx ?_;intro bk)|(refine stA ?_)|(apply Zae;first|exact ZvK|exact PuA));first|refine⟨_,EndsA,Zx9,?_⟩|refine fin ?_)|(apply RD_W;rfl;intro bk))
 refine Zao [(0,.int .i64 i),(1,.pointer (some ⟨b1,0,none⟩)),(2,.pointer (some ⟨b2,0,none⟩)),(3,.pointer (some ⟨b3,0,none⟩)),(7,.int .i64 y0),(5,.pointer (some ⟨bk,0,none⟩))] [.blk bk [.int .i64 0,.int .i64 0,.int .i64 0] 92] (fun j:Nat=>[(19,.int .i64 j)]) (fun _=>[]) (fun j=>j<=20/\beIn least nominal ⟨nm,fr,to,mo,⟨dk,dw,dd⟩,⟨cs,cb⟩,sv,le⟩ i (y0 - j) (20 - j)=res) (fun j=>20 - j) 0 SFA SOA ⟨Nat.zero_le _,by simpa using hres⟩ ?_
 rintro j ⟨hj,hi2⟩
 repeat (first|refine walk ?_|(refine jn ?_;(try intro F);(first|(refine bx ?_;intro bk)|(refine stA ?_)|(apply Zae;exact PuA));refine fin ?_)|(apply RD_W;rfl;intro bk))
 refine Zaf rfl (fun h=>?_) (fun h=>?_)
 ·have hj20:j<20:=by have:=of_decide_eq_true h;omega
  rw[show 20 - j=(19 - j)+1 by omega,beIn]at hi2
  have ho:=hon (y0 - j)
  generalize onR least _ i (y0 - j)=o at *
  cases o with
  | none =>
   simp only[evV,Zad.enc,dEv0,Option.isSome]at ho
   repeat (first|(apply RL_pu;rfl;exact ZqN)|(apply RD_Q;rfl;rfl;decide +kernel;rfl;rfl;exact QyBfA1)|refine walk1 ?_|(refine jg ?_;(try intro F);(first|(refine Zac ho ?_)|(refine bx ?_;intro bk)|(refine stA ?_));first|refine⟨_,EndsA,QFBfA1,?_⟩|refine fin ?_)|(refine jn ?_;(try intro F);(first|(refine bx ?_;intro bk)|(refine stA ?_)|(apply Zae;first|exact ZqN|exact PuA));first|refine⟨_,EndsA,QFBfA1,?_⟩|refine fin ?_)|(apply RD_W;rfl;intro bk))
   exact⟨j+1,OA,⟨OA,by rw[show 20 - (j+1)=19 - j by omega,show y0 - ((j+1:Nat):Int)=y0 - j - 1 by omega];exact hi2⟩,SFA,SOA⟩
  | some e =>
   obtain⟨ey,er,en⟩:=e
   simp only[evV,Zad.enc,Option.isSome]at ho hi2
   repeat (first|(apply RL_pu;rfl;exact ZqN)|(apply RD_Q;rfl;rfl;decide +kernel;rfl;rfl;exact QyBfA1)|refine walk1 ?_|(refine jg ?_;(try intro F);(first|(refine Zac ho ?_)|(refine bx ?_;intro bk)|(refine stA ?_));first|refine⟨_,EndsA,QFBfA1,?_⟩|refine fin ?_)|(refine jn ?_;(try intro F);(first|(refine bx ?_;intro bk)|(refine stA ?_)|(apply Zae;first|exact ZqN|exact PuA));first|refine⟨_,EndsA,QFBfA1,?_⟩|refine fin ?_)|(apply RD_W;rfl;intro bk))
   refine Zaf rfl (fun h2=>?_) (fun h2=>?_)
   ·rw[if_pos (of_decide_eq_true h2)]at hi2
    subst hi2
    repeat (first|refine walk ?_|(refine jn ?_;(try intro F);(first|(refine bx ?_;intro bk)|(refine stA ?_)|(apply Zae;exact PuA));refine fin ?_)|(apply RD_W;rfl;intro bk))
    exact rtC
   ·rw[if_neg (of_decide_eq_false h2)]at hi2
    repeat (first|refine walk ?_|(refine jn ?_;(try intro F);(first|(refine bx ?_;intro bk)|(refine stA ?_)|(apply Zae;exact PuA));refine fin ?_)|(apply RD_W;rfl;intro bk))
    exact⟨j+1,OA,⟨OA,by rw[show 20 - (j+1)=19 - j by omega,show y0 - ((j+1:Nat):Int)=y0 - j - 1 by omega];exact hi2⟩,SFA,SOA⟩
 ·obtain rfl:j=20:=by have:=of_decide_eq_false h;omega
  obtain rfl:none=res:=by rw[<- hi2];rfl
  repeat (first|refine walk ?_|(refine jn ?_;(try intro F);(first|(refine bx ?_;intro bk)|(refine stA ?_)|(apply Zae;exact PuA));refine fin ?_)|(apply RD_W;rfl;intro bk))
  exact rtC
theorem Znn (a b:Zad)(w:World):Does Tryz.prog 62 [.agg (Zad.enc a).toArray,.agg (Zad.enc b).toArray] w (fun v O=>v = .int .i64 (ordE b a)/\O=[]):=by
 have h:=fun w'=>Zkc b a w'
 obtain⟨y,r,n⟩:=a
 obtain⟨y2,r2,n2⟩:=b
 show Does _ _ [.agg #[.int .i64 y,.int .i64 r,.int .i64 n],.agg #[.int .i64 y2,.int .i64 r2,.int .i64 n2]] w _
 refine Zaa Tryz.func62 rfl rfl rfl rfl ?_
 repeat (first|(refine js ?_;(first|(refine Zac (fun w' _=>h w') ?_)|(refine bx ?_;intro bk)))|refine walk ?_)
 exact rtA
theorem ZrW (A:Option Addr)(c:Nat)(l:List Zab)(yr nominal:Int)(b1 b2 b3:Nat)(w:World)(hG:Glob w)(hA:RdSl w A c Zab.enc 11 l)(hn:l.length<=1000000)(hR:∀ r∈l,(-4611686018427387904<=r.save/\r.save<=4611686018427387904)/\(r.from_<=4611686018427387904/\-4611686018427387904<=r.to))
  (hy : -2000000000<=yr/\yr<=2000000000) (c1:Zal w ⟨b1,0,none⟩ [.slice A l.length c]) (c2:Zal w ⟨b2,0,none⟩ [.int .i64 yr]) (c3:Zal w ⟨b3,0,none⟩ [.int .i64 nominal]) :
  Does Tryz.prog 58 [.slice A l.length c,.func (.func 59) #[] #[.pointer (some ⟨b1,0,none⟩),.pointer (some ⟨b2,0,none⟩),.pointer (some ⟨b3,0,none⟩)],.func (.func 62) #[] #[]] w
   (fun v O=>v = .tuple #[evV (Zem (Zah l) nominal yr l 0 none),.bool (Zem (Zah l) nominal yr l 0 none).isSome]/\O=[]):=by
 have haf:=fun(i:Nat) r (hi:l[i]?=some r) w' (hw:Bel w.heap.size w w')=>Zno A c l i r yr nominal b1 b2 b3 w' (hG.up hw) (hA.up hw) hi hn (fun r hr=>(hR r hr).1) hy (hR r (List.mem_of_getElem? hi)).2.2 (c1.up hw (Nat.le_refl _)) (c2.up hw (Nat.le_refl _)) (c3.up hw (Nat.le_refl _))
 obtain⟨res,hres⟩:∃ res,Zem (Zah l) nominal yr l 0 none=res:=⟨_,rfl⟩
 rw[hres]
 generalize Zah l=least at *
 clear hA hR c1 c2 c3
 refine Zaa Tryz.func58 rfl rfl rfl rfl ?_
 repeat (first|(refine js ?_;(refine bx ?_;intro bk))|refine walk ?_)
 rename_i b6
 refine Zao [(13,.slice A l.length c),(1,.func (.func 59) #[] #[.pointer (some ⟨b1,0,none⟩),.pointer (some ⟨b2,0,none⟩),.pointer (some ⟨b3,0,none⟩)]),(2,.func (.func 62) #[] #[]),(8,.pointer (some ⟨bk,0,none⟩)),(6,.pointer (some ⟨b6,0,none⟩)),(14,.int .i64 l.length)] [.blk b6 [.int .i64 0,.int .i64 0,.int .i64 0] 92]
  (fun g:BG=>[(15,.int .i64 g.k),(9,.bool g.b.isSome)]) (fun g=>[.blk bk (evC g.b) 92]) (fun g=>g.k<=l.length/\Zem least nominal yr (l.drop g.k) g.k g.b=res) (fun g=>l.length - g.k) ⟨0,none⟩ SFA SOA ⟨Nat.zero_le _,hres⟩ ?_
 rintro⟨k,b⟩ ⟨hk,hi⟩
 dsimp only at hk hi ⊢
 repeat (first|(refine js ?_;(refine bx ?_;intro bk))|refine walk ?_)
 refine Zaf rfl (fun h=>?_) (fun h=>?_)
 ·have hlt:k<l.length:=by simpa using h
  have ho:=haf k _ (List.getElem?_eq_getElem hlt)
  rw[Zap hlt,Zem]at hi
  generalize beIn least nominal l[k] k (min (lastY l[k]) (yr+2)) 20=o at *
  have hord:=fun e e2 w'=>Znn e e2 w'
  rcases o with _|⟨ey,er,en⟩ <;> rcases b with _|⟨by_,br,bn⟩ <;> simp only[evV,evC,Zad.enc,dEv0,Option.isSome]at ho hi ⊢
  ·repeat (first|refine und ?_|(refine js ?_;(first|(apply Zar (f:=59) (us:=[]) (vs:=[.int .i64 k]) (cs:=[.pointer (some ⟨b1,0,none⟩),.pointer (some ⟨b2,0,none⟩),.pointer (some ⟨b3,0,none⟩)]) (h:=fun w' hw _=>ho w' hw);rfl;rfl;rintro v O' ⟨rfl,rfl⟩)|(refine bx ?_;intro bk)))|refine walk ?_)
   exact⟨⟨k+1,none⟩,OA,⟨OA,hi⟩,SFA,SOA⟩
  ·repeat (first|refine und ?_|(refine js ?_;(first|(apply Zar (f:=59) (us:=[]) (vs:=[.int .i64 k]) (cs:=[.pointer (some ⟨b1,0,none⟩),.pointer (some ⟨b2,0,none⟩),.pointer (some ⟨b3,0,none⟩)]) (h:=fun w' hw _=>ho w' hw);rfl;rfl;rintro v O' ⟨rfl,rfl⟩)|(refine bx ?_;intro bk)))|refine walk ?_)
   exact⟨⟨k+1,some ⟨by_,br,bn⟩⟩,OA,⟨OA,hi⟩,SFA,SOA⟩
  ·repeat (first|refine und ?_|(refine js ?_;(first|(apply Zar (f:=59) (us:=[]) (vs:=[.int .i64 k]) (cs:=[.pointer (some ⟨b1,0,none⟩),.pointer (some ⟨b2,0,none⟩),.pointer (some ⟨b3,0,none⟩)]) (h:=fun w' hw _=>ho w' hw);rfl;rfl;rintro v O' ⟨rfl,rfl⟩)|(refine bx ?_;intro bk)))|refine walk ?_)
   exact⟨⟨k+1,some ⟨ey,er,en⟩⟩,OA,⟨OA,hi⟩,SFA,SOA⟩
  ·repeat (first|refine und ?_|(refine js ?_;(first|(apply Zar (f:=59) (us:=[]) (vs:=[.int .i64 k]) (cs:=[.pointer (some ⟨b1,0,none⟩),.pointer (some ⟨b2,0,none⟩),.pointer (some ⟨b3,0,none⟩)]) (h:=fun w' hw _=>ho w' hw);rfl;rfl;rintro v O' ⟨rfl,rfl⟩)|(apply Zar (f:=62) (us:=[]) (cs:=[]) (vs:=[.agg #[.int .i64 ey,.int .i64 er,.int .i64 en],.agg #[.int .i64 by_,.int .i64 br,.int .i64 bn]]) (h:=fun w' hw _=>hord ⟨ey,er,en⟩ ⟨by_,br,bn⟩ w');rfl;rfl;rintro v O' ⟨rfl,rfl⟩)|(refine bx ?_;intro bk)))|refine walk ?_)
   refine Zaf rfl (fun h2=>?_) (fun h2=>?_)
   ·rw[if_pos (of_decide_eq_true h2)]at hi
    repeat (first|(refine js ?_;(refine bx ?_;intro bk))|refine walk ?_)
    exact⟨⟨k+1,some ⟨ey,er,en⟩⟩,OA,⟨OA,hi⟩,SFA,SOA⟩
   ·rw[if_neg (of_decide_eq_false h2)]at hi
    repeat (first|(refine js ?_;(refine bx ?_;intro bk))|refine walk ?_)
    exact⟨⟨k+1,some ⟨by_,br,bn⟩⟩,OA,⟨OA,hi⟩,SFA,SOA⟩
 ·obtain rfl:k=l.length:=by have:=of_decide_eq_false h;omega
  rw[List.drop_length,Zem]at hi
  subst hi
  rcases b with _|⟨by_,br,bn⟩ <;> simp only[evC,Zad.enc,dEv0]
  ·repeat (first|(refine js ?_;(refine bx ?_;intro bk))|refine walk ?_)
   exact rtC
  ·repeat (first|(refine js ?_;(refine bx ?_;intro bk))|refine walk ?_)
   exact rtC
def ZzN (l:List Zab):Prop:=∀ r∈l,(-4611686018427387904<=r.save/\r.save<=4611686018427387904)/\(r.from_<=4611686018427387904/\-4611686018427387904<=r.to)
theorem Zeg (A:Option Addr)(c:Nat)(l:List Zab)(nominal:Int)(w:World)(hG:Glob w)(hA:RdSl w A c Zab.enc 11 l)(hn:l.length<=1000000)(hR:ZzN l)(ht : -4611686018427387904<=nominal/\nominal<=4611686018427387904) :
  Does Tryz.prog 24 [.slice A l.length c,.int .i64 nominal] w (fun v O=>v = .tuple #[evV (befD l nominal),.bool (befD l nominal).isSome]/\O=[]):=by
 have hb:=fun(b1 b2 b3:Nat) w' (hw:Bel w.heap.size w w') c1 c2 c3=>ZrW A c l (ZaA nominal) nominal b1 b2 b3 w' (hG.up hw) (hA.up hw) hn hR (ZlU nominal) c1 c2 c3
 change ∀ (b1 b2 b3:Nat) w' (hw:Bel w.heap.size w w') c1 c2 c3,Does _ _ _ w' (fun v O=>v = .tuple #[evV (befD l nominal),.bool (befD l nominal).isSome]/\O=[]) at hb
 have hyr:=fun w' (hw:Bel w.heap.size w w')=>Zh8 nominal ht w' (hG.up hw)
 generalize befD l nominal=res at *
 generalize ZaA nominal=yr at *
 refine Zaa Tryz.func24 rfl rfl rfl rfl ?_
 rcases res with _|⟨ey,er,en⟩ <;> simp only[evV,Zad.enc,dEv0,Option.isSome]at hb ⊢
 ·repeat (first|(refine js ?_;(first|(refine Zac hyr ?_)|(apply Zag (h:=fun w' hw hH=>hb _ _ _ w' hw (hH.cells (by repeat' constructor)) (hH.cells (by repeat' constructor)) (hH.cells (by repeat' constructor)));rfl;rintro v O' ⟨rfl,rfl⟩)|(refine bx ?_;intro bk)))|refine walk ?_)
  exact rtC
 ·repeat (first|(refine js ?_;(first|(refine Zac hyr ?_)|(apply Zag (h:=fun w' hw hH=>hb _ _ _ w' hw (hH.cells (by repeat' constructor)) (hH.cells (by repeat' constructor)) (hH.cells (by repeat' constructor)));rfl;rintro v O' ⟨rfl,rfl⟩)|(refine bx ?_;intro bk)))|refine walk ?_)
  exact rtC
end Go.Proofs.YtdlmhmmhdbbliaaGreatDoor
