/- Parts of the proof. -/
import Derived.Sort.LotA
import Derived.Test.YtbjomhdhkpgbaaaGreatDoorV06
import Derived.Test.YtbjomhdhkpgbaaaGreatDoorV12
import Derived.Test.YtbjomhdhkpgbaaaGreatDoorV09
import Derived.Test.YtbjomhdhkpgbaaaGreatDoorV14
import Derived.Test.YtbjomhdhkpgbaaaGreatDoorV15
set_option maxHeartbeats 4000000
set_option linter.unusedVariables false
set_option linter.unusedSimpArgs false
namespace Go.Proofs.YtbjomhdhkpgbaaaGreatDoor
open Go Go.RowKit Go.Wk
theorem Zhv (a b:Zaf):ordE a b<0↔a.nominal<b.nominal\/(a.nominal=b.nominal/\(a.rule<b.rule\/(a.rule=b.rule/\a.year<b.year))):=by
 unfold ordE
 repeat' split
 all_goals omega
def ltE (x y:Zaf):Bool:=decide (ordE x y<0)
theorem swoE:Go.Sort.SWO ltE where
 irrefl x:=by simp only[ltE,Zhv,decide_eq_false_iff_not];omega
 trans x y z h1 h2:=by simp only[ltE,Zhv,decide_eq_true_eq]at *;omega
 ntrans x y z h1 h2:=by simp only[ltE,Zhv,decide_eq_false_iff_not]at *;omega
theorem totE (x y:Zaf)(h1:ltE x y=false)(h2:ltE y x=false):x=y:=by
 simp only[ltE,Zhv,decide_eq_false_iff_not]at h1 h2
 obtain⟨a,b,c⟩:=x
 obtain⟨d,e,f⟩:=y
 simp only[Zaf.mk.injEq]
 simp only at h1 h2
 omega
def Zel (least y:Int):List Zab->Nat->List Zaf
 | [],_=>[]
 | r::l,i=>(onR least r i y).toList++Zel least y l (i+1)
def allC (l:List Zab)(least from_:Int):Nat->List Zaf
 | 0=>[]
 | k+1=>allC l least from_ k++Zel least (from_+k) l 0
def insF (a:List Zaf)(e:Zaf):List Zaf:=insE e a
theorem Zho (least y:Int):∀ (l:List Zab) (i:Nat) (acc:List Zaf),Ze4 least y l i acc=(Zel least y l i).foldl insF acc
 | [],_,_=>rfl
 | r::l,i,acc=>by
  rw[Ze4,Zel,Zho least y l]
  cases onR least r i y with
  | none=>rfl
  | some e=>rfl
theorem Zje (e:Zaf):∀ l,(insE e l).Perm (e::l)
 | [] => .refl _
 | x::l=>by
  rw[insE]
  split
  ·exact .refl _
  ·exact((Zje e l).cons x).trans (.swap _ _ _)
theorem ZnK:∀ (xs acc:List Zaf),(xs.foldl insF acc).Perm (xs++acc)
 | [],_ => .refl _
 | x::xs,acc=>by
  rw[List.foldl_cons]
  refine(ZnK xs _).trans ?_
  refine((Zje x acc).append_left xs).trans ?_
  exact List.perm_middle
theorem ZeL (l:List Zab)(least from_:Int):∀ k,(ZdR l least from_ k).Perm (allC l least from_ k)
 | 0 => .refl _
 | k+1=>by
  rw[ZdR,allC,Zho]
  refine(ZnK _ _).trans ?_
  refine List.perm_append_comm.trans ?_
  exact(ZeL l least from_ k).append_right _
def ZtD (l:List Zaf):Prop:=l.Pairwise fun a b=>ltE a b=false
theorem ZnM (e:Zaf):∀ l,ZtD l->ZtD (insE e l)
 | [],_=>List.pairwise_singleton _ _
 | x::l,h=>by
  obtain⟨h1,h2⟩:=List.pairwise_cons.1 h
  rw[insE]
  split
  ·rename_i hlt
   have hx:ltE x e=true:=decide_eq_true hlt
   have hex:ltE e x=false:=by
    cases h3:ltE e x
    ·rfl
    ·have:=swoE.trans x e x hx h3
     rw[swoE.irrefl]at this
     cases this
   refine List.pairwise_cons.2 ⟨fun b hb=>?_,h⟩
   rcases List.mem_cons.1 hb with rfl|hb
   ·exact hex
   ·exact swoE.ntrans e x b hex (h1 b hb)
  ·rename_i hlt
   have hx:ltE x e=false:=decide_eq_false hlt
   refine List.pairwise_cons.2 ⟨fun b hb=>?_,ZnM e l h2⟩
   rcases List.mem_cons.1 ((Zje e l).mem_iff.1 hb) with rfl|hb
   ·exact hx
   ·exact h1 b hb
theorem ZnL:∀ (xs acc:List Zaf),ZtD acc->ZtD (xs.foldl insF acc)
 | [],_,h=>h
 | x::xs,acc,h=>ZnL xs _ (ZnM x acc h)
theorem Zgx (l:List Zab)(least from_:Int):∀ k,ZtD (ZdR l least from_ k)
 | 0=>List.Pairwise.nil
 | k+1=>by
  rw[ZdR,Zho]
  exact ZnL _ _ (Zgx l least from_ k)
theorem ZxS (l:List Zab)(least from_:Int)(k:Nat):(allC l least from_ k).mergeSort (fun x y => !ltE y x)=(ZdR l least from_ k).reverse:=by
 refine List.Perm.eq_of_pairwise (le:=fun x y=>(!ltE y x)=true) ?_ ?_ ?_ ?_
 ·intro a b _ _ h1 h2
  simp only[Bool.not_eq_true']at h1 h2
  exact totE a b h2 h1
 ·refine List.pairwise_mergeSort ?_ ?_ _
  ·intro a b c h1 h2
   simp only[Bool.not_eq_true']at h1 h2 ⊢
   exact swoE.ntrans c b a h2 h1
  ·intro a b
   cases h:ltE b a with
   | false=>simp
   | true =>
    have:ltE a b=false:=by
     cases h3:ltE a b
     ·rfl
     ·have:=swoE.trans a b a h3 h
      rw[swoE.irrefl]at this
      cases this
    simp[this]
 ·rw[List.pairwise_reverse]
  exact(Zgx l least from_ k).imp fun h=>by rw[h];rfl
 ·exact(List.mergeSort_perm _ _).trans ((ZeL l least from_ k).symm.trans (List.reverse_perm _).symm)
def Zdb:List Zaf->Option Zaf
 | a::b::l=>if b.nominal - a.nominal<259200 then some b else Zdb (b::l)
 | _=>none
theorem ZjQ (x y:Zaf):∀ l:List Zaf,Zdb (l++[x,y])=(Zdb (l++[x])).or (if y.nominal - x.nominal<259200 then some y else none)
 | []=>by simp[Zdb]
 | [a]=>by
  simp only[List.cons_append,List.nil_append,Zdb]
  by_cases h:x.nominal - a.nominal<259200 <;> simp[h]
 | a::b::l=>by
  have ih:=ZjQ x y (b::l)
  simp only[List.cons_append,Zdb]at ih ⊢
  by_cases h:b.nominal - a.nominal<259200
  ·simp[h]
  ·simp only[if_neg h]
   exact ih
theorem Zk8:∀ l:List Zaf,Zdb l.reverse=Zh9 l
 | []=>rfl
 | [_]=>rfl
 | a::b::l=>by
  have ih:=Zk8 (b::l)
  rw[List.reverse_cons]at ih
  rw[Zh9,<- ih,List.reverse_cons,List.reverse_cons,List.append_assoc]
  exact ZjQ b a l.reverse
theorem Zog (l:List Zab):Zdb ((allC l (Zaj l) 1850 701).mergeSort fun x y => !ltE y x)=Zgb l:=by
 rw[ZxS,Zk8];rfl
end Go.Proofs.YtbjomhdhkpgbaaaGreatDoor
namespace Go.Wk
open Go Go.RowKit
def beIn (least nominal:Int)(r:Zab)(i y:Int):Nat->Option Zaf
 | 0=>none
 | k+1=>match onR least r i y with
  | some e=>if e.nominal<nominal then some e else beIn least nominal r i (y - 1) k
  | none=>beIn least nominal r i (y - 1) k
def Ze0 (least nominal yr:Int):List Zab->Nat->Option Zaf->Option Zaf
 | [],_,best=>best
 | r::l,i,best =>
  Ze0 least nominal yr l (i+1) (match beIn least nominal r i (min (lastY r) (yr+2)) 20 with
   | none=>best
   | some e=>match best with|none=>some e|some b=>if ordE b e<0 then some e else some b)
def befD (l:List Zab)(nominal:Int):Option Zaf:=Ze0 (Zaj l) nominal (Zd6 nominal) l 0 none
def fiIn (least:Int)(r:Zab)(i y:Int):Nat->Option Zaf
 | 0=>none
 | k+1=>match onR least r i y with
  | some e=>some e
  | none=>fiIn least r i (y+1) k
def firL (least:Int):List Zab->Nat->List Zaf
 | [],_=>[]
 | r::l,i=>(fiIn least r i (max r.from_ (-2000000000)) 9).toList++firL least l (i+1)
def dR0:Zab:=⟨ByteArray.empty,0,0,0,⟨0,0,0⟩,⟨0,0⟩,0,ByteArray.empty⟩
def ruE (l:List Zab)(e:Zaf):Zab:=l.getD e.rule.toNat dR0
def fstB (l:List Zab)(all:Bool)(but:Int)(best:Option Zaf)(e:Zaf):Option Zaf :=
 if (!all&&decide ((ruE l e).save=but))||(match best with|some b=>decide (b.nominal<=e.nominal)|none=>false) then best else some e
def fstD (l:List Zab)(all:Bool)(but:Int):Option Zaf:=(firL (Zaj l) l 0).foldl (fstB l all but) none
def behS (l:List Zab)(e:Zaf):Int × ByteArray:=((ruE l e).save,(ruE l e).letter)
def iniS (l:List Zab):Int × ByteArray :=
 match fstD l true 0 with
 | none=>(0,ByteArray.empty)
 | some e=>match fstD l false (ruE l e).save with
  | some o=>behS l o
  | none=>behS l e
def befS (l:List Zab)(nominal:Int):Int × ByteArray :=
 match befD l nominal with
 | some e=>behS l e
 | none=>iniS l
def ZpI (l:List Zab)(e:Zaf)(off:Int):Int :=
 if (ruE l e).at_.base=1 then e.nominal - max (Zaj l) (-10800) - off
 else if (ruE l e).at_.base=0 then e.nominal - (befS l e.nominal).1 - off
 else e.nominal
end Go.Wk
namespace Go.Proofs.YtbjomhdhkpgbaaaGreatDoor
open Go Go.RowKit Go.Wk
attribute [local irreducible] W RL Does Zar Zal retQ Calls Pu Stp RD Qy Ay Zak
theorem Zxl {G:Prop}(h:G:=by(first|exact PuI|(apply Pu_loadO1;rfl;first|exact c1 0 _ rfl|exact c2 0 _ rfl|exact c3 0 _ rfl)|(apply Zj5;rfl;rfl;exact hmn))):G:=h
theorem ZzZ {G:Prop}(h:G:=by first|(apply Qy_y;rfl;exact Zxl)|exact QyA):G:=h
theorem Zz4 {G:Prop}(h:G:=by repeat (first|exact QF.nil|(apply QF.mk;rfl;rfl;decide +kernel;exact ZzZ))):G:=h
theorem Zsj {G:Prop}(h:G:=by(apply Pu_loadO1;rfl;first|exact c1 0 _ rfl|exact c2 0 _ rfl|exact c3 0 _ rfl)):G:=h
theorem Zof (A:Option Addr)(c:Nat)(l:List Zab)(i:Nat)(r:Zab)(yr nominal:Int)(b1 b2 b3:Nat)(w:World)(hG:Glob w)(hA:RdSl w A c Zab.enc 11 l)(hi:l[i]?=some r)(hn:l.length<=1000000)(hR:∀ r∈l,-4611686018427387904<=r.save/\r.save<=4611686018427387904)
  (hy : -2000000000<=yr/\yr<=2000000000) (hf : -4611686018427387904<=r.to) (c1:Zam w ⟨b1,0,none⟩ [.slice A l.length c]) (c2:Zam w ⟨b2,0,none⟩ [.int .i64 yr]) (c3:Zam w ⟨b3,0,none⟩ [.int .i64 nominal]) :
  Does Tryz.prog 267 [.int .i64 i,.pointer (some ⟨b1,0,none⟩),.pointer (some ⟨b2,0,none⟩),.pointer (some ⟨b3,0,none⟩)] w (fun v O=>v = .tuple #[evV (beIn (Zaj l) nominal r i (min (lastY r) (yr+2)) 20),.bool (beIn (Zaj l) nominal r i (min (lastY r) (yr+2)) 20).isSome]/\O=[]):=by
 have hlt:i<l.length:=(List.getElem?_eq_some_iff.1 hi).1
 obtain⟨y0,hy0⟩:∃ y0,min (lastY r) (yr+2)=y0:=⟨_,rfl⟩
 have hlb : -4611686018427387904<=lastY r/\lastY r<=2000000000:=by
  unfold lastY
  split <;> omega
 have hyb : -4611686018427387904<=y0/\y0<=2000000002:=by omega
 have hmn:(if yr+2<lastY r then yr+2 else lastY r)=y0:=by rw[<- hy0];split <;> omega
 have hla:=fun w'=>ZkX r w'
 rw[hy0]
 obtain⟨res,hres⟩:∃ res,beIn (Zaj l) nominal r i y0 20=res:=⟨_,rfl⟩
 rw[hres]
 have hon:=fun y w' (hw:Bel w.heap.size w w')=>ZgY A c l i y r w' (hG.up hw) (hA.up hw) hi hn hR
 obtain⟨hna,hca⟩:=hA.rd i _ hi
 generalize Zaj l=least at *
 generalize lastY r=ly at *
 clear hy0
 obtain⟨nm,fr,to,mo,⟨dk,dw,dd⟩,⟨cs,cb⟩,sv,le⟩:=r
 change Zam w _ [.string nm,.int .i64 fr,.int .i64 to,.int .i64 mo,.int .i64 dk,.int .i64 dw,.int .i64 dd,.int .i64 cs,.int .i64 cb,.int .i64 sv,.string le]at hca
 refine Zaa Tryz.func267 rfl rfl rfl rfl ?_
 repeat (first|(apply RL_pu;rfl;exact Zxl)|(apply RD_Q;rfl;rfl;decide +kernel;rfl;rfl;exact ZzZ)|refine walk1 ?_|(refine jg ?_;(try intro F);(first|(refine Zae (fun w' _=>hla w') ?_)|(refine bx ?_;intro bk)|(refine stA ?_));first|refine⟨_,EndsA,Zz4,?_⟩|refine fin ?_)|(refine jn ?_;(try intro F);(first|(refine bx ?_;intro bk)|(refine stA ?_)|(apply Zag;first|exact Zxl|exact PuA));first|refine⟨_,EndsA,Zz4,?_⟩|refine fin ?_)|(apply RD_W;rfl;intro bk))
 refine Zaq [(0,.int .i64 i),(1,.pointer (some ⟨b1,0,none⟩)),(2,.pointer (some ⟨b2,0,none⟩)),(3,.pointer (some ⟨b3,0,none⟩)),(7,.int .i64 y0),(5,.pointer (some ⟨bk,0,none⟩))] [.blk bk [.int .i64 0,.int .i64 0,.int .i64 0] 170] (fun j:Nat=>[(19,.int .i64 j)]) (fun _=>[]) (fun j=>j<=20/\beIn least nominal ⟨nm,fr,to,mo,⟨dk,dw,dd⟩,⟨cs,cb⟩,sv,le⟩ i (y0 - j) (20 - j)=res) (fun j=>20 - j) 0 SFA SOA ⟨Nat.zero_le _,by simpa using hres⟩ ?_
 rintro j ⟨hj,hi2⟩
 repeat (first|refine walk ?_|(refine jn ?_;(try intro F);(first|(refine bx ?_;intro bk)|(refine stA ?_)|(apply Zag;exact PuA));refine fin ?_)|(apply RD_W;rfl;intro bk))
 refine Zah rfl (fun h=>?_) (fun h=>?_)
 ·have hj20:j<20:=by have:=of_decide_eq_true h;omega
  rw[show 20 - j=(19 - j)+1 by omega,beIn]at hi2
  have ho:=hon (y0 - j)
  generalize onR least _ i (y0 - j)=o at *
  cases o with
  | none =>
   simp only[evV,Zaf.enc,dEv0,Option.isSome]at ho
   repeat (first|(apply RL_pu;rfl;exact Zsj)|(apply RD_Q;rfl;rfl;decide +kernel;rfl;rfl;exact QyBfA1)|refine walk1 ?_|(refine jg ?_;(try intro F);(first|(refine Zae ho ?_)|(refine bx ?_;intro bk)|(refine stA ?_));first|refine⟨_,EndsA,QFBfA1,?_⟩|refine fin ?_)|(refine jn ?_;(try intro F);(first|(refine bx ?_;intro bk)|(refine stA ?_)|(apply Zag;first|exact Zsj|exact PuA));first|refine⟨_,EndsA,QFBfA1,?_⟩|refine fin ?_)|(apply RD_W;rfl;intro bk))
   exact⟨j+1,OA,⟨OA,by rw[show 20 - (j+1)=19 - j by omega,show y0 - ((j+1:Nat):Int)=y0 - j - 1 by omega];exact hi2⟩,SFA,SOA⟩
  | some e =>
   obtain⟨ey,er,en⟩:=e
   simp only[evV,Zaf.enc,Option.isSome]at ho hi2
   repeat (first|(apply RL_pu;rfl;exact Zsj)|(apply RD_Q;rfl;rfl;decide +kernel;rfl;rfl;exact QyBfA1)|refine walk1 ?_|(refine jg ?_;(try intro F);(first|(refine Zae ho ?_)|(refine bx ?_;intro bk)|(refine stA ?_));first|refine⟨_,EndsA,QFBfA1,?_⟩|refine fin ?_)|(refine jn ?_;(try intro F);(first|(refine bx ?_;intro bk)|(refine stA ?_)|(apply Zag;first|exact Zsj|exact PuA));first|refine⟨_,EndsA,QFBfA1,?_⟩|refine fin ?_)|(apply RD_W;rfl;intro bk))
   refine Zah rfl (fun h2=>?_) (fun h2=>?_)
   ·rw[if_pos (of_decide_eq_true h2)]at hi2
    subst hi2
    repeat (first|refine walk ?_|(refine jn ?_;(try intro F);(first|(refine bx ?_;intro bk)|(refine stA ?_)|(apply Zag;exact PuA));refine fin ?_)|(apply RD_W;rfl;intro bk))
    exact rtC
   ·rw[if_neg (of_decide_eq_false h2)]at hi2
    repeat (first|refine walk ?_|(refine jn ?_;(try intro F);(first|(refine bx ?_;intro bk)|(refine stA ?_)|(apply Zag;exact PuA));refine fin ?_)|(apply RD_W;rfl;intro bk))
    exact⟨j+1,OA,⟨OA,by rw[show 20 - (j+1)=19 - j by omega,show y0 - ((j+1:Nat):Int)=y0 - j - 1 by omega];exact hi2⟩,SFA,SOA⟩
 ·obtain rfl:j=20:=by have:=of_decide_eq_false h;omega
  obtain rfl:none=res:=by rw[<- hi2];rfl
  repeat (first|refine walk ?_|(refine jn ?_;(try intro F);(first|(refine bx ?_;intro bk)|(refine stA ?_)|(apply Zag;exact PuA));refine fin ?_)|(apply RD_W;rfl;intro bk))
  exact rtC
theorem Zoe (a b:Zaf)(w:World):Does Tryz.prog 268 [.agg (Zaf.enc a).toArray,.agg (Zaf.enc b).toArray] w (fun v O=>v = .int .i64 (ordE b a)/\O=[]):=by
 have h:=fun w'=>ZkL b a w'
 obtain⟨y,r,n⟩:=a
 obtain⟨y2,r2,n2⟩:=b
 show Does _ _ [.agg #[.int .i64 y,.int .i64 r,.int .i64 n],.agg #[.int .i64 y2,.int .i64 r2,.int .i64 n2]] w _
 refine Zaa Tryz.func268 rfl rfl rfl rfl ?_
 repeat (first|(refine js ?_;(first|(refine Zae (fun w' _=>h w') ?_)|(refine bx ?_;intro bk)))|refine walk ?_)
 exact rtA
theorem Zts (A:Option Addr)(c:Nat)(l:List Zab)(yr nominal:Int)(b1 b2 b3:Nat)(w:World)(hG:Glob w)(hA:RdSl w A c Zab.enc 11 l)(hn:l.length<=1000000)(hR:∀ r∈l,(-4611686018427387904<=r.save/\r.save<=4611686018427387904)/\(r.from_<=4611686018427387904/\-4611686018427387904<=r.to))
  (hy : -2000000000<=yr/\yr<=2000000000) (c1:Zam w ⟨b1,0,none⟩ [.slice A l.length c]) (c2:Zam w ⟨b2,0,none⟩ [.int .i64 yr]) (c3:Zam w ⟨b3,0,none⟩ [.int .i64 nominal]) :
  Does Tryz.prog 211 [.slice A l.length c,.func (.func 267) #[] #[.pointer (some ⟨b1,0,none⟩),.pointer (some ⟨b2,0,none⟩),.pointer (some ⟨b3,0,none⟩)],.func (.func 268) #[] #[]] w
   (fun v O=>v = .tuple #[evV (Ze0 (Zaj l) nominal yr l 0 none),.bool (Ze0 (Zaj l) nominal yr l 0 none).isSome]/\O=[]):=by
 have haf:=fun(i:Nat) r (hi:l[i]?=some r) w' (hw:Bel w.heap.size w w')=>Zof A c l i r yr nominal b1 b2 b3 w' (hG.up hw) (hA.up hw) hi hn (fun r hr=>(hR r hr).1) hy (hR r (List.mem_of_getElem? hi)).2.2 (c1.up hw (Nat.le_refl _)) (c2.up hw (Nat.le_refl _)) (c3.up hw (Nat.le_refl _))
 obtain⟨res,hres⟩:∃ res,Ze0 (Zaj l) nominal yr l 0 none=res:=⟨_,rfl⟩
 rw[hres]
 generalize Zaj l=least at *
 clear hA hR c1 c2 c3
 refine Zaa Tryz.func211 rfl rfl rfl rfl ?_
 repeat (first|(refine js ?_;(refine bx ?_;intro bk))|refine walk ?_)
 rename_i b6
 refine Zaq [(13,.slice A l.length c),(1,.func (.func 267) #[] #[.pointer (some ⟨b1,0,none⟩),.pointer (some ⟨b2,0,none⟩),.pointer (some ⟨b3,0,none⟩)]),(2,.func (.func 268) #[] #[]),(8,.pointer (some ⟨bk,0,none⟩)),(6,.pointer (some ⟨b6,0,none⟩)),(14,.int .i64 l.length)] [.blk b6 [.int .i64 0,.int .i64 0,.int .i64 0] 170]
  (fun g:BG=>[(15,.int .i64 g.k),(9,.bool g.b.isSome)]) (fun g=>[.blk bk (evC g.b) 170]) (fun g=>g.k<=l.length/\Ze0 least nominal yr (l.drop g.k) g.k g.b=res) (fun g=>l.length - g.k) ⟨0,none⟩ SFA SOA ⟨Nat.zero_le _,hres⟩ ?_
 rintro⟨k,b⟩ ⟨hk,hi⟩
 dsimp only at hk hi ⊢
 repeat (first|(refine js ?_;(refine bx ?_;intro bk))|refine walk ?_)
 refine Zah rfl (fun h=>?_) (fun h=>?_)
 ·have hlt:k<l.length:=by simpa using h
  have ho:=haf k _ (List.getElem?_eq_getElem hlt)
  rw[Zao hlt,Ze0]at hi
  generalize beIn least nominal l[k] k (min (lastY l[k]) (yr+2)) 20=o at *
  have hord:=fun e e2 w'=>Zoe e e2 w'
  rcases o with _|⟨ey,er,en⟩ <;> rcases b with _|⟨by_,br,bn⟩ <;> simp only[evV,evC,Zaf.enc,dEv0,Option.isSome]at ho hi ⊢
  ·repeat (first|refine und ?_|(refine js ?_;(first|(apply Zap (f:=267) (us:=[]) (vs:=[.int .i64 k]) (cs:=[.pointer (some ⟨b1,0,none⟩),.pointer (some ⟨b2,0,none⟩),.pointer (some ⟨b3,0,none⟩)]) (h:=fun w' hw _=>ho w' hw);rfl;rfl;rintro v O' ⟨rfl,rfl⟩)|(refine bx ?_;intro bk)))|refine walk ?_)
   exact⟨⟨k+1,none⟩,OA,⟨OA,hi⟩,SFA,SOA⟩
  ·repeat (first|refine und ?_|(refine js ?_;(first|(apply Zap (f:=267) (us:=[]) (vs:=[.int .i64 k]) (cs:=[.pointer (some ⟨b1,0,none⟩),.pointer (some ⟨b2,0,none⟩),.pointer (some ⟨b3,0,none⟩)]) (h:=fun w' hw _=>ho w' hw);rfl;rfl;rintro v O' ⟨rfl,rfl⟩)|(refine bx ?_;intro bk)))|refine walk ?_)
   exact⟨⟨k+1,some ⟨by_,br,bn⟩⟩,OA,⟨OA,hi⟩,SFA,SOA⟩
  ·repeat (first|refine und ?_|(refine js ?_;(first|(apply Zap (f:=267) (us:=[]) (vs:=[.int .i64 k]) (cs:=[.pointer (some ⟨b1,0,none⟩),.pointer (some ⟨b2,0,none⟩),.pointer (some ⟨b3,0,none⟩)]) (h:=fun w' hw _=>ho w' hw);rfl;rfl;rintro v O' ⟨rfl,rfl⟩)|(refine bx ?_;intro bk)))|refine walk ?_)
   exact⟨⟨k+1,some ⟨ey,er,en⟩⟩,OA,⟨OA,hi⟩,SFA,SOA⟩
  ·repeat (first|refine und ?_|(refine js ?_;(first|(apply Zap (f:=267) (us:=[]) (vs:=[.int .i64 k]) (cs:=[.pointer (some ⟨b1,0,none⟩),.pointer (some ⟨b2,0,none⟩),.pointer (some ⟨b3,0,none⟩)]) (h:=fun w' hw _=>ho w' hw);rfl;rfl;rintro v O' ⟨rfl,rfl⟩)|(apply Zap (f:=268) (us:=[]) (cs:=[]) (vs:=[.agg #[.int .i64 ey,.int .i64 er,.int .i64 en],.agg #[.int .i64 by_,.int .i64 br,.int .i64 bn]]) (h:=fun w' hw _=>hord ⟨ey,er,en⟩ ⟨by_,br,bn⟩ w');rfl;rfl;rintro v O' ⟨rfl,rfl⟩)|(refine bx ?_;intro bk)))|refine walk ?_)
   refine Zah rfl (fun h2=>?_) (fun h2=>?_)
   ·rw[if_pos (of_decide_eq_true h2)]at hi
    repeat (first|(refine js ?_;(refine bx ?_;intro bk))|refine walk ?_)
    exact⟨⟨k+1,some ⟨ey,er,en⟩⟩,OA,⟨OA,hi⟩,SFA,SOA⟩
   ·rw[if_neg (of_decide_eq_false h2)]at hi
    repeat (first|(refine js ?_;(refine bx ?_;intro bk))|refine walk ?_)
    exact⟨⟨k+1,some ⟨by_,br,bn⟩⟩,OA,⟨OA,hi⟩,SFA,SOA⟩
 ·obtain rfl:k=l.length:=by have:=of_decide_eq_false h;omega
  rw[List.drop_length,Ze0]at hi
  subst hi
  rcases b with _|⟨by_,br,bn⟩ <;> simp only[evC,Zaf.enc,dEv0]
  ·repeat (first|(refine js ?_;(refine bx ?_;intro bk))|refine walk ?_)
   exact rtC
  ·repeat (first|(refine js ?_;(refine bx ?_;intro bk))|refine walk ?_)
   exact rtC
def ZCG (l:List Zab):Prop:=∀ r∈l,(-4611686018427387904<=r.save/\r.save<=4611686018427387904)/\(r.from_<=4611686018427387904/\-4611686018427387904<=r.to)
theorem ZgZ (A:Option Addr)(c:Nat)(l:List Zab)(nominal:Int)(w:World)(hG:Glob w)(hA:RdSl w A c Zab.enc 11 l)(hn:l.length<=1000000)(hR:ZCG l)(ht : -4611686018427387904<=nominal/\nominal<=4611686018427387904) :
  Does Tryz.prog 229 [.slice A l.length c,.int .i64 nominal] w (fun v O=>v = .tuple #[evV (befD l nominal),.bool (befD l nominal).isSome]/\O=[]):=by
 have hb:=fun(b1 b2 b3:Nat) w' (hw:Bel w.heap.size w w') c1 c2 c3=>Zts A c l (Zd6 nominal) nominal b1 b2 b3 w' (hG.up hw) (hA.up hw) hn hR (ZmH nominal) c1 c2 c3
 change ∀ (b1 b2 b3:Nat) w' (hw:Bel w.heap.size w w') c1 c2 c3,Does _ _ _ w' (fun v O=>v = .tuple #[evV (befD l nominal),.bool (befD l nominal).isSome]/\O=[]) at hb
 have hyr:=fun w' (hw:Bel w.heap.size w w')=>ZmG nominal ht w' (hG.up hw)
 generalize befD l nominal=res at *
 generalize Zd6 nominal=yr at *
 refine Zaa Tryz.func229 rfl rfl rfl rfl ?_
 rcases res with _|⟨ey,er,en⟩ <;> simp only[evV,Zaf.enc,dEv0,Option.isSome]at hb ⊢
 ·repeat (first|(refine js ?_;(first|(refine Zae hyr ?_)|(apply Zad (h:=fun w' hw hH=>hb _ _ _ w' hw (hH.cells (by repeat' constructor)) (hH.cells (by repeat' constructor)) (hH.cells (by repeat' constructor)));rfl;rintro v O' ⟨rfl,rfl⟩)|(refine bx ?_;intro bk)))|refine walk ?_)
  exact rtC
 ·repeat (first|(refine js ?_;(first|(refine Zae hyr ?_)|(apply Zad (h:=fun w' hw hH=>hb _ _ _ w' hw (hH.cells (by repeat' constructor)) (hH.cells (by repeat' constructor)) (hH.cells (by repeat' constructor)));rfl;rintro v O' ⟨rfl,rfl⟩)|(refine bx ?_;intro bk)))|refine walk ?_)
  exact rtC
theorem ZqY {l:List Zab}{e:Zaf}{r:Zab}(h:l[e.rule.toNat]?=some r):ruE l e=r:=by
 unfold ruE
 rw[List.getD_eq_getElem?_getD,h];rfl
def stV (x:Int × ByteArray):Value := .agg #[.int .i64 x.1,.string x.2]
theorem ZwV {G:Prop}(h:G:=by(first|exact PuI|(apply Pu_loadO1;rfl;first|exact hca 9 _ rfl|exact hca 10 _ rfl))):G:=h
theorem ZzP {G:Prop}(h:G:=by first|(apply Qy_y;rfl;exact ZwV)|exact QyA):G:=h
theorem ZCR {G:Prop}(h:G:=by repeat (first|exact QF.nil|(apply QF.mk;rfl;rfl;decide +kernel;exact ZzP))):G:=h
theorem Zdh (A:Option Addr)(c:Nat)(l:List Zab)(e:Zaf)(w:World)(hA:RdSl w A c Zab.enc 11 l)(he:0<=e.rule/\e.rule<l.length) :
  Does Tryz.prog 230 [.slice A l.length c,.agg e.enc.toArray] w (fun v O=>v=stV (behS l e)/\O=[]):=by
 obtain⟨r,hr⟩:∃ r,l[e.rule.toNat]?=some r:=⟨_,List.getElem?_eq_getElem (by omega)⟩
 have hle:=hA.le
 have hcp:=hA.cap
 simp only[maxLen]at hcp
 unfold behS
 rw[ZqY hr]
 obtain⟨hna,hca⟩:=hA.rd _ _ hr
 obtain⟨y,q,n⟩:=e
 dsimp only at he hr hca
 show Does _ _ [_,.agg #[.int .i64 y,.int .i64 q,.int .i64 n]] w _
 refine Zaa Tryz.func230 rfl rfl rfl rfl ?_
 repeat (first|(apply RL_pu;rfl;exact ZwV)|(apply RD_Q;rfl;rfl;decide +kernel;rfl;rfl;exact ZzP)|refine walk1 ?_|(refine jn ?_;(try intro F);(first|(refine bx ?_;intro bk)|(refine stA ?_)|(apply Zag;first|exact ZwV|exact PuA));first|refine⟨_,EndsA,ZCR,?_⟩|refine fin ?_)|(apply RD_W;rfl;intro bk))
 exact ret_1 _ [] (.cellB rfl (by repeat' constructor) rfl rfl) .nil ⟨rfl,rfl⟩
theorem Zqa (A:Option Addr)(c:Nat)(l:List Zab)(w:World)(hA:RdSl w A c Zab.enc 11 l):Does Tryz.prog 314 [.slice A l.length c] w (fun v O=>v = .int .i64 (max (Zaj l) (-10800))/\O=[]):=by
 have hle:=hA.le
 have hcp:=hA.cap
 unfold maxLen at hcp
 generalize hres:Zaj l=res
 unfold Zaj at hres
 have hmx:(if res < -10800 then -10800 else res)=max res (-10800):=by split <;> omega
 refine Zaa Tryz.func314 rfl rfl rfl rfl ?_
 repeat (first|(refine js ?_;(refine bx ?_;intro bk))|refine walk ?_)
 refine Zaq [(6,_),(7,_)] [] (fun g:Nat × Int=>[(3,.int .i64 g.2),(8,.int .i64 g.1)]) (fun _=>[]) (fun g=>g.1<=l.length/\(l.drop g.1).foldl (fun m r=>min m r.save) g.2=res) (fun g=>l.length - g.1) (0,0) SFA SOA ⟨Nat.zero_le _,hres⟩ ?_
 rintro⟨k,m⟩ ⟨hk,hi⟩
 dsimp only at hk hi ⊢
 repeat (first|(refine js ?_;(refine bx ?_;intro bk))|refine walk ?_)
 refine Zah rfl (fun h=>?_) (fun h=>?_)
 ·have hlt:k<l.length:=by simpa using h
  obtain⟨hna,hca⟩:=hA.rd k _ (List.getElem?_eq_getElem hlt)
  rw[Zao hlt]at hi
  generalize l[k]=r at *
  obtain⟨nm,fr,to,mo,⟨dk,dw,dd⟩,⟨cs,cb⟩,sv,le⟩:=r
  simp only[Zab.enc,List.foldl_cons]at hca hi
  repeat (first|(apply RL_pu;rfl;(first|exact PuI|(apply Zfy;rfl;rfl)))|(refine js ?_;(refine bx ?_;intro bk))|refine walk1 ?_)
  rw[show(if sv<m then sv else m)=min m sv by split <;> omega]
  exact⟨(k+1,min m sv),OA,⟨OA,hi⟩,SFA,.nil⟩
 ·have hkl:k=l.length:=by
   have:=of_decide_eq_false h
   omega
  subst hkl
  rw[List.drop_length]at hi
  obtain rfl:m=res:=hi
  repeat (first|(apply RL_pu;rfl;(apply ZhP;rfl;rfl;exact hmx))|(refine js ?_;(refine bx ?_;intro bk))|refine walk1 ?_)
  exact rtA
theorem ZAg {G:Prop}(h:G:=by(first|(apply Za2;rfl;rfl;exact b1)|(apply Za3;rfl;rfl;exact b2))):G:=h
theorem ZxO (a b:Int)(ha : -4000000000000000000<=a/\a<=4000000000000000000)(hb : -4000000000000000000<=b/\b<=4000000000000000000)(w:World):Does Tryz.prog 313 [.int .i64 a,.int .i64 b] w (fun v O=>v = .tuple #[.int .i64 (a - b),.bool true]/\O=[]):=by
 refine Zaa Tryz.func313 rfl rfl rfl rfl ?_
 by_cases h:0<b
 ·have b1:decide (a - b<a)=true:=decide_eq_true (by omega)
  have b2:decide (0<b)=true:=decide_eq_true h
  repeat (first|refine und ?_|(apply RL_pu;rfl;exact ZAg)|refine walk1 ?_)
  exact rtB
 ·have b1:decide (a - b<a)=false:=decide_eq_false (by omega)
  have b2:decide (0<b)=false:=decide_eq_false h
  repeat (first|refine und ?_|(apply RL_pu;rfl;exact ZAg)|refine walk1 ?_)
  exact rtB
theorem ZfK (Z:It)(x t:Int)(b7 b8:Nat)(wr:World)(hx : -2000000000000000000<=x/\x<=2000000000000000000)(ht : -2000000000000000000<=t/\t<=2000000000000000000) :
  Zak Tryz.prog 312 [.int .i64 x,.pointer (some ⟨b7,0,none⟩),.pointer (some ⟨b8,0,none⟩)] wr [Z,.blk b7 [.int .i64 t] 2,.blk b8 [.bool true] 4] (fun v O'=>v = .tuple #[]/\O'=[Z,.blk b7 [.int .i64 (t - x)] 2,.blk b8 [.bool true] 4]):=by
 have hs:=fun w'=>ZxO t x (by omega) (by omega) w'
 refine ZaD Tryz.func312 rfl rfl rfl rfl ?_
 repeat (first|(refine js ?_;(refine Zae (fun w' _=>hs w') ?_))|refine walk ?_)
 exact ZgI [Z,.blk b7 [.int .i64 (t - x)] 2,.blk b8 [.bool true] 4] SOA ⟨rfl,rfl⟩
attribute [local irreducible] RLI WI
def ZBd (A:Option Addr)(n c:Nat)(v:Value)(O:List It):Prop:=∃ bl,v = .func (.func 283) #[] #[.pointer (some ⟨bl,0,none⟩)]/\O=[.blk bl [.slice A n c] 27]
theorem ZpN (A:Option Addr)(n c:Nat)(w:World):Does Tryz.prog 279 [.slice A n c] w (ZBd A n c):=by
 refine Zaa Tryz.func279 rfl rfl rfl rfl ?_
 repeat (first|(refine js ?_;(refine bx ?_;intro bk))|refine walk ?_)
 exact ret_1 _ [.blk bk [.slice A n c] 27] (.tmp rfl) SOA ⟨bk,rfl,rfl⟩
structure FiG (σ:Type) where
 k:Nat
 d:List Zaf
 s:σ
set_option maxRecDepth 20000
theorem ZAf {G:Prop}(h:G:=by(apply Pu_loadB1;rfl;(focus repeat' constructor);rfl)):G:=h
set_option maxHeartbeats 4000000 in
theorem ZnP {σ:Type}(L bl:Nat)(A:Option Addr)(c:Nat)(l:List Zab)(OC:σ->List It)(Inv:List Zaf->σ->Prop)(wr:World)(s0:σ)(h0:Inv [] s0)(hG:Glob wr)(hA:RdSl wr A c Zab.enc 11 l)(hn:l.length<=1000000)(hR:∀ r∈l,-4611686018427387904<=r.save/\r.save<=4611686018427387904)(hF:∀ r∈l,r.from_<=4611686018427387904)
  (hY:∀ (d:List Zaf) (e:Zaf) (s:σ) (X Y:It),(∃ (k:Nat) (r:Zab),l[k]?=some r/\e.rule=k)->Inv d s->Zcd Tryz.prog L (.agg e.enc.toArray) wr (X::Y::OC s) fun bb O'=>bb=true/\∃ s',Inv (d++[e]) s'/\SubO (X::Y::OC s') O') :
  Zak Tryz.prog 283 [.func (.yield L) #[] #[],.pointer (some ⟨bl,0,none⟩)] wr (.blk bl [.slice A l.length c] 27::OC s0)
   (fun v O'=>v = .tuple #[]/\∃ s',Inv (firL (Zaj l) l 0) s'/\SubO (.blk bl [.slice A l.length c] 27::OC s') O'):=by
 have hon:=fun(i:Nat) r (hi:l[i]?=some r) y w' (hw:Bel wr.heap.size wr w')=>ZgY A c l i y r w' (hG.up hw) (hA.up hw) hi hn hR
 have hru:∀ (r:Zab) (i y:Int) e,onR (Zaj l) r i y=some e->e.rule=i:=fun r i y e h=>by
  unfold onR at h
  split at h
  ·cases h
  ·split at h
   ·cases h
   ·cases h;rfl
 generalize Zaj l=least at *
 obtain⟨res,hres⟩:∃ res,firL least l 0=res:=⟨_,rfl⟩
 rw[hres]
 have hle:=hA.le
 have hcp:=hA.cap
 simp only[maxLen]at hcp
 refine ZaD Tryz.func283 rfl rfl rfl rfl ?_
 repeat (first|(refine js ?_;(refine bx ?_;intro bk))|refine walk ?_)
 refine Zaq [(0,.func (.yield L) #[] #[]),(1,.pointer (some ⟨bl,0,none⟩)),(9,.slice A l.length c),(10,.int .i64 l.length)] [] (fun g:FiG σ=>[(11,.int .i64 g.k)]) (fun g => .blk bl [.slice A l.length c] 27::OC g.s) (fun g=>g.k<=l.length/\Inv g.d g.s/\g.d++firL least (l.drop g.k) g.k=res) (fun g=>l.length - g.k) ⟨0,[],s0⟩ SFA ?_ ⟨Nat.zero_le _,h0,by dsimp only;rw[List.drop_zero,List.nil_append];exact hres⟩ ?_
 ·rw[List.append_nil];exact .refl _
 clear hres
 rintro⟨k,d,s⟩ ⟨hk,hi,hd⟩
 dsimp only at hk hi hd ⊢
 rw[List.append_nil]
 repeat (first|(refine js ?_;(refine bx ?_;intro bk))|refine walk ?_)
 refine Zah rfl (fun hc=>?_) (fun hc=>?_)
 ·have hkl:k<l.length:=by simpa using hc
  have hge:=List.getElem?_eq_getElem hkl
  obtain⟨hna,hca⟩:=hA.rd k _ hge
  have hfr:=hF _ (List.getElem_mem hkl)
  rw[Zao hkl,firL]at hd
  generalize l[k]=r at *
  obtain⟨f0,hf0⟩:∃ f0,max r.from_ (-2000000000)=f0:=⟨_,rfl⟩
  have hmx:(if r.from_ < -2000000000 then -2000000000 else r.from_)=f0:=by rw[<- hf0];split <;> omega
  have hfb : -2000000000<=f0/\f0<=4611686018427387904:=by omega
  rw[hf0]at hd
  have hon1:=hon k r hge
  obtain⟨r1,hr1⟩:∃ r1,fiIn least r k f0 9=r1:=⟨_,rfl⟩
  rw[hr1]at hd
  obtain⟨nm,fr,to,mo,⟨dk,dw,dd⟩,⟨cs,cb⟩,sv,le⟩:=r
  change Zam wr _ [.string nm,.int .i64 fr,.int .i64 to,.int .i64 mo,.int .i64 dk,.int .i64 dw,.int .i64 dd,.int .i64 cs,.int .i64 cb,.int .i64 sv,.string le]at hca
  dsimp only at hmx
  repeat (first|(refine js ?_;(refine bx ?_;intro bk))|refine Zkj ?_)
  refine W_block ?_
  repeat (first|(apply RL_pu;rfl;(first|exact PuI|(apply ZhP;rfl;rfl;exact hmx)))|(refine js ?_;(refine bx ?_;intro bk))|refine walkB1 ?_)
  refine Zcw (fun fr' O'=>∃ s',Inv (d++r1.toList) s'/\Sub [(0,.func (.yield L) #[] #[]),(1,.pointer (some ⟨bl,0,none⟩)),(9,.slice A l.length c),(10,.int .i64 l.length),(11,.int .i64 k)] fr'/\SubO (.blk bl [.slice A l.length c] 27::OC s') O') ?_ ?_
  ·repeat (first|(refine js ?_;(refine bx ?_;intro bk))|refine walk ?_)
   refine Zaq [(0,.func (.yield L) #[] #[]),(1,.pointer (some ⟨bl,0,none⟩)),(3,.int .i64 k),(5,.int .i64 f0),(9,.slice A l.length c),(10,.int .i64 l.length),(11,.int .i64 k)] [] (fun g:Nat × Int=>[(6,.int .i64 g.2)]) (fun _ => .blk bl [.slice A l.length c] 27::OC s) (fun g=>g.1<=9/\g.2=f0+g.1/\fiIn least ⟨nm,fr,to,mo,⟨dk,dw,dd⟩,⟨cs,cb⟩,sv,le⟩ k g.2 (9 - g.1)=r1) (fun g=>9 - g.1) (0,f0) SFA ?_ ⟨Nat.zero_le _,by simp,hr1⟩ ?_
   ·rw[List.append_nil]
    exact .drop (.refl _)
   clear hr1
   rintro⟨j,y⟩ ⟨hj,hy,hf⟩
   dsimp only at hj hy hf ⊢
   rw[List.append_nil]
   repeat (first|(refine js ?_;(refine bx ?_;intro bk))|refine walk ?_)
   refine Zah rfl (fun hc2=>?_) (fun hc2=>?_)
   ·have hj9:j<9:=by have:=of_decide_eq_true hc2;omega
    rw[show 9 - j=(8 - j)+1 by omega,fiIn]at hf
    have ho:=hon1 y
    have hro:=hru ⟨nm,fr,to,mo,⟨dk,dw,dd⟩,⟨cs,cb⟩,sv,le⟩ k y
    generalize onR least _ k y=o at *
    cases o with
    | none =>
     simp only[evV,Zaf.enc,dEv0,Option.isSome]at ho hf
     repeat (first|(apply RL_pu;rfl;exact ZAf)|(refine js ?_;(first|(refine Zae ho ?_)|(refine bx ?_;intro bk)))|refine walk1 ?_)
     refine⟨(j+1,y+1),OA,⟨OA,by dsimp only;omega,by dsimp only;rw[show 9 - (j+1)=8 - j by omega];exact hf⟩,SFA,?_⟩
     exact .drop (.refl _)
    | some e =>
     have her:=hro e rfl
     obtain⟨ey,er,en⟩:=e
     simp only[evV,Zaf.enc,Option.isSome]at ho hf her
     subst hf
     repeat (first|(apply Zg9;rfl;rfl;rfl;(intro c h;cases h);rfl;(apply Pu_loadNf;rfl;(focus repeat' constructor);exact NfA;rfl);rfl;rfl;exact hY d ⟨ey,er,en⟩ s _ _ ⟨k,_,hge,her⟩ hi;rintro bb O' ⟨rfl,s',hi',hO'⟩)|(apply RL_pu;rfl;exact ZAf)|(refine js ?_;(first|(refine Zae ho ?_)|(refine bx ?_;intro bk)))|refine walk1 ?_)
     apply Za9 (.inl rfl);rfl;(intro c h;cases h);(apply Pu_not;rfl)
     refine Za0 ?_
     apply thenQ_n
     refine Zah rfl (fun h=>(by cases h)) (fun h=>?_)
     repeat (first|(refine js ?_;(refine bx ?_;intro bk))|refine walk ?_)
     exact⟨rfl,s',hi',SFA,SubO.trans (.drop (.refl _)) hO'⟩
   ·obtain rfl:j=9:=by have:=of_decide_eq_false hc2;omega
    obtain rfl:none=r1:=hf
    repeat (first|(refine js ?_;(refine bx ?_;intro bk))|refine walk ?_)
    exact⟨rfl,s,by rw[Option.toList,List.append_nil];exact hi,SFA,.refl _⟩
  ·rintro fr' O' ⟨s',hi',hf',hO'⟩
   apply blockQ_n
   apply thenQ_n
   refine ZcH hf' hO' ?_
   repeat (first|(refine js ?_;(refine bx ?_;intro bk))|refine walk ?_)
   exact⟨⟨k+1,d++r1.toList,s'⟩,OA,⟨OA,hi',by dsimp only;rw[List.append_assoc];exact hd⟩,SFA,by rw[List.append_nil];exact .refl _⟩
 ·obtain rfl:k=l.length:=by simp only[decide_eq_false_iff_not,Int.ofNat_lt]at hc;omega
  rw[List.drop_length,firL,List.append_nil]at hd
  subst hd
  repeat (first|(refine js ?_;(refine bx ?_;intro bk))|refine walk ?_)
  exact ZgI _ (.refl _) ⟨rfl,s,hi,.refl _⟩
end Go.Proofs.YtbjomhdhkpgbaaaGreatDoor
