/- Parts of the proof. -/
import Derived.Test.YtbjomhdhkpgbaaaGreatDoorV23
import Derived.Test.YtbjomhdhkpgbaaaGreatDoorV06
import Derived.Test.YtbjomhdhkpgbaaaGreatDoorV21
import Derived.Test.YtbjomhdhkpgbaaaGreatDoorV09
import Derived.Test.YtbjomhdhkpgbaaaGreatDoorV19
import Derived.Test.YtbjomhdhkpgbaaaGreatDoorV08
import Derived.Test.YtbjomhdhkpgbaaaGreatDoorV18
import Derived.Test.YtbjomhdhkpgbaaaGreatDoorV07
set_option maxHeartbeats 4000000
set_option linter.unusedVariables false
set_option linter.unusedSimpArgs false
namespace Go.Proofs.YtbjomhdhkpgbaaaGreatDoor
open Go Go.RowKit Go.Wk
attribute [local irreducible] W RL Does Zar Zal retQ Calls Pu Stp RD Qy Ay Zak
theorem Zv0 {w w':World}{b j:Nat}{cs:List Value}{v:Value}(h:Zam w ⟨b,0,none⟩ cs)(hw:Bel w.heap.size w w')(hv:cs[j]?=some v):w'.cell? ((⟨b,0,none⟩:Addr).add j)=some v :=
 (hw.cell (World.block_lt_of_cell? w _ (h j v hv))).trans (h j v hv)
theorem Zqt {G:Prop}(h:G:=by(apply Za3;rfl;rfl;exact bs)):G:=h
set_option maxHeartbeats 2000000 in
theorem Zly (Ar Az Al As:Option Addr)(cr cz cl cs:Nat)(a:Zac)(f:Int)(nm:ByteArray)(a1 a2 a3 a4:Bool)(w:World)(hL:LibW w)(hA:Zan w Ar Az Al As cr cz cl cs a)(hS:ZhN a)(hZ:∀ z∈a.zones,∀ e∈z.eras,e.format.size<=1000000000)
  (hof:∀ w',Bel w.heap.size w w'->Does Tryz.prog 55 [.int .i64 f] w' (fun v O=>v = .tuple #[.agg #[.string nm,.bool a1,.bool a2,.bool a3,.bool a4],.bool true]/\O=[])) :
  Does Tryz.prog 28 [srcV Ar Az Al As cr cz cl cs a,.int .i64 f] w (fun v O=>v=ptV (vfG a1 a2 a3 a4 a)/\O=[]):=by
 have hnz:=hS.nz
 have hns:=hS.ns
 have hru:∀ b6 w',Bel w.heap.size w w'->Zam w' ⟨b6,0,none⟩ [.string nm,.bool a1,.bool a2,.bool a3,.bool a4]->Does Tryz.prog 56 [.slice Ar a.rules.length cr,.func (.func 57) #[] #[.pointer (some ⟨b6,0,none⟩)]] w' (fun v O=>v = .int .i64 (ZbQ (negB a1) a.rules 0)/\O=[]) :=
  fun b6 w' hw h6=>ZdZ Ar cr a.rules 57 [] [.pointer (some ⟨b6,0,none⟩)] (negB a1) w' (hA.up hw).r fun r w2 hw2=>ZtU r ⟨b6,0,none⟩ a1 w2 (Zv0 h6 hw2 rfl)
 rw[ZgW]at hru
 unfold vfG
 generalize a.rules.findIdx? (negB a1)=ri at *
 refine Zaa Tryz.func28 rfl rfl rfl rfl ?_
 cases ri with
 | some i =>
  dsimp only at hru ⊢
  rw[Nat.zero_add]at hru
  have b0:decide ((0:Int)<=(i:Int))=true:=decide_eq_true (by omega)
  simp only[ptV,plV,Zas.enc]
  repeat (first|(apply RL_pu;rfl;(apply ZcJ;rfl;rfl;exact b0))|(refine js ?_;(first|(refine Zae hof ?_)|(refine ZaX (fun w' hw hO=>hru _ w' hw (hO.cells (by repeat' constructor))) ?_)|(refine bx ?_;intro bk)))|refine walk1 ?_)
  exact rtC
 | none =>
  dsimp only at hru ⊢
  obtain⟨zr,hzr⟩:∃ zr,zGo a2 a3 a.zones 0=zr:=⟨_,rfl⟩
  rw[hzr]
  repeat (first|(refine js ?_;(first|(refine Zae hof ?_)|(refine ZaX (fun w' hw hO=>hru _ w' hw (hO.cells (by repeat' constructor))) ?_)|(refine bx ?_;intro bk)))|refine walk ?_)
  obtain⟨b6,hb6⟩:∃ b6,bk=b6:=⟨_,rfl⟩
  rw[hb6]
  clear hb6 bk
  obtain⟨b4,hb4⟩:∃ b4,bk=b4:=⟨_,rfl⟩
  rw[hb4]
  clear hb4 bk
  obtain⟨b2,hb2⟩:∃ b2,bk=b2:=⟨_,rfl⟩
  rw[hb2]
  clear hb2 bk
  refine Zaq [(2,.pointer (some ⟨b2,0,none⟩)),(4,.pointer (some ⟨b4,0,none⟩)),(6,.pointer (some ⟨b6,0,none⟩)),(9,.func (.func 58) #[] #[.pointer (some ⟨b6,0,none⟩)]),(31,.slice Az a.zones.length cz),(32,.int .i64 a.zones.length)] [.blk b6 [.string nm,.bool a1,.bool a2,.bool a3,.bool a4] 121,.blk b4 [.int .i64 0,.int .i64 0,.int .i64 0] 36,.blk b2 [.slice Ar a.rules.length cr,.slice Az a.zones.length cz,.slice Al a.links.length cl,.slice As a.shifts.length cs] 32]
   (fun k:Nat=>[(33,.int .i64 k)]) (fun _=>[]) (fun k=>k<=a.zones.length/\zGo a2 a3 (a.zones.drop k) k=zr) (fun k=>a.zones.length - k) 0 SFA SOA ⟨Nat.zero_le _,hzr⟩ ?_
  clear hzr
  rintro i ⟨hil,hi⟩
  repeat (first|(refine js ?_;(refine bx ?_;intro bk))|refine walk ?_)
  refine Zah rfl (fun hc=>?_) (fun hc=>?_)
  ·simp only[decide_eq_true_eq,Int.ofNat_lt]at hc
   obtain⟨hna,cs1,⟨Ae,ce,hEz,rfl⟩,hca⟩:=hA.z i _ (List.getElem?_eq_getElem hc)
   have hmem:=List.getElem_mem hc
   rw[Zao hc,zGo]at hi
   generalize a.zones[i]=z at *
   have her:∀ b6 w',Bel w.heap.size w w'->Zam w' ⟨b6,0,none⟩ [.string nm,.bool a1,.bool a2,.bool a3,.bool a4]->Does Tryz.prog 60 [.slice Ae z.eras.length ce,.func (.func 58) #[] #[.pointer (some ⟨b6,0,none⟩)]] w' (fun v O=>v = .int .i64 (ZbQ (Ze5 a2 a3) z.eras 0)/\O=[]) :=
    fun b6 w' hw h6=>ZnO Ae ce z.eras 58 [] [.pointer (some ⟨b6,0,none⟩)] (Ze5 a2 a3) w' (hEz.up hw) fun r hr w2 hw2=>ZtT r ⟨b6,0,none⟩ a2 a3 w2 ((hL.up hw).up hw2) (hZ z hmem r hr) (Zv0 h6 hw2 rfl) (Zv0 h6 hw2 rfl)
   rw[ZgW]at her
   generalize z.eras.findIdx? (Ze5 a2 a3)=ei at *
   cases ei with
   | some j =>
    dsimp only at her hi
    rw[Nat.zero_add]at her
    have b0:decide ((0:Int)<=(j:Int))=true:=decide_eq_true (by omega)
    subst hi
    simp only[ptV,plV,Zas.enc]
    repeat (first|(apply RL_pu;rfl;(first|exact PuI|(apply ZcJ;rfl;rfl;exact b0)))|(refine js ?_;(first|(refine ZaX (fun w' hw hO=>her _ w' hw (hO.cells (by repeat' constructor))) ?_)|(refine bx ?_;intro bk)))|refine walk1 ?_)
    exact rtC
   | none =>
    dsimp only at her hi
    repeat (first|(apply RL_pu;rfl;exact PuI)|(refine js ?_;(first|(refine ZaX (fun w' hw hO=>her _ w' hw (hO.cells (by repeat' constructor))) ?_)|(refine bx ?_;intro bk)))|refine walk1 ?_)
    exact⟨i+1,OA,⟨OA,hi⟩,SFA,SOA⟩
  ·simp only[decide_eq_false_iff_not,Int.ofNat_lt]at hc
   rw[List.drop_eq_nil_of_le (by omega),zGo]at hi
   subst hi
   dsimp only
   by_cases hsn:0<a.shifts.length
   ·have bs:decide ((0:Int)<a.shifts.length)=true:=decide_eq_true (by omega)
    cases a4 with
    | false =>
     rw[if_pos ⟨hsn,rfl⟩]
     simp only[ptV,plV,Zas.enc]
     repeat (first|(apply RL_pu;rfl;exact Zqt)|(refine js ?_;(refine bx ?_;intro bk))|refine walk1 ?_)
     exact rtC
    | true =>
     rw[if_neg (by rintro⟨_,h⟩;cases h)]
     repeat (first|(apply RL_pu;rfl;exact Zqt)|(refine js ?_;(refine bx ?_;intro bk))|refine walk1 ?_)
     exact rtC
   ·have bs:decide ((0:Int)<a.shifts.length)=false:=decide_eq_false (by omega)
    rw[if_neg (fun h=>hsn h.1)]
    repeat (first|(apply RL_pu;rfl;exact Zqt)|(refine js ?_;(refine bx ?_;intro bk))|refine walk1 ?_)
    exact rtC
theorem ZtS (Ar Az Al As:Option Addr)(cr cz cl cs:Nat)(a:Zac)(f:Int)(w:World)(hL:LibW w)(hG:Glob w)(hA:Zan w Ar Az Al As cr cz cl cs a)(hS:ZhN a)(hZ:∀ z∈a.zones,∀ e∈z.eras,e.format.size<=1000000000) :
  Does Tryz.prog 28 [srcV Ar Az Al As cr cz cl cs a,.int .i64 f] w (fun v O=>v=ptV (Za7 f a)/\O=[]):=by
 by_cases hb:f<1\/3<f
 ·have hof:=fun w'=>ZCj f hb w'
  unfold Za7
  rw[if_pos hb]
  simp only[ptV,plV,Zas.enc]
  refine Zaa Tryz.func28 rfl rfl rfl rfl ?_
  repeat (first|(refine js ?_;(first|(refine Zae (fun w' hw=>hof w') ?_)|(refine bx ?_;intro bk)))|refine walk ?_)
  exact rtC
 ·obtain rfl|rfl|rfl:f=1\/f=2\/f=3:=by omega
  ·rw[vf_1]
   exact Zly Ar Az Al As cr cz cl cs a 1 _ _ _ _ _ w hL hA hS hZ fun w' hw=>of_1 w' (hG.up hw)
  ·rw[vf_2]
   exact Zly Ar Az Al As cr cz cl cs a 2 _ _ _ _ _ w hL hA hS hZ fun w' hw=>of_2 w' (hG.up hw)
  ·rw[vf_3]
   exact Zly Ar Az Al As cr cz cl cs a 3 _ _ _ _ _ w hL hA hS hZ fun w' hw=>of_3 w' (hG.up hw)
theorem Zqg {s:Zac}{p:Zas}{e:Int}(h:accD s=some (p,e)):e≠0:=by
 unfold accD at h
 cases h1:ZeT s with
 | some x=>rw[h1]at h;simp only[Option.some_or,Option.some.injEq]at h;subst h;exact Zm3 h1
 | none =>
  rw[h1,Option.none_or]at h
  cases h2:Zih s with
  | some x=>rw[h2]at h;simp only[Option.some_or,Option.some.injEq]at h;subst h;exact ZiU _ _ h2
  | none =>
   rw[h2,Option.none_or]at h
   cases h3:Zbw s s.shifts [] 0 with
   | some x=>rw[h3]at h;simp only[Option.some_or,Option.some.injEq]at h;subst h;exact Zgm _ _ _ _ h3
   | none =>
    rw[h3,Option.none_or]at h
    cases h4:Zda s with
    | some x=>rw[h4]at h;simp only[Option.some_or,Option.some.injEq]at h;subst h;exact ZnC h4
    | none =>
     rw[h4,Option.none_or]at h
     exact Zhm _ _ _ h
structure Zd5 (w:World)(Ar Az Al As:Option Addr)(cr cz cl cs:Nat)(a:Zac):Prop where
 L:LibW w
 G:Glob w
 A:Zan w Ar Az Al As cr cz cl cs a
 S:ZhN a
 V:SavI a
 Z:∀ z∈a.zones,∀ e∈z.eras,Zxz e
theorem Zd5.up {w w':World}{Ar Az Al As:Option Addr}{cr cz cl cs:Nat}{a:Zac}(h:Zd5 w Ar Az Al As cr cz cl cs a)(hb:Bel w.heap.size w w'):Zd5 w' Ar Az Al As cr cz cl cs a :=
 ⟨h.L.up hb,h.G.up hb,h.A.up hb,h.S,h.V,h.Z⟩
theorem accS {w:World}{Ar Az Al As:Option Addr}{cr cz cl cs:Nat}{a:Zac}(h:Zd5 w Ar Az Al As cr cz cl cs a):Does Tryz.prog 27 [srcV Ar Az Al As cr cz cl cs a] w (fun v O=>v=ptV (accD a)/\O=[]) :=
 Zmh Ar Az Al As cr cz cl cs a w h.L h.G h.A h.S h.V h.Z
theorem ZoT {f:Int}{s:Zac}{p:Zas}{e:Int}(h:Za7 f s=some (p,e)):e≠0:=by
 unfold Za7 at h
 dsimp only at h
 repeat' split at h
 all_goals first|(simp only[Option.some.injEq,Prod.mk.injEq]at h;omega)|cases h
theorem varS {w:World}{Ar Az Al As:Option Addr}{cr cz cl cs:Nat}{a:Zac}(h:Zd5 w Ar Az Al As cr cz cl cs a)(f:Int):Does Tryz.prog 28 [srcV Ar Az Al As cr cz cl cs a,.int .i64 f] w (fun v O=>v=ptV (Za7 f a)/\O=[]) :=
 ZtS Ar Az Al As cr cz cl cs a f w h.L h.G h.A h.S fun z hz e he=>(h.Z z hz e he).fmt
theorem ZCY {G:Prop}(h:G:=by(apply ZaH;rfl;rfl;exact hb)):G:=h
structure FoG where
 k:Nat
 A:Option Addr
 c:Nat
 m:Nat
 ys:List Value
 acc:List Int
def okF (a:Zac)(f:Int):Bool:=(Za7 f a).isNone
theorem f123 {k:Nat}(h:k<3):([1,2,3]:List Int)[k]?=some ((k:Int)+1):=by
 match k,h with
 | 0,_=>rfl
 | 1,_=>rfl
 | 2,_=>rfl
theorem Zw8 {G:Prop}(h:G:=by(apply ZeP;rfl;rfl;exact b3)):G:=h
theorem Zji (Ar Az Al As:Option Addr)(cr cz cl cs:Nat)(a:Zac)(w:World)(h:Zd5 w Ar Az Al As cr cz cl cs a) :
  Does Tryz.prog 14 [srcV Ar Az Al As cr cz cl cs a] w (Zik 3 1 iEnc (Zc0 a)):=by
 have hac:=fun w' (hw:Bel w.heap.size w w')=>accS (h.up hw)
 have hvf:=fun f w' (hw:Bel w.heap.size w w')=>varS (h.up hw) f
 have hne:=fun{p e} => @Zqg a p e
 unfold Zc0
 generalize accD a=o1 at *
 refine Zaa Tryz.func14 rfl rfl rfl rfl ?_
 cases o1 with
 | some x =>
  obtain⟨⟨p1,p2,p3⟩,e⟩:=x
  have hb:(!decide (e=0))=true:=by rw[decide_eq_false (hne rfl)];rfl
  rw[show(some ((⟨p1,p2,p3⟩:Zas),e)).isSome=true from rfl]
  simp only[if_true]
  simp only[ptV,plV,Zas.enc]at hac
  refine Zdj 3 1 ?_
  repeat (first|(apply RL_pu;rfl;exact ZCY)|(refine js ?_;(first|(refine Zae hac ?_)|(refine bx ?_;intro bk)))|refine walk1 ?_)
  exact ret_1 _ [.row (.slice none 0 0) 3 1 0 []] (.tmp rfl) SOA ⟨none,0,rfl,rfl⟩
 | none =>
  simp only[Option.isSome_none,Bool.false_eq_true,if_false]
  simp only[ptV,plV,Zas.enc]at hac
  repeat (first|(refine js ?_;(first|(refine Zae hac ?_)|(refine bx ?_;intro bk)))|refine walk ?_)
  obtain⟨b3,hb3⟩:∃ b3,bk=b3:=⟨_,rfl⟩
  rw[hb3]
  clear hb3 bk
  obtain⟨b1,hb1⟩:∃ b1,bk=b1:=⟨_,rfl⟩
  rw[hb1]
  clear hb1 bk
  refine Zdj 3 1 ?_
  refine Zaq [(1,.pointer (some ⟨b1,0,none⟩))] [.blk b1 [.slice Ar a.rules.length cr,.slice Az a.zones.length cz,.slice Al a.links.length cl,.slice As a.shifts.length cs] 32] (fun g:FoG=>[(5,.slice g.A g.m g.c),(6,.int .i64 ((g.k:Int)+1))]) (fun g=>[.row (.slice g.A g.m g.c) 3 1 g.m g.ys])
   (fun g=>g.k<=3/\g.m<=g.k/\g.m=g.acc.length/\g.ys=g.acc.flatMap iEnc/\g.acc=(([1,2,3]:List Int).take g.k).filter (okF a)) (fun g=>3 - g.k) ⟨0,none,0,0,[],[]⟩ SFA SOA ⟨Nat.zero_le _,Nat.le_refl _,rfl,rfl,rfl⟩ ?_
  rintro⟨k,A1,c1,m,ys,acc⟩ ⟨hk,hmk,hm,hy,hi⟩
  dsimp only at hk hmk hm hy hi ⊢
  by_cases hk3:k<3
  ·have b3:decide ((k:Int)+1<=3)=true:=decide_eq_true (by omega)
   have hg:=f123 hk3
   have hva:=hvf ((k:Int)+1)
   have htk:(([1,2,3]:List Int).take (k+1)).filter (okF a)=acc++(if okF a ((k:Int)+1) then [(k:Int)+1] else []):=by
    rw[List.take_add_one,hg,List.filter_append,<- hi]
    congr 1
    simp only[Option.toList,List.filter_cons,List.filter_nil]
   rw[show okF a ((k:Int)+1)=(Za7 ((k:Int)+1) a).isNone from rfl]at htk
   cases hv:Za7 ((k:Int)+1) a with
   | none =>
    rw[hv]at hva htk
    simp only[ptV,plV,Zas.enc]at hva
    repeat (first|(apply RL_pu;rfl;exact Zw8)|(refine js ?_;(first|(refine Zae hva ?_)|(apply Zay;rfl;rfl;(intro A' c';(focus repeat' constructor));(intro w' _ hO;exact Zbv (hO.of (by repeat' constructor)));rfl;rfl;(simp only[maxLen];omega);omega;intro A' c' hc1 hc2 hc3)|(refine bx ?_;intro bk)))|refine walk1 ?_)
    refine⟨⟨k+1,A',c',m+1,ys++[.int .i64 ((k:Int)+1)],acc++[(k:Int)+1]⟩,OA,⟨OA,OA,by simp[hm],by rw[hy];simp[iEnc],by dsimp only;rw[htk];simp⟩,?_,SOA⟩
    exact SFA
   | some x =>
    obtain⟨⟨p1,p2,p3⟩,e⟩:=x
    have be:decide (e=0)=false:=decide_eq_false (ZoT hv)
    rw[hv]at hva htk
    simp only[ptV,plV,Zas.enc]at hva
    repeat (first|(apply RL_pu;rfl;(first|exact Zw8|(apply ZaA;rfl;rfl;exact be)))|(refine js ?_;(first|(refine Zae hva ?_)|(refine bx ?_;intro bk)))|refine walk1 ?_)
    refine⟨⟨k+1,A1,c1,m,ys,acc⟩,OA,⟨OA,OA,hm,hy,by dsimp only;rw[htk];simp⟩,?_,SOA⟩
    exact SFA
  ·obtain rfl:k=3:=by omega
   have b3:decide (((3:Nat):Int)+1<=3)=false:=by decide
   subst hm hy
   repeat (first|(apply RL_pu;rfl;exact Zw8)|(refine js ?_;(refine bx ?_;intro bk))|refine walk1 ?_)
   exact ret_1 _ [.row (.slice A1 acc.length c1) 3 1 acc.length (acc.flatMap iEnc)] (.tmp rfl) SOA (by rw[show([1,2,3].filter fun f=>(Za7 f a).isNone)=acc from hi.symm];exact⟨A1,c1,rfl,rfl⟩)
end Go.Proofs.YtbjomhdhkpgbaaaGreatDoor
namespace Go.Proofs.YtbjomhdhkpgbaaaGreatDoor
open Go Go.RowKit Go.Wk
def oppB (e:DEra)(a b:Zac):Bool:=decide (e.kind=2)&&(memB e.set a.shifts !=memB e.set b.shifts)
def toE (form:Int)(a:Zac):Option (Zas × Int):=match accD a with
 | some x=>some x
 | none=>if Zc0 a=[] then Za7 1 a else if form<1\/3<form then some (⟨0,0,0⟩,2) else none
end Go.Proofs.YtbjomhdhkpgbaaaGreatDoor
set_option maxHeartbeats 8000000
namespace Go.Proofs.YtbjomhdhkpgbaaaGreatDoor
open Go Go.RowKit Go.Wk
attribute [local irreducible] W RL Does Zar Zal retQ Calls Pu Stp RD Qy Ay Zak
def srcE:Value := .agg #[.slice none 0 0,.slice none 0 0,.slice none 0 0,.slice none 0 0]
def ToF (x:Zas × Int)(v:Value)(O:List It):Prop:=v = .tuple #[srcE,plV x.1,.int .i64 x.2]/\O=[]
def ToS (s:Zac)(v:Value)(O:List It):Prop:=∃ u,v = .tuple #[u,plV ⟨0,0,0⟩,.int .i64 0]/\Zhk s u O
theorem ZfA {G:Prop}(h:G:=by(first|(apply ZaH;rfl;rfl;first|exact e1|exact e0)|(apply ZaA;rfl;rfl;exact e2)|(apply Za2;rfl;rfl;exact e3)|(apply Za3;rfl;rfl;exact e4))):G:=h
theorem Zlj {G:Prop}(h:G:=by first|(apply Qy_y;rfl;exact ZfA)|exact QyA):G:=h
theorem Zhd {G:Prop}(h:G:=by repeat (first|exact QF.nil|(apply QF.mk;rfl;rfl;decide +kernel;exact Zlj))):G:=h
theorem ZkA (Ar Az Al As:Option Addr)(cr cz cl cs:Nat)(a:Zac)(form:Int)(x:Zas × Int)(w:World)(h:Zd5 w Ar Az Al As cr cz cl cs a)(hx:toE form a=some x) :
  Does Tryz.prog 9 [srcV Ar Az Al As cr cz cl cs a,.int .i64 form] w (ToF x):=by
 have hac:=fun w' (hw:Bel w.heap.size w w')=>accS (h.up hw)
 have hva:=fun w' (hw:Bel w.heap.size w w')=>varS (h.up hw) 1
 have hfo:=fun w' (hw:Bel w.heap.size w w')=>Zji Ar Az Al As cr cz cl cs a w' (h.up hw)
 have e0:(!decide ((0:Int)=0))=false:=rfl
 unfold toE at hx
 unfold ToF srcE
 cases hd:accD a with
 | some y =>
  rw[hd]at hx hac
  obtain rfl:y=x:=by injection hx
  have hne:=Zqg (s:=a) (p:=y.1) (e:=y.2) hd
  obtain⟨⟨p1,p2,p3⟩,e⟩:=y
  dsimp only at hne
  have e1:(!decide (e=0))=true:=by rw[decide_eq_false hne];rfl
  simp only[ptV,plV,Zas.enc]at hac ⊢
  unfold srcV at hac ⊢
  refine Zaa Tryz.func9 rfl rfl rfl rfl ?_
  repeat (first|(apply RL_pu;rfl;exact ZfA)|(apply RD_Q;rfl;rfl;decide +kernel;rfl;rfl;exact Zlj)|refine walk1 ?_|(refine jg ?_;(try intro F);(first|(refine Zae hac ?_)|(refine bx ?_;intro bk)|(refine stA ?_));first|refine⟨_,EndsA,Zhd,?_⟩|refine fin ?_)|(refine jn ?_;(try intro F);(first|(refine bx ?_;intro bk)|(refine stA ?_)|(apply Zag;first|exact ZfA|exact PuA));first|refine⟨_,EndsA,Zhd,?_⟩|refine fin ?_)|(apply RD_W;rfl;intro bk))
  exact Zgn _ _ _ [] (.cellB rfl (by repeat' constructor) rfl rfl) (.cellB rfl (by repeat' constructor) rfl rfl) (.tmp rfl) .nil ⟨rfl,rfl⟩
 | none =>
  rw[hd]at hx hac
  dsimp only at hx
  by_cases hff:Zc0 a=[]
  ·rw[if_pos hff]at hx
   rw[hff]at hfo
   rw[hx]at hva
   obtain⟨⟨p1,p2,p3⟩,e⟩:=x
   have e2:decide ((0:Int)=0)=true:=rfl
   simp only[ptV,plV,Zas.enc]at hac hva ⊢
   unfold srcV at hac hva hfo ⊢
   refine Zaa Tryz.func9 rfl rfl rfl rfl ?_
   repeat (first|(apply RL_pu;rfl;exact ZfA)|(apply RD_Q;rfl;rfl;decide +kernel;rfl;rfl;exact Zlj)|refine walk1 ?_|(refine jg ?_;(try intro F);(first|(refine Zae hac ?_)|(apply Zad (h:=fun w' hw _=>hfo w' hw);rfl;rintro v O' ⟨Af,cf,rfl,rfl⟩)|(refine Zae hva ?_)|(refine bx ?_;intro bk)|(refine stA ?_));first|refine⟨_,EndsA,Zhd,?_⟩|refine fin ?_)|(refine jn ?_;(try intro F);(first|(refine bx ?_;intro bk)|(refine stA ?_)|(apply Zag;first|exact ZfA|exact PuA));first|refine⟨_,EndsA,Zhd,?_⟩|refine fin ?_)|(apply RD_W;rfl;intro bk))
   exact Zgn _ _ _ [] (.cellB rfl (by repeat' constructor) rfl rfl) (.cellB rfl (by repeat' constructor) rfl rfl) (.tmp rfl) .nil ⟨rfl,rfl⟩
  ·rw[if_neg hff]at hx
   have hlen:(Zc0 a).length≠0:=fun h0=>hff (List.length_eq_zero_iff.1 h0)
   have e2:decide (((Zc0 a).length:Int)=0)=false:=decide_eq_false (by omega)
   by_cases hfm:form<1\/3<form
   ·rw[if_pos hfm]at hx
    obtain rfl:(⟨0,0,0⟩,2)=x:=by injection hx
    simp only[ptV,plV,Zas.enc]at hac ⊢
    unfold srcV at hac hfo ⊢
    by_cases h1:form<1
    ·have e3:decide (form<1)=true:=decide_eq_true h1
     refine Zaa Tryz.func9 rfl rfl rfl rfl ?_
     repeat (first|refine und ?_|(apply RL_pu;rfl;exact ZfA)|(apply RD_Q;rfl;rfl;decide +kernel;rfl;rfl;exact Zlj)|refine walk1 ?_|(refine jg ?_;(try intro F);(first|(refine Zae hac ?_)|(apply Zad (h:=fun w' hw _=>hfo w' hw);rfl;rintro v O' ⟨Af,cf,rfl,rfl⟩)|(refine bx ?_;intro bk)|(refine stA ?_));first|refine⟨_,EndsA,Zhd,?_⟩|refine fin ?_)|(refine jn ?_;(try intro F);(first|(refine bx ?_;intro bk)|(refine stA ?_)|(apply Zag;first|exact ZfA|exact PuA));first|refine⟨_,EndsA,Zhd,?_⟩|refine fin ?_)|(apply RD_W;rfl;intro bk))
     exact Zgn _ _ _ [] (.cellB rfl (by repeat' constructor) rfl rfl) (.cellB rfl (by repeat' constructor) rfl rfl) (.tmp rfl) .nil ⟨rfl,rfl⟩
    ·have e3:decide (form<1)=false:=decide_eq_false h1
     have e4:decide (3<form)=true:=decide_eq_true (by omega)
     refine Zaa Tryz.func9 rfl rfl rfl rfl ?_
     repeat (first|refine und ?_|(apply RL_pu;rfl;exact ZfA)|(apply RD_Q;rfl;rfl;decide +kernel;rfl;rfl;exact Zlj)|refine walk1 ?_|(refine jg ?_;(try intro F);(first|(refine Zae hac ?_)|(apply Zad (h:=fun w' hw _=>hfo w' hw);rfl;rintro v O' ⟨Af,cf,rfl,rfl⟩)|(refine bx ?_;intro bk)|(refine stA ?_));first|refine⟨_,EndsA,Zhd,?_⟩|refine fin ?_)|(refine jn ?_;(try intro F);(first|(refine bx ?_;intro bk)|(refine stA ?_)|(apply Zag;first|exact ZfA|exact PuA));first|refine⟨_,EndsA,Zhd,?_⟩|refine fin ?_)|(apply RD_W;rfl;intro bk))
     exact Zgn _ _ _ [] (.cellB rfl (by repeat' constructor) rfl rfl) (.cellB rfl (by repeat' constructor) rfl rfl) (.tmp rfl) .nil ⟨rfl,rfl⟩
   ·rw[if_neg hfm]at hx
    cases hx
theorem Zgo:∀ (l:List ByteArray){s:Zac},Fits s->s.shifts.length+l.length<=1000000->Fits (ZeU l s)
 | [],_,h,_=>h
 | x::l,s,h,hl=>by
  rw[List.length_cons]at hl
  rw[ZeU]
  split
  ·refine Zgo l ?_ ?_
   ·obtain⟨h1,h2,h3,h4,h5⟩:=h.byS x (-Zaj (ofB s.rules x))
    exact⟨h1,h2,h3,by dsimp only;rw[List.length_append];simp only[List.length_cons,List.length_nil];omega,h5⟩
   ·dsimp only
    rw[List.length_append]
    simp only[List.length_cons,List.length_nil]
    omega
  ·exact Zgo l h (by omega)
theorem ZqR {s:Zac}(h:Fits s):∀ k,Fits (stD s k)
 | 0=>h
 | 1=>ZbD h
 | 2=>(ZbD h).erasS _
 | 3=>((ZbD h).erasS _).erasS _
 | _+4=>Zgo _ (((ZbD h).erasS _).erasS _) (Zzm h)
theorem ZB3 {form:Int}(hform:form=1\/form=2\/form=3)(s:Zac):toD form s=stD s (form+1).toNat:=by
 rcases hform with rfl|rfl|rfl <;> rfl
theorem ZmR (Ar Az Al As:Option Addr)(cr cz cl cs:Nat)(a:Zac)(form:Int)(w:World)(h:Zd5 w Ar Az Al As cr cz cl cs a)(hn:Fits a)(hform:form=1\/form=2\/form=3)(hacc:accD a=none)(hff:Zc0 a≠[])(ht:toB form a=true) :
  Does Tryz.prog 9 [srcV Ar Az Al As cr cz cl cs a,.int .i64 form] w (ToS (toD form a)):=by
 have hok:=ZAG hform hn ht
 have hac:=fun w' (hw:Bel w.heap.size w w')=>accS (h.up hw)
 have hfo:=fun w' (hw:Bel w.heap.size w w')=>Zji Ar Az Al As cr cz cl cs a w' (h.up hw)
 have e0:(!decide ((0:Int)=0))=false:=rfl
 have hlen:(Zc0 a).length≠0:=fun h0=>hff (List.length_eq_zero_iff.1 h0)
 have e2:decide (((Zc0 a).length:Int)=0)=false:=decide_eq_false (by omega)
 have e3:decide (form<1)=false:=decide_eq_false (by omega)
 have e4:decide (3<form)=false:=decide_eq_false (by omega)
 rw[hacc]at hac
 rw[ZB3 hform]
 simp only[ptV,plV,Zas.enc]at hac ⊢
 unfold srcV at hac hfo ⊢
 refine Zaa Tryz.func9 rfl rfl rfl rfl ?_
 refine ZeM [] _ (drF w Ar Az Al As cr cz cl cs a) (.refl _) (fun w' _ hB=>h.A.up hB) ?_
 generalize foot []=S
 repeat (first|refine und ?_|(apply RL_pu;rfl;exact ZfA)|(apply RD_Q;rfl;rfl;decide +kernel;rfl;rfl;exact Zlj)|refine walk1 ?_|(refine Zdc ?_;intro F;(first|(refine Zae hac ?_)|(apply Zad (h:=fun w' hw _=>hfo w' hw);rfl;rintro v O' ⟨Af,cf,rfl,rfl⟩)|(apply ZaM (h:=ZiE _ form Ar Az Al As cr cz cl cs S a _ w h.L hform hok);rfl;exact .cons (by repeat' constructor) (.cons (by repeat' constructor) (.refl _));rintro v O' ⟨rfl,B1,B2,B3,B4,d1,d2,d3,d4,S2,rfl⟩)|(apply Zad (h:=fun w' hw hO=>(ZjO B1 B2 B3 B4 d1 d2 d3 d4 (stD a (form+1).toNat) w' ((Za6 (hO.of (A := .fact S2 (drF w B1 B2 B3 B4 d1 d2 d3 d4 (stD a (form+1).toNat))) (by repeat' constructor)):drF w B1 B2 B3 B4 d1 d2 d3 d4 (stD a (form+1).toNat) w') hw) (ZqR hn _)).monoO fun _ _ h=>ZcX h);rfl;rintro v O' ⟨A6,c6,A7,c7,A8,c8,A9,c9,Z6,S6,rfl,hZ6,rfl⟩));refine⟨_,EndsA,SubO.right _ _,?_⟩)|(refine jn ?_;(try intro F);(first|(refine Zae hac ?_)|(apply Zad (h:=fun w' hw _=>hfo w' hw);rfl;rintro v O' ⟨Af,cf,rfl,rfl⟩)|(apply ZaM (h:=ZiE _ form Ar Az Al As cr cz cl cs S a _ w h.L hform hok);rfl;exact .cons (by repeat' constructor) (.cons (by repeat' constructor) (.refl _));rintro v O' ⟨rfl,B1,B2,B3,B4,d1,d2,d3,d4,S2,rfl⟩)|(apply Zad (h:=fun w' hw hO=>(ZjO B1 B2 B3 B4 d1 d2 d3 d4 (stD a (form+1).toNat) w' ((Za6 (hO.of (A := .fact S2 (drF w B1 B2 B3 B4 d1 d2 d3 d4 (stD a (form+1).toNat))) (by repeat' constructor)):drF w B1 B2 B3 B4 d1 d2 d3 d4 (stD a (form+1).toNat) w') hw) (ZqR hn _)).monoO fun _ _ h=>ZcX h);rfl;rintro v O' ⟨A6,c6,A7,c7,A8,c8,A9,c9,Z6,S6,rfl,hZ6,rfl⟩)|(refine bx ?_;intro bk)|(refine stA ?_)|(apply Zag;first|exact ZfA|exact PuA));first|refine⟨_,EndsA,Zhd,?_⟩|refine fin ?_)|(apply RD_W;rfl;intro bk))
 exact Zgn _ _ _ [rowR A6 c6 (stD a (form+1).toNat).rules,rowZ A7 c7 Z6,rowL A8 c8 (stD a (form+1).toNat).links,rowS A9 c9 (stD a (form+1).toNat).shifts,.fact S6 (ZaN Z6)] (.cellB rfl (by repeat' constructor) rfl rfl) (.cellB rfl (by repeat' constructor) rfl rfl) (.tmp rfl) SOA ⟨_,rfl,A6,c6,A7,c7,A8,c8,A9,c9,Z6,S6,rfl,hZ6,rfl⟩
end Go.Proofs.YtbjomhdhkpgbaaaGreatDoor
namespace Go.Proofs.YtbjomhdhkpgbaaaGreatDoor
open Go Go.RowKit Go.Wk
attribute [local irreducible] W RL Does Zar Zal retQ Calls Pu Stp RD Qy Ay
theorem ZlJ (A B:Option Addr)(ca cb:Nat)(p q:ZaO)(w:World)(hA:RdSl w A ca DEra.enc 13 p.eras)(hB:RdSl w B cb DEra.enc 13 q.eras) :
  Does Tryz.prog 69 [.agg #[.string p.name,.slice A p.eras.length ca],.agg #[.string q.name,.slice B q.eras.length cb]] w (fun v O=>v = .bool (decide (p=q))/\O=[]):=by
 rw[ZrB]
 refine Zaa Tryz.func69 rfl rfl rfl rfl ?_
 repeat (first|(refine js ?_;(refine bx ?_;intro bk))|refine walk ?_)
 refine Zcx 10 rfl (fun g1=>?_) (fun g1=>?_)
 ·repeat (first|(refine js ?_;(first|(refine Zae (fun w' hw=>ZjH A B ca cb p.eras q.eras w' (hA.up hw) (hB.up hw)) ?_)|(refine bx ?_;intro bk)))|refine walk ?_)
  exact ret_1 _ [] (.tmp rfl) .nil ⟨by rw[g1];rfl,rfl⟩
 repeat (first|(refine js ?_;(refine bx ?_;intro bk))|refine walk ?_)
 exact ret_1 _ [] (.tmp rfl) .nil ⟨by rw[g1];rfl,rfl⟩
theorem Zkn (A B:Option Addr)(ca cb:Nat)(x y:List ZaO)(w:World)(hA:RdZ w A x)(hB:RdZ w B y)(hxc:x.length<=ca)(hc:ca<=maxLen) :
  Does Tryz.prog 68 [.slice A x.length ca,.slice B y.length cb,.func (.func 69) #[] #[]] w (fun v O=>v = .bool (decide (x=y))/\O=[]):=by
 unfold maxLen at hc
 generalize hres:decide (x=y)=res
 refine Zaa Tryz.func68 rfl rfl rfl rfl ?_
 repeat (first|(refine js ?_;(refine bx ?_;intro bk))|refine walk ?_)
 refine Zah rfl (fun h1=>?_) (fun h1=>?_)
 ·repeat (first|(refine js ?_;(refine bx ?_;intro bk))|refine walk ?_)
  exact ret_1 _ [] (.tmp rfl) .nil ⟨by rw[<- hres,ZhH];simp at h1;omega,rfl⟩
 have hlen:x.length=y.length:=by simp at h1;omega
 clear h1
 repeat (first|(refine js ?_;(refine bx ?_;intro bk))|refine walk ?_)
 refine Zaq [(0,_),(1,_),(2,_),(6,_),(15,_),(16,_)] [] (fun k:Nat=>[(17,.int .i64 k)]) (fun _=>[]) (fun k=>k<=x.length/\decide (x.drop k=y.drop k)=res) (fun k=>x.length - k) 0 SFA .nil ⟨by omega,hres⟩ ?_
 rintro k ⟨hk,hi⟩
 repeat (first|(refine js ?_;(refine bx ?_;intro bk))|refine walk ?_)
 refine Zah rfl (fun hc=>?_) (fun hc=>?_)
 ·simp only[decide_eq_true_eq,Int.ofNat_lt]at hc
  have hcy:k<y.length:=by omega
  obtain⟨hna,cs1,⟨Ae,ce,hE,rfl⟩,hca⟩:=hA k _ (List.getElem?_eq_getElem hc)
  obtain⟨hnb,cs2,⟨Be,de,hF,rfl⟩,hcb⟩:=hB k _ (List.getElem?_eq_getElem hcy)
  rw[Zao hc,Zao hcy,ZfO]at hi
  generalize x[k]=p at *
  generalize y[k]=q at *
  repeat (first|(apply RL_pu;rfl;exact PuI)|(refine js ?_;(first|(apply Zap (f:=69) (us:=[]) (cs:=[]) (vs:=[.agg #[.string p.name,.slice Ae p.eras.length ce],.agg #[.string q.name,.slice Be q.eras.length de]]) (h:=fun w' hw _=>ZlJ Ae Be ce de p q w' (hE.up hw) (hF.up hw));rfl;rfl;rintro v O' ⟨rfl,rfl⟩)|(refine bx ?_;intro bk)))|refine walk1 ?_)
  refine Zah rfl (fun h3=>?_) (fun h3=>?_)
  ·repeat (first|(refine js ?_;(refine bx ?_;intro bk))|refine walk ?_)
   exact ret_1 _ [] (.tmp rfl) .nil ⟨by simp at h3;simp[<- hi,h3],rfl⟩
  repeat (first|(refine js ?_;(refine bx ?_;intro bk))|refine walk ?_)
  simp at h3
  exact⟨k+1,by omega,⟨by omega,by rw[<- hi];simp[h3]⟩,SFA,.nil⟩
 simp only[decide_eq_false_iff_not,Int.ofNat_lt]at hc
 repeat (first|(refine js ?_;(refine bx ?_;intro bk))|refine walk ?_)
 exact ret_1 _ [] (.tmp rfl) .nil ⟨by rw[<- hi,ZhG (by omega) (by omega)],rfl⟩
theorem ZjJ (a b:Zac):decide (a=b)=(decide (a.rules=b.rules)&&(decide (a.zones=b.zones)&&(decide (a.links=b.links)&&decide (a.shifts=b.shifts)))):=by
 rcases a with⟨_,_,_,_⟩
 rcases b with⟨_,_,_,_⟩
 rw[Bool.eq_iff_iff]
 simp
theorem ZiX (Ar Az Al As:Option Addr)(cr cz cl cs:Nat)(a:Zac)(Br Bz Bl Bs:Option Addr)(dr dz dl ds:Nat)(b:Zac)(w:World)(hA:Zan w Ar Az Al As cr cz cl cs a)(hB:Zan w Br Bz Bl Bs dr dz dl ds b) :
  Does Tryz.prog 31 [srcV Ar Az Al As cr cz cl cs a,srcV Br Bz Bl Bs dr dz dl ds b] w (fun v O=>v = .bool (decide (a=b))/\O=[]):=by
 rw[ZjJ]
 refine Zaa Tryz.func31 rfl rfl rfl rfl ?_
 repeat (first|(refine js ?_;(first|(refine Zae (fun w' hw=>ZjF Ar Br cr dr a.rules b.rules w' (hA.r.up hw) (hB.r.up hw)) ?_)|(refine bx ?_;intro bk)))|refine walk ?_)
 refine Zcx 10 rfl (fun g1=>?_) (fun g1=>?_)
 ·repeat (first|(refine js ?_;(first|(refine Zae (fun w' hw=>Zkn Az Bz cz dz a.zones b.zones w' (hA.z.up hw) (hB.z.up hw) hA.zle hA.zcap) ?_)|(refine bx ?_;intro bk)))|refine walk ?_)
  refine Zcx 17 rfl (fun g2=>?_) (fun g2=>?_)
  ·repeat (first|(refine js ?_;(first|(refine Zae (fun w' hw=>ZjG Al Bl cl dl a.links b.links w' (hA.l.up hw) (hB.l.up hw)) ?_)|(refine bx ?_;intro bk)))|refine walk ?_)
   refine Zcx 24 rfl (fun g3=>?_) (fun g3=>?_)
   ·repeat (first|(refine js ?_;(first|(refine Zae (fun w' hw=>Zgu As Bs cs ds a.shifts b.shifts w' (hA.s.up hw) (hB.s.up hw)) ?_)|(refine bx ?_;intro bk)))|refine walk ?_)
    exact ret_1 _ [] (.tmp rfl) .nil ⟨by rw[g1,g2,g3];rfl,rfl⟩
   repeat (first|(refine js ?_;(refine bx ?_;intro bk))|refine walk ?_)
   exact ret_1 _ [] (.tmp rfl) .nil ⟨by rw[g1,g2,g3];rfl,rfl⟩
  repeat (first|(refine js ?_;(refine bx ?_;intro bk))|refine walk ?_)
  exact ret_1 _ [] (.tmp rfl) .nil ⟨by rw[g1,g2];rfl,rfl⟩
 repeat (first|(refine js ?_;(refine bx ?_;intro bk))|refine walk ?_)
 exact ret_1 _ [] (.tmp rfl) .nil ⟨by rw[g1];rfl,rfl⟩
theorem Zpk (A B:Option Addr)(ca cb:Nat)(p q:ZaO)(w:World)(hA:RdSl w A ca DEra.enc 13 p.eras)(hB:RdSl w B cb DEra.enc 13 q.eras) :
  Does Tryz.prog 71 [.agg #[.string p.name,.slice A p.eras.length ca],.agg #[.string q.name,.slice B q.eras.length cb]] w (fun v O=>v = .bool (decide (p=q))/\O=[]):=by
 rw[ZrB]
 refine Zaa Tryz.func71 rfl rfl rfl rfl ?_
 repeat (first|(refine js ?_;(refine bx ?_;intro bk))|refine walk ?_)
 refine Zcx 10 rfl (fun g1=>?_) (fun g1=>?_)
 ·repeat (first|(refine js ?_;(first|(refine Zae (fun w' hw=>ZjH A B ca cb p.eras q.eras w' (hA.up hw) (hB.up hw)) ?_)|(refine bx ?_;intro bk)))|refine walk ?_)
  exact ret_1 _ [] (.tmp rfl) .nil ⟨by rw[g1];rfl,rfl⟩
 repeat (first|(refine js ?_;(refine bx ?_;intro bk))|refine walk ?_)
 exact ret_1 _ [] (.tmp rfl) .nil ⟨by rw[g1];rfl,rfl⟩
theorem Zpm (A B:Option Addr)(ca cb:Nat)(x y:List ZaO)(w:World)(hA:RdZ w A x)(hB:RdZ w B y)(hxc:x.length<=ca)(hc:ca<=maxLen) :
  Does Tryz.prog 68 [.slice A x.length ca,.slice B y.length cb,.func (.func 71) #[] #[]] w (fun v O=>v = .bool (decide (x=y))/\O=[]):=by
 unfold maxLen at hc
 generalize hres:decide (x=y)=res
 refine Zaa Tryz.func68 rfl rfl rfl rfl ?_
 repeat (first|(refine js ?_;(refine bx ?_;intro bk))|refine walk ?_)
 refine Zah rfl (fun h1=>?_) (fun h1=>?_)
 ·repeat (first|(refine js ?_;(refine bx ?_;intro bk))|refine walk ?_)
  exact ret_1 _ [] (.tmp rfl) .nil ⟨by rw[<- hres,ZhH];simp at h1;omega,rfl⟩
 have hlen:x.length=y.length:=by simp at h1;omega
 clear h1
 repeat (first|(refine js ?_;(refine bx ?_;intro bk))|refine walk ?_)
 refine Zaq [(0,_),(1,_),(2,_),(6,_),(15,_),(16,_)] [] (fun k:Nat=>[(17,.int .i64 k)]) (fun _=>[]) (fun k=>k<=x.length/\decide (x.drop k=y.drop k)=res) (fun k=>x.length - k) 0 SFA .nil ⟨by omega,hres⟩ ?_
 rintro k ⟨hk,hi⟩
 repeat (first|(refine js ?_;(refine bx ?_;intro bk))|refine walk ?_)
 refine Zah rfl (fun hc=>?_) (fun hc=>?_)
 ·simp only[decide_eq_true_eq,Int.ofNat_lt]at hc
  have hcy:k<y.length:=by omega
  obtain⟨hna,cs1,⟨Ae,ce,hE,rfl⟩,hca⟩:=hA k _ (List.getElem?_eq_getElem hc)
  obtain⟨hnb,cs2,⟨Be,de,hF,rfl⟩,hcb⟩:=hB k _ (List.getElem?_eq_getElem hcy)
  rw[Zao hc,Zao hcy,ZfO]at hi
  generalize x[k]=p at *
  generalize y[k]=q at *
  repeat (first|(apply RL_pu;rfl;exact PuI)|(refine js ?_;(first|(apply Zap (f:=71) (us:=[]) (cs:=[]) (vs:=[.agg #[.string p.name,.slice Ae p.eras.length ce],.agg #[.string q.name,.slice Be q.eras.length de]]) (h:=fun w' hw _=>Zpk Ae Be ce de p q w' (hE.up hw) (hF.up hw));rfl;rfl;rintro v O' ⟨rfl,rfl⟩)|(refine bx ?_;intro bk)))|refine walk1 ?_)
  refine Zah rfl (fun h3=>?_) (fun h3=>?_)
  ·repeat (first|(refine js ?_;(refine bx ?_;intro bk))|refine walk ?_)
   exact ret_1 _ [] (.tmp rfl) .nil ⟨by simp at h3;simp[<- hi,h3],rfl⟩
  repeat (first|(refine js ?_;(refine bx ?_;intro bk))|refine walk ?_)
  simp at h3
  exact⟨k+1,by omega,⟨by omega,by rw[<- hi];simp[h3]⟩,SFA,.nil⟩
 simp only[decide_eq_false_iff_not,Int.ofNat_lt]at hc
 repeat (first|(refine js ?_;(refine bx ?_;intro bk))|refine walk ?_)
 exact ret_1 _ [] (.tmp rfl) .nil ⟨by rw[<- hi,ZhG (by omega) (by omega)],rfl⟩
theorem Zpl (Ar Az Al As:Option Addr)(cr cz cl cs:Nat)(a:Zac)(Br Bz Bl Bs:Option Addr)(dr dz dl ds:Nat)(b:Zac)(w:World)(hA:Zan w Ar Az Al As cr cz cl cs a)(hB:Zan w Br Bz Bl Bs dr dz dl ds b) :
  Does Tryz.prog 32 [srcV Ar Az Al As cr cz cl cs a,srcV Br Bz Bl Bs dr dz dl ds b] w (fun v O=>v = .bool (decide (a=b))/\O=[]):=by
 rw[ZjJ]
 refine Zaa Tryz.func32 rfl rfl rfl rfl ?_
 repeat (first|(refine js ?_;(first|(refine Zae (fun w' hw=>ZjF Ar Br cr dr a.rules b.rules w' (hA.r.up hw) (hB.r.up hw)) ?_)|(refine bx ?_;intro bk)))|refine walk ?_)
 refine Zcx 11 rfl (fun g1=>?_) (fun g1=>?_)
 ·repeat (first|(refine js ?_;(first|(refine Zae (fun w' hw=>Zpm Az Bz cz dz a.zones b.zones w' (hA.z.up hw) (hB.z.up hw) hA.zle hA.zcap) ?_)|(refine bx ?_;intro bk)))|refine walk ?_)
  refine Zcx 19 rfl (fun g2=>?_) (fun g2=>?_)
  ·repeat (first|(refine js ?_;(first|(refine Zae (fun w' hw=>ZjG Al Bl cl dl a.links b.links w' (hA.l.up hw) (hB.l.up hw)) ?_)|(refine bx ?_;intro bk)))|refine walk ?_)
   refine Zcx 26 rfl (fun g3=>?_) (fun g3=>?_)
   ·repeat (first|(refine js ?_;(first|(refine Zae (fun w' hw=>Zgu As Bs cs ds a.shifts b.shifts w' (hA.s.up hw) (hB.s.up hw)) ?_)|(refine bx ?_;intro bk)))|refine walk ?_)
    exact ret_1 _ [] (.tmp rfl) .nil ⟨by rw[g1,g2,g3];rfl,rfl⟩
   repeat (first|(refine js ?_;(refine bx ?_;intro bk))|refine walk ?_)
   exact ret_1 _ [] (.tmp rfl) .nil ⟨by rw[g1,g2,g3];rfl,rfl⟩
  repeat (first|(refine js ?_;(refine bx ?_;intro bk))|refine walk ?_)
  exact ret_1 _ [] (.tmp rfl) .nil ⟨by rw[g1,g2];rfl,rfl⟩
 repeat (first|(refine js ?_;(refine bx ?_;intro bk))|refine walk ?_)
 exact ret_1 _ [] (.tmp rfl) .nil ⟨by rw[g1];rfl,rfl⟩
theorem Zpe (Ar Az Al As:Option Addr)(cr cz cl cs:Nat)(a:Zac)(Br Bz Bl Bs:Option Addr)(dr dz dl ds:Nat)(b:Zac)(w:World)(hA:Zan w Ar Az Al As cr cz cl cs a)(hB:Zan w Br Bz Bl Bs dr dz dl ds b) :
  Does Tryz.prog 10 [srcV Ar Az Al As cr cz cl cs a,srcV Br Bz Bl Bs dr dz dl ds b] w (fun v O=>v = .bool (decide (a=b))/\O=[]):=by
 have hss:=fun w' (hw:Bel w.heap.size w w')=>ZiX Ar Az Al As cr cz cl cs a Br Bz Bl Bs dr dz dl ds b w' (hA.up hw) (hB.up hw)
 have hps:=fun w' (hw:Bel w.heap.size w w')=>Zpl Ar Az Al As cr cz cl cs a Br Bz Bl Bs dr dz dl ds b w' (hA.up hw) (hB.up hw)
 unfold srcV at *
 refine Zaa Tryz.func10 rfl rfl rfl rfl ?_
 obtain⟨q,hq⟩:∃ q,decide (a=b)=q:=⟨_,rfl⟩
 simp only[hq]at hss hps ⊢
 clear hq
 cases q with
 | true =>
  repeat (first|refine und ?_|(refine js ?_;(first|(refine Zae hss ?_)|(refine Zae hps ?_)|(refine bx ?_;intro bk)))|refine walk ?_)
  exact rtA
 | false =>
  repeat (first|refine und ?_|(refine js ?_;(first|(refine Zae hss ?_)|(refine Zae hps ?_)|(refine bx ?_;intro bk)))|refine walk ?_)
  exact rtA
end Go.Proofs.YtbjomhdhkpgbaaaGreatDoor
set_option maxHeartbeats 8000000
namespace Go.Proofs.YtbjomhdhkpgbaaaGreatDoor
open Go Go.RowKit Go.Wk
attribute [local irreducible] W RL Does Zar Zal retQ Calls Pu Stp RD Qy Ay Zak
theorem Zmt {n:Nat}{wr:World}{fr:Fr}{O:List It}{ty t':TypeId}{x y:Operand}{p q:Zas}{b:Bool}(hx:ev fr x=some (.agg p.enc.toArray))(hy:ev fr y=some (.agg q.enc.toArray))(h:decide (p=q)=b):Pu Tryz.prog n wr fr O (.binOp .eql 36 x y t') ty (.bool b):=h▸Pu_eqlE hx hy
theorem Zt2 (Ar Az Al As:Option Addr)(cr cz cl cs:Nat)(a:Zac)(form:Int)(Br Bz Bl Bs:Option Addr)(dr dz dl ds:Nat)(b:Zac)(w:World)(h:Zd5 w Ar Az Al As cr cz cl cs a)(hn:Fits a)(hform:form=1\/form=2\/form=3)(hacc:accD a=none)(hff:Zc0 a≠[])(ht:toB form a=true)(hB:Zan w Br Bz Bl Bs dr dz dl ds b) :
  Does Tryz.prog 11 [srcV Ar Az Al As cr cz cl cs a,.int .i64 form,srcV Br Bz Bl Bs dr dz dl ds b] w (fun v O=>v = .bool (decide (toD form a=b))/\O=[]):=by
 have hto:=fun w' (hw:Bel w.heap.size w w')=>ZmR Ar Az Al As cr cz cl cs a form w' (h.up hw) hn hform hacc hff ht
 have e0:decide ((0:Int)=0)=true:=rfl
 unfold ToS at hto
 simp only[plV,Zas.enc]at hto
 unfold srcV at *
 refine Zaa Tryz.func11 rfl rfl rfl rfl ?_
 repeat (first|refine und ?_|(apply RL_pu;rfl;(first|(apply ZaA;rfl;rfl;exact e0)|(apply Zmt (p:=⟨0,0,0⟩) (q:=⟨0,0,0⟩);rfl;rfl;rfl)))|(refine js ?_;(first|(apply Zad (h:=fun w' hw _=>hto w' hw);rfl;rintro v O' ⟨u,rfl,A6,c6,A7,c7,A8,c8,A9,c9,Z6,S6,rfl,hZ6,rfl⟩)|(refine ZaX (fun w' hw hO=>Zpe A6 A7 A8 A9 c6 c7 c8 c9 (toD form a) Br Bz Bl Bs dr dz dl ds b w' (Zbt hZ6 (hO.of (A:=rowR A6 c6 (toD form a).rules) (by repeat' constructor)) (hO.of (A:=rowZ A7 c7 Z6) (by repeat' constructor)) (hO.of (A:=rowL A8 c8 (toD form a).links) (by repeat' constructor)) (hO.of (A:=rowS A9 c9 (toD form a).shifts) (by repeat' constructor)) (hO.of (A := .fact S6 (ZaN Z6)) (by repeat' constructor))) (hB.up hw)) ?_)|(refine bx ?_;intro bk)))|refine walk1 ?_)
 exact rtA
end Go.Proofs.YtbjomhdhkpgbaaaGreatDoor
namespace Go.Wk
open Go Go.RowKit
structure SpG where
 k:Nat
 st:Int
 A:Option Addr
 c:Nat
 m:Nat
 xs:List Value
 acc:List Zb8
 mp:List (ByteArray × Value)
 S:Nat->Prop
 P:World->Prop
end Go.Wk
namespace Go.Proofs.YtbjomhdhkpgbaaaGreatDoor
open Go Go.RowKit Go.Wk
attribute [local irreducible] W RL Does Zar Zal retQ Calls Pu Stp RD Qy Ay Zak
def spGo (rs:List Zab):List DEra->Int->Nat->Option (List Zb8)
 | [],_,_=>some []
 | [_],st,i=>some [⟨st,9223372036854775807,i⟩]
 | e::f::l,st,i=>if endT e (ruEr rs e)<=st then none else (spGo rs (f::l) (endT e (ruEr rs e)) (i+1)).map fun r=>⟨st,endT e (ruEr rs e),i⟩::r
def Zm1 (rs:List Zab)(l:List DEra):Option (List Zb8):=spGo rs l (-9223372036854775808) 0
def SpR (l:List Zb8)(v:Value)(O:List It):Prop:=∃ A c,v = .tuple #[.slice A l.length c,.int .i64 0]/\O=[.row (.slice A l.length c) 152 3 l.length (l.flatMap Zb8.enc)]
theorem Zxj {G:Prop}(h:G:=by(first|(apply Za2;rfl;rfl;exact hb0)|(apply ZcJ;rfl;rfl;exact hb1)|(apply Pu_indexAddr;rfl;rfl;omega;omega;exact hnz)|(apply Pu_loadO1;rfl;exact hcz 1 _ rfl))):G:=h
theorem ZzY {G:Prop}(h:G:=by first|(apply Qy_y;rfl;exact Zxj)|exact QyA):G:=h
theorem ZCV {G:Prop}(h:G:=by repeat (first|exact QF.nil|(apply QF.mk;rfl;rfl;decide +kernel;exact ZzY))):G:=h
theorem Zxi {G:Prop}(h:G:=by(first|exact PuI|(apply Za2;rfl;rfl;exact q1)|(apply ZeP;rfl;rfl;exact q2))):G:=h
theorem ZzX {G:Prop}(h:G:=by first|(apply Qy_y;rfl;exact Zxi)|exact QyA):G:=h
theorem ZCU {G:Prop}(h:G:=by repeat (first|exact QF.nil|(apply QF.mk;rfl;rfl;decide +kernel;exact ZzX))):G:=h
theorem ZAr {G:Prop}(h:G:=by(first|exact PuI|(apply Za2;rfl;rfl;exact q1))):G:=h
set_option maxHeartbeats 4000000 in
theorem Zsv (Ar Az Al As:Option Addr)(cr cz cl cs:Nat)(a:Zac)(i:Nat)(z:ZaO)(res:List Zb8)(w:World)(hG:Glob w)(hA:Zan w Ar Az Al As cr cz cl cs a)(hn:a.rules.length<=1000000)(hl:z.eras.length<=1000000)(hz:a.zones[i]?=some z)
  (hE:∀ k e,z.eras[k]?=some e->k+1<z.eras.length->RsSm (ruEr a.rules e)/\UnOk e (ruEr a.rules e)) (hsp:Zm1 a.rules z.eras=some res) :
  Does Tryz.prog 78 [srcV Ar Az Al As cr cz cl cs a,.int .i64 i] w (SpR res):=by
 have hil:i<a.zones.length:=(List.getElem?_eq_some_iff.1 hz).1
 obtain⟨hnz,cs1,⟨Ae,ce,hEz,rfl⟩,hcz⟩:=hA.z i _ hz
 have hcpz:=hA.zcap
 simp only[maxLen]at hcpz
 have hb0:decide ((i:Int)<0)=false:=decide_eq_false (by omega)
 have hb1:decide ((a.zones.length:Int)<=(i:Int))=false:=decide_eq_false (by omega)
 refine Zaa Tryz.func78 rfl rfl rfl rfl ?_
 repeat (first|(apply RL_pu;rfl;exact Zxj)|(apply RD_Q;rfl;rfl;decide +kernel;rfl;rfl;exact ZzY)|refine walk1 ?_|(refine jn ?_;(try intro F);(first|(refine bx ?_;intro bk)|(refine stA ?_)|(apply Zag;first|exact Zxj|exact PuA));first|refine⟨_,EndsA,ZCV,?_⟩|refine fin ?_)|(apply RD_W;rfl;intro bk))
 rename_i bm _
 generalize bk=b6
 have hel:=hEz.le
 have hec:=hEz.cap
 simp only[maxLen]at hec
 refine Zdj 152 3 ?_
 refine ZeM [] [.row (.slice none 0 0) 152 3 0 [],.blk b6 [.slice Ar a.rules.length cr,.slice Az a.zones.length cz,.slice Al a.links.length cl,.slice As a.shifts.length cs,.map (some bm)] 190,.mp bm []] (fun w=>KnAt a.rules [] w) SOA (fun w' _ k A n c hk=>by cases hk) ?_
 refine Zaq [(6,.pointer (some ⟨b6,0,none⟩)),(9,.slice Ae z.eras.length ce),(33,.slice Ae z.eras.length ce),(34,.int .i64 z.eras.length)] [.blk b6 [.slice Ar a.rules.length cr,.slice Az a.zones.length cz,.slice Al a.links.length cl,.slice As a.shifts.length cs,.map (some bm)] 190]
  (fun g:SpG=>[(7,.slice g.A g.m g.c),(8,.int .i64 g.st),(35,.int .i64 g.k)]) (fun g=>[.row (.slice g.A g.m g.c) 152 3 g.m g.xs,.mp bm g.mp,.fact g.S g.P])
  (fun g=>g.k<=z.eras.length/\g.m=g.acc.length/\g.xs=g.acc.flatMap Zb8.enc/\g.m=g.k/\KnP a.rules g.mp/\(∀ w,g.P w->KnAt a.rules g.mp w)/\∃ rest,spGo a.rules (z.eras.drop g.k) g.st g.k=some rest/\g.acc++rest=res) (fun g=>z.eras.length - g.k)
  ⟨0,-9223372036854775808,none,0,0,[],[],[],foot [],KnAt a.rules []⟩ SFA SOA ⟨Nat.zero_le _,rfl,rfl,rfl,(fun k v hk=>by cases hk),fun _ h=>h,res,hsp,rfl⟩ ?_
 rintro⟨k,st,A,c,m,xs,acc,mp,S,P⟩ ⟨hk,hm,hx,hmk,hP,hK,rest,hi,hacc⟩
 dsimp only at hk hm hx hmk hP hK hi hacc ⊢
 repeat (first|refine walk ?_|(refine jn ?_;(try intro F);(first|(refine bx ?_;intro bk)|(refine stA ?_)|(apply Zag;exact PuA));refine fin ?_)|(apply RD_W;rfl;intro bk))
 refine Zah rfl (fun hc=>?_) (fun hc=>?_)
 ·simp only[decide_eq_true_eq,Int.ofNat_lt]at hc
  obtain⟨hna,hca⟩:=hEz.rd k _ (List.getElem?_eq_getElem hc)
  have hgk:=List.getElem?_eq_getElem hc
  rw[Zao hc]at hi
  generalize z.eras[k]=e at *
  by_cases hlast:k+1<z.eras.length
  ·have q1:decide ((k:Int)<(z.eras.length:Int) - 1)=true:=decide_eq_true (by omega)
   obtain⟨hsm,hun⟩:=hE k _ hgk hlast
   rw[Zao hlast,spGo]at hi
   have hin:=fun(A3:Option Addr) (c3:Nat) w' (hw:Bel w.heap.size w w') hR=>Zsr e A3 c3 (ruEr a.rules e) w' (hG.up hw) hR hsm hun
   have hru:=fun R=>Zp7 Ar Az Al As cr cz cl cs a bm mp S P R e w hA hn hP hK
   have hrl:(ruEr a.rules e).length<=1000000:=hsm.n
   generalize endT e (ruEr a.rules e)=T at *
   by_cases hT:T<=st
   ·rw[if_pos hT]at hi
    cases hi
   rw[if_neg hT,<- Zao hlast]at hi
   have q2:decide (T<=st)=false:=decide_eq_false hT
   obtain⟨r2,hr2,rfl⟩:=Option.map_eq_some_iff.1 hi
   unfold BkR at hru
   generalize ruEr a.rules e=rr at *
   obtain⟨off,kd,esv,sset,fm,⟨ui,uy,um,⟨ud1,ud2,ud3⟩,⟨uc1,uc2⟩⟩⟩:=e
   simp only[DEra.enc]at hca hin hru
   unfold ZCB at hru
   repeat (first|(apply RL_pu;rfl;exact Zxi)|(apply RD_Q;rfl;rfl;decide +kernel;rfl;rfl;exact ZzX)|refine walk1 ?_|(refine Zdc ?_;intro F;(first|(apply ZaM (h:=hru _);rfl;exact .cons (by repeat' constructor) (.cons (by repeat' constructor) (.refl _));rintro v O' ⟨A3,c3,m3,S3,rfl,hP3,rfl⟩)|(apply Zad (h:=fun w' hw hH=>hin A3 c3 w' hw (Za6 (hH.of (A := .fact S3 (fun w=>KnAt a.rules m3 w/\RdSl w A3 c3 Zab.enc 11 rr)) (by repeat' constructor))).2);rfl;rintro v O' ⟨rfl,rfl⟩));refine⟨_,EndsA,SubO.right _ _,?_⟩)|(refine jn ?_;(try intro F);(first|(apply ZaM (h:=hru _);rfl;exact .cons (by repeat' constructor) (.cons (by repeat' constructor) (.refl _));rintro v O' ⟨A3,c3,m3,S3,rfl,hP3,rfl⟩)|(apply Zad (h:=fun w' hw hH=>hin A3 c3 w' hw (Za6 (hH.of (A := .fact S3 (fun w=>KnAt a.rules m3 w/\RdSl w A3 c3 Zab.enc 11 rr)) (by repeat' constructor))).2);rfl;rintro v O' ⟨rfl,rfl⟩)|(apply Zay;rfl;rfl;(intro A' c';(focus repeat' constructor));(intro w' _ hO;exact Zbv (hO.of (by repeat' constructor)));rfl;rfl;(simp only[maxLen];omega);omega;intro A' c' hc1 hc2 hc3)|(refine bx ?_;intro bk)|(refine stA ?_)|(apply Zag;first|exact Zxi|exact PuA));first|refine⟨_,EndsA,ZCU,?_⟩|refine fin ?_)|(apply RD_W;rfl;intro bk))
   exact⟨⟨k+1,T,A',c',m+1,xs++(⟨st,T,k⟩:Zb8).enc,acc++[⟨st,T,k⟩],m3,S3,fun w=>KnAt a.rules m3 w/\RdSl w A3 c3 Zab.enc 11 rr⟩,OA,⟨OA,by simp[hm],by rw[hx];exact Zfs acc _,OA,hP3,fun _ h=>h.1,r2,hr2,by rw[<- hacc];simp⟩,SFA,SOA⟩
  ·have q1:decide ((k:Int)<(z.eras.length:Int) - 1)=false:=decide_eq_false (by omega)
   rw[List.drop_eq_nil_of_le (by omega),spGo]at hi
   cases hi
   obtain⟨off,kd,esv,sset,fm,⟨ui,uy,um,⟨ud1,ud2,ud3⟩,⟨uc1,uc2⟩⟩⟩:=e
   simp only[DEra.enc]at hca
   repeat (first|(apply RL_pu;rfl;exact ZAr)|(apply RD_Q;rfl;rfl;decide +kernel;rfl;rfl;exact QyErC2)|refine walk1 ?_|(refine jn ?_;(try intro F);(first|(apply Zay;rfl;rfl;(intro A' c';(focus repeat' constructor));(intro w' _ hO;exact Zbv (hO.of (by repeat' constructor)));rfl;rfl;(simp only[maxLen];omega);omega;intro A' c' hc1 hc2 hc3)|(refine bx ?_;intro bk)|(refine stA ?_)|(apply Zag;first|exact ZAr|exact PuA));first|refine⟨_,EndsA,QFErC2,?_⟩|refine fin ?_)|(apply RD_W;rfl;intro bk))
   exact⟨⟨k+1,9223372036854775807,A',c',m+1,xs++(⟨st,9223372036854775807,k⟩:Zb8).enc,acc++[⟨st,9223372036854775807,k⟩],mp,S,P⟩,OA,⟨OA,by simp[hm],by rw[hx];exact Zfs acc _,OA,hP,hK,[],by dsimp only;rw[List.drop_eq_nil_of_le (by omega)];rfl,by rw[List.append_nil];exact hacc⟩,SFA,SOA⟩
 ·simp only[decide_eq_false_iff_not,Int.ofNat_lt]at hc
  obtain rfl:k=z.eras.length:=by omega
  rw[List.drop_length,spGo]at hi
  cases hi
  rw[List.append_nil]at hacc
  subst hacc
  repeat (first|refine walk ?_|(refine jn ?_;(try intro F);(first|(refine bx ?_;intro bk)|(refine stA ?_)|(apply Zag;exact PuA));refine fin ?_)|(apply RD_W;rfl;intro bk))
  exact ret_2 _ _ [.row (.slice A acc.length c) 152 3 acc.length (acc.flatMap Zb8.enc)] (.tmp rfl) (.tmp rfl) (by subst hm hx;exact SOA) ⟨A,c,by rw[hm],rfl⟩
end Go.Proofs.YtbjomhdhkpgbaaaGreatDoor
namespace Go.Wk
open Go Go.RowKit
theorem Zip {least:Int}{r:Zab}{i y:Int}{e:Zaf}(h:onR least r i y=some e):e.year=y/\e.rule=i/\max r.from_ (-2000000000)<=y/\y<=2000000000/\-604799<=r.at_.sec/\r.at_.sec<=604799/\(onD y r.month r.day).2=0/\e.nominal=86400*(onD y r.month r.day).1+(r.at_.sec+(if r.at_.base=1 then max least (-10800) else 0)):=by
 unfold onR at h
 split at h
 ·cases h
 rename_i h1
 split at h
 ·cases h
 rename_i h2
 cases h
 have hc:ZaQ r.at_=true:=by
  cases hc:ZaQ r.at_
  ·exact absurd (.inr (.inr hc)) h1
  ·rfl
 simp only[ZaQ,Bool.and_eq_true,decide_eq_true_eq]at hc
 have hl:¬ lastY r<y:=fun h=>h1 (.inr (.inl h))
 have hl2:lastY r<=2000000000:=by unfold lastY;split <;> omega
 refine⟨rfl,rfl,?_,by omega,hc.1.1.1,hc.1.1.2,Decidable.not_not.1 h2,?_⟩
 ·have:¬ y<max r.from_ (-2000000000):=fun h=>h1 (.inl h)
  omega
 ·dsimp only
  omega
end Go.Wk
