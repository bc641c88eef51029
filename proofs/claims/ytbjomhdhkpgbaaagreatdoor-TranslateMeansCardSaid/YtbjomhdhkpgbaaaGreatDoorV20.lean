/- Parts of the proof. -/
import Derived.Test.YtbjomhdhkpgbaaaGreatDoorV13
import Derived.Shelf.SlSortCmp.NoneTotal
import Derived.Shelf.Lay
import Derived.Test.YtbjomhdhkpgbaaaGreatDoorV05
import Derived.Sort.Grow
import Derived.Deep.Draws
import Derived.Deep.RegionHeld3
import Derived.Test.YtbjomhdhkpgbaaaGreatDoorV12
import Derived.Test.YtbjomhdhkpgbaaaGreatDoorV17
import Derived.Test.YtbjomhdhkpgbaaaGreatDoorV09
import Derived.Test.YtbjomhdhkpgbaaaGreatDoorV19
import Derived.Test.YtbjomhdhkpgbaaaGreatDoorV15
import Derived.Test.YtbjomhdhkpgbaaaGreatDoorV11
set_option maxHeartbeats 4000000
set_option linter.unusedVariables false
set_option linter.unusedSimpArgs false
namespace Go.Proofs.YtbjomhdhkpgbaaaGreatDoor
open Go Go.RowKit Go.Wk Go.Lib
attribute [local irreducible] W RL Does Zar Zal retQ Calls Pu Stp RD Qy Ay Zak RW
structure LtG where
 k:Nat
 A:Option Addr
 c:Nat
 m:Nat
 ys:List Value
theorem Zxb {G:Prop}(h:G:=by(first|(apply ZaB;rfl;rfl;omega;omega;(intro w' _ hO;exact(Zcb (hO.of (A := .row (.slice A1 L.length c1) 9 1 L.length (L.flatMap Zav)) (by repeat' constructor)) hg1).1))|(apply ZdU;rfl;(focus repeat' constructor);exact hg1))):G:=h
theorem Zxa {G:Prop}(h:G:=by(apply ZeN;rfl;rfl;exact hb)):G:=h
theorem Zw9 {G:Prop}(h:G:=by(apply ZaH;rfl;rfl;exact hb)):G:=h
theorem ZpP (e:DEra)(A:Option Addr)(c:Nat)(l:List Zab)(w:World)(hL:LibW w)(hA:RdSl w A c Zab.enc 11 l)(ho:I64 e.off)(hs:I64 e.save)(hr:∀ r∈l,I64 r.save)(hn:l.length<=1000000)(hfs:e.format.size<=1000000000)(hlt:∀ r∈l,r.letter.size<=1000000000) :
  Does Tryz.prog 136 [.agg e.enc.toArray,.slice A l.length c] w (fun v O=>v = .int .i64 (ZdF e l)/\O=[]):=by
 have hk:=fun w' (hw:Bel w.heap.size w w')=>Zfo e.format w' (hL.up hw) hfs
 have hx:=fun w' (hw:Bel w.heap.size w w')=>Zgt e A c l w' (hA.up hw) ho hs hr hn
 have hab:=fun(x:ByteArray) (hx:x.size<=1000000000) w' (hw:Bel w.heap.size w w')=>ZhC e.format x 0 0 w' (hL.up hw) hfs hx ⟨by decide,by decide⟩ ⟨by decide,by decide⟩
 unfold ZdF
 dsimp only
 obtain⟨L,hLt⟩:∃ L:List ByteArray,(if e.kind=2 then l.map (·.letter) else [ByteArray.empty])=L:=⟨_,rfl⟩
 have hLe:(if e.kind=2 then l.map (fun r=>r.letter.data.toList) else [[]])=L.map (·.data.toList):=by
  rw[<- hLt]
  split
  ·rw[List.map_map];rfl
  ·rfl
 have hLs:∀ x∈L,x.size<=1000000000:=by
  rw[<- hLt]
  intro x hx
  split at hx
  ·obtain⟨r,hr,rfl⟩:=List.mem_map.1 hx;exact hlt r hr
  ·simp only[List.mem_singleton]at hx;subst hx;decide
 have hLn:L.length<=1000001:=by
  rw[<- hLt]
  split
  ·rw[List.length_map];omega
  ·decide
 rw[hLe]
 obtain⟨off,kind,save,set,format,til⟩:=e
 dsimp only at ho hs hk hx hab hfs hLt ⊢
 generalize ZaP format.data.toList=K at *
 obtain⟨xv,hxv⟩:∃ xv,Zbi ⟨off,kind,save,set,format,til⟩ l=xv:=⟨_,rfl⟩
 rw[hxv]at hx ⊢
 obtain⟨xt,xe⟩:=xv
 simp only[xpV,DEra.enc]at hx hab ⊢
 refine Zaa Tryz.func136 rfl rfl rfl rfl ?_
 repeat (first|(refine js ?_;(refine bx ?_;intro bk))|refine Zkj ?_)
 rename_i b2
 obtain⟨b1,hb1⟩:∃ b1,bk=b1:=⟨_,rfl⟩
 rw[hb1]
 clear hb1 bk
 refine ZBA (fun fr' O'=>∃ A1 c1,Sub [(2,.pointer (some ⟨b2,0,none⟩)),(1,.slice A l.length c),(5,.slice A1 L.length c1)] fr'/\SubO [.row (.slice A1 L.length c1) 9 1 L.length (L.flatMap Zav),.blk b2 [.int .i64 off,.int .i64 kind,.int .i64 save,.string set,.string format,.bool til.is,.int .i64 til.year,.int .i64 til.month,.int .i64 til.day.kind,.int .i64 til.day.week,.int .i64 til.day.day,.int .i64 til.at_.sec,.int .i64 til.at_.base] 54] O') ?_ ?_
 ·refine Zah rfl (fun h=>?_) (fun h=>?_)
  ·rw[if_pos (of_decide_eq_true h)]at hLt
   subst hLt
   repeat (first|(refine js ?_;(refine bx ?_;intro bk))|refine walk ?_)
   refine Zdj 9 1 ?_
   refine Zaq [(2,.pointer (some ⟨b2,0,none⟩)),(1,.slice A l.length c),(19,.slice A l.length c),(20,.int .i64 l.length)] [.blk b2 [.int .i64 off,.int .i64 kind,.int .i64 save,.string set,.string format,.bool til.is,.int .i64 til.year,.int .i64 til.month,.int .i64 til.day.kind,.int .i64 til.day.week,.int .i64 til.day.day,.int .i64 til.at_.sec,.int .i64 til.at_.base] 54] (fun g:LtG=>[(5,.slice g.A g.m g.c),(21,.int .i64 g.k)]) (fun g=>[.row (.slice g.A g.m g.c) 9 1 g.m g.ys])
    (fun g=>g.k<=l.length/\g.m=g.k/\g.ys=((l.take g.k).map (·.letter)).flatMap Zav) (fun g=>l.length - g.k) ⟨0,none,0,0,[]⟩ SFA SOA ⟨Nat.zero_le _,rfl,rfl⟩ ?_
   rintro⟨k,A1,c1,m,ys⟩ ⟨hkl,hm,hy⟩
   dsimp only at hkl hm hy ⊢
   repeat (first|(refine js ?_;(refine bx ?_;intro bk))|refine walk ?_)
   refine Zah rfl (fun hc=>?_) (fun hc=>?_)
   ·simp only[decide_eq_true_eq,Int.ofNat_lt]at hc
    obtain⟨hna,hca⟩:=hA.rd k _ (List.getElem?_eq_getElem hc)
    have htk:=List.take_append_getElem hc
    generalize l[k]=r at *
    repeat (first|(apply RL_pu;rfl;exact PuI)|(refine js ?_;(first|(apply Zay;rfl;rfl;(intro A' c';(focus repeat' constructor));(intro w' _ hO;exact Zbv (hO.of (by repeat' constructor)));rfl;rfl;(simp only[maxLen];omega);omega;intro A' c' hc1 hc2 hc3)|(refine bx ?_;intro bk)))|refine walk1 ?_)
    exact⟨⟨k+1,A',c',m+1,ys++[.string r.letter]⟩,OA,⟨OA,OA,by dsimp only;rw[hy,<- htk];simp[Zav]⟩,SFA,SOA⟩
   ·obtain rfl:k=l.length:=by simp only[decide_eq_false_iff_not,Int.ofNat_lt]at hc;omega
    rw[List.take_length]at hy
    subst hm hy
    repeat (first|(refine js ?_;(refine bx ?_;intro bk))|refine walk ?_)
    rw[List.length_map]
    exact⟨A1,c1,SFA,SOA⟩
  ·rw[if_neg (of_decide_eq_false h)]at hLt
   subst hLt
   refine Zwn (b:=b1) (m:=1) 1 (by repeat' constructor) rfl (by decide) ?_
   repeat (first|(refine js ?_;(refine bx ?_;intro bk))|refine walk ?_)
   exact⟨some ⟨b1,0,none⟩,1,SFA,SOA⟩
 rintro fr' O' ⟨A1,c1,hf,hO⟩
 refine ZcH hf hO ?_
 clear hf hO fr' O' hLt hLe b1
 by_cases k0:K=0
 ·subst k0
  rw[if_pos rfl]
  repeat (first|(refine js ?_;(first|(refine Zae hk ?_)|(refine bx ?_;intro bk)))|refine walk ?_)
  exact rtA
 have e0:decide (K=0)=false:=decide_eq_false k0
 rw[if_neg k0]
 by_cases k3:K=3
 ·subst k3
  rw[if_pos rfl]
  obtain⟨res,hres⟩:∃ res,ZeC format.data.toList (L.map (·.data.toList))=res:=⟨_,rfl⟩
  rw[hres]
  repeat (first|(refine js ?_;(first|(refine Zae hk ?_)|(refine bx ?_;intro bk)))|refine walk ?_)
  refine Zaq [(2,.pointer (some ⟨b2,0,none⟩)),(39,.slice A1 L.length c1),(40,.int .i64 L.length)] [.row (.slice A1 L.length c1) 9 1 L.length (L.flatMap Zav),.blk b2 [.int .i64 off,.int .i64 kind,.int .i64 save,.string set,.string format,.bool til.is,.int .i64 til.year,.int .i64 til.month,.int .i64 til.day.kind,.int .i64 til.day.week,.int .i64 til.day.day,.int .i64 til.at_.sec,.int .i64 til.at_.base] 54] (fun k:Nat=>[(41,.int .i64 k)]) (fun _=>[]) (fun k=>k<=L.length/\ZeC format.data.toList ((L.drop k).map (·.data.toList))=res) (fun k=>L.length - k) 0 SFA SOA ⟨Nat.zero_le _,hres⟩ ?_
  rintro k ⟨hkl,hi⟩
  repeat (first|(refine js ?_;(refine bx ?_;intro bk))|refine walk ?_)
  refine Zah rfl (fun hc=>?_) (fun hc=>?_)
  ·simp only[decide_eq_true_eq,Int.ofNat_lt]at hc
   have hg1:(L.flatMap Zav)[k*1]?=some (.string L[k]):=by
    have:=ZaK (enc:=Zav) (fun _=>rfl) L k _ 0 (.string L[k]) (List.getElem?_eq_getElem hc) rfl
    simpa using this
   rw[Zao hc,List.map_cons,ZeC]at hi
   have hxs:=hLs _ (List.getElem_mem hc)
   generalize L[k]=x at *
   have ha:=hab x hxs
   generalize ZbO format.data.toList 0 0 x.data.toList=av at *
   obtain⟨at_,ae⟩:=av
   dsimp only at ha hi
   by_cases hz:ae=0
   ·subst hz
    rw[if_pos rfl]at hi
    repeat (first|(apply RL_pu;rfl;exact Zxb)|(refine js ?_;(first|(refine Zae ha ?_)|(refine bx ?_;intro bk)))|refine walk1 ?_)
    exact⟨k+1,OA,⟨OA,hi⟩,SFA,SOA⟩
   ·rw[if_neg hz]at hi
    subst hi
    have hb:(!decide (ae=0))=true:=by rw[decide_eq_false hz];rfl
    repeat (first|(apply RL_pu;rfl;(first|exact Zxb|(apply ZaH;rfl;rfl;exact hb)))|(refine js ?_;(first|(refine Zae ha ?_)|(refine bx ?_;intro bk)))|refine walk1 ?_)
    exact rtA
  ·simp only[decide_eq_false_iff_not,Int.ofNat_lt]at hc
   rw[List.drop_eq_nil_of_le (by omega)]at hi
   subst hi
   repeat (first|(refine js ?_;(refine bx ?_;intro bk))|refine walk ?_)
   exact rtA
 have e3:decide (K=3)=false:=decide_eq_false k3
 rw[if_neg k3]
 by_cases k45:K=4\/K=5
 ·rw[if_pos k45]
  by_cases hxe:xe=0
  ·subst hxe
   rcases k45 with rfl|rfl
   ·rw[if_neg (by rintro(h|⟨h,_⟩);exact h rfl;omega)]
    repeat (first|refine und ?_|(refine js ?_;(first|(refine Zae hk ?_)|(refine Zae hx ?_)|(refine bx ?_;intro bk)))|refine walk ?_)
    exact rtA
   ·by_cases hxt:xt=format.data.toList
    ·have hb:(!decide ((⟨xt.toArray⟩:ByteArray)=format))=false:=by rw[decide_eq_true (by rw[hxt])];rfl
     rw[if_neg (by rintro(h|⟨_,h⟩);exact h rfl;exact h hxt)]
     repeat (first|refine und ?_|(apply RL_pu;rfl;exact Zxa)|(refine js ?_;(first|(refine Zae hk ?_)|(refine Zae hx ?_)|(refine bx ?_;intro bk)))|refine walk1 ?_)
     exact rtA
    ·have hb:(!decide ((⟨xt.toArray⟩:ByteArray)=format))=true:=by rw[decide_eq_false (fun h=>hxt (by rw[<- h]))];rfl
     rw[if_pos (.inr ⟨rfl,hxt⟩)]
     repeat (first|refine und ?_|(apply RL_pu;rfl;exact Zxa)|(refine js ?_;(first|(refine Zae hk ?_)|(refine Zae hx ?_)|(refine bx ?_;intro bk)))|refine walk1 ?_)
     exact rtA
  ·have hb:(!decide (xe=0))=true:=by rw[decide_eq_false hxe];rfl
   rw[if_pos (.inl hxe)]
   rcases k45 with rfl|rfl
   ·repeat (first|refine und ?_|(apply RL_pu;rfl;exact Zw9)|(refine js ?_;(first|(refine Zae hk ?_)|(refine Zae hx ?_)|(refine bx ?_;intro bk)))|refine walk1 ?_)
    exact rtA
   ·repeat (first|refine und ?_|(apply RL_pu;rfl;exact Zw9)|(refine js ?_;(first|(refine Zae hk ?_)|(refine Zae hx ?_)|(refine bx ?_;intro bk)))|refine walk1 ?_)
    exact rtA
 rw[if_neg k45]
 have e4:decide (K=4)=false:=decide_eq_false (fun h=>k45 (.inl h))
 have e5:decide (K=5)=false:=decide_eq_false (fun h=>k45 (.inr h))
 repeat (first|(apply RL_pu;rfl;(first|(apply ZaA;rfl;rfl;exact e0)|(apply ZaA;rfl;rfl;exact e3)|(apply ZaA;rfl;rfl;exact e4)|(apply ZaA;rfl;rfl;exact e5)))|(refine js ?_;(first|(refine Zae hk ?_)|(refine bx ?_;intro bk)))|refine walk1 ?_)
 exact rtA
end Go.Proofs.YtbjomhdhkpgbaaaGreatDoor
namespace Go.Proofs.YtbjomhdhkpgbaaaGreatDoor
open Go.Shelf Go.RowKit Go.Lib Go.Sort
def Zo7:Ren where
 f:=fun|6=>173|15=>108|14=>201|28=>157|29=>158|20=>232|21=>233|22=>234|23=>235|24=>236|25=>237|26=>238|27=>239|46=>270|47=>192|48=>193|49=>271|50=>272|57=>280|n=>n
 t:=fun|22=>212|24=>170|25=>261|3=>3|39=>186|0=>0|53=>244|55=>71|4=>4|46=>237|45=>236|50=>144|5=>5|9=>9|66=>279|70=>283|76=>314|77=>315|n=>n
 g:=fun n=>n
theorem Zuj:SlLaysF0.n6 Tryz.prog Zo7 where
 mixed:=by kernel_rfl
 f6:=⟨Tryz.f173.name,by decide,Tryz.func173.trans (congrArg some (by kernel_rfl))⟩
 f14:=⟨Tryz.f201.name,by decide,Tryz.func201.trans (congrArg some (by kernel_rfl))⟩
 f20:=⟨Tryz.f232.name,by decide,Tryz.func232.trans (congrArg some (by kernel_rfl))⟩
 f21:=⟨Tryz.f233.name,by decide,Tryz.func233.trans (congrArg some (by kernel_rfl))⟩
 f22:=⟨Tryz.f234.name,by decide,Tryz.func234.trans (congrArg some (by kernel_rfl))⟩
 f23:=⟨Tryz.f235.name,by decide,Tryz.func235.trans (congrArg some (by kernel_rfl))⟩
 f24:=⟨Tryz.f236.name,by decide,Tryz.func236.trans (congrArg some (by kernel_rfl))⟩
 f25:=⟨Tryz.f237.name,by decide,Tryz.func237.trans (congrArg some (by kernel_rfl))⟩
 f26:=⟨Tryz.f238.name,by decide,Tryz.func238.trans (congrArg some (by kernel_rfl))⟩
 f27:=⟨Tryz.f239.name,by decide,Tryz.func239.trans (congrArg some (by kernel_rfl))⟩
 f46:=⟨Tryz.f270.name,by decide,Tryz.func270.trans (congrArg some (by kernel_rfl))⟩
 f49:=⟨Tryz.f271.name,by decide,Tryz.func271.trans (congrArg some (by kernel_rfl))⟩
 f50:=⟨Tryz.f272.name,by decide,Tryz.func272.trans (congrArg some (by kernel_rfl))⟩
 f57:=⟨Tryz.f280.name,by decide,Tryz.func280.trans (congrArg some (by kernel_rfl))⟩
 f15:=Tryz.func108.trans (congrArg some (by kernel_rfl))
 f28:=Tryz.func157.trans (congrArg some (by kernel_rfl))
 f29:=Tryz.func158.trans (congrArg some (by kernel_rfl))
 f47:=Tryz.func192.trans (congrArg some (by kernel_rfl))
 f48:=Tryz.func193.trans (congrArg some (by kernel_rfl))
 t0:=Tryz.underlying0
 a0:=Tryz.isAgg0
 z0:=Tryz.sizeOf0
 v0:=Tryz.zeroValue0
 t3:=Tryz.underlying3
 a3:=Tryz.isAgg3
 z3:=Tryz.sizeOf3
 v3:=Tryz.zeroValue3
 t4:=Tryz.underlying4
 a4:=Tryz.isAgg4
 z4:=Tryz.sizeOf4
 v4:=Tryz.zeroValue4
 t5:=Tryz.underlying5
 a5:=Tryz.isAgg5
 z5:=Tryz.sizeOf5
 v5:=Tryz.zeroValue5
 t9:=Tryz.underlying9
 a9:=Tryz.isAgg9
 z9:=Tryz.sizeOf9
 v9:=Tryz.zeroValue9
 t22:=Tryz.underlying212
 a22:=Tryz.isAgg212
 z22:=Tryz.sizeOf212
 v22:=Tryz.zeroValue212
 t25:=Tryz.underlying261
 a25:=Tryz.isAgg261
 z25:=Tryz.sizeOf261
 v25:=Tryz.zeroValue261
 t39:=Tryz.underlying186
 a39:=Tryz.isAgg186
 z39:=Tryz.sizeOf186
 v39:=Tryz.zeroValue186
 t45:=Tryz.underlying236
 a45:=Tryz.isAgg236
 z45:=Tryz.sizeOf236
 v45:=Tryz.zeroValue236
 t46:=Tryz.underlying237
 a46:=Tryz.isAgg237
 z46:=Tryz.sizeOf237
 v46:=Tryz.zeroValue237
 t50:=Tryz.underlying144
 a50:=Tryz.isAgg144
 z50:=Tryz.sizeOf144
 v50:=Tryz.zeroValue144
 t53:=Tryz.underlying244
 a53:=Tryz.isAgg244
 z53:=Tryz.sizeOf244
 v53:=Tryz.zeroValue244
 t55:=Tryz.underlying71
 a55:=Tryz.isAgg71
 z55:=Tryz.sizeOf71
 v55:=Tryz.zeroValue71
 t66:=Tryz.underlying279
 a66:=Tryz.isAgg279
 z66:=Tryz.sizeOf279
 v66:=Tryz.zeroValue279
 t70:=Tryz.underlying283
 a70:=Tryz.isAgg283
 z70:=Tryz.sizeOf283
 v70:=Tryz.zeroValue283
 t76:=Tryz.underlying314
 a76:=Tryz.isAgg314
 z76:=Tryz.sizeOf314
 v76:=Tryz.zeroValue314
 t77:=Tryz.underlying315
 a77:=Tryz.isAgg315
 z77:=Tryz.sizeOf315
 v77:=Tryz.zeroValue315
open Go Go.Shelf Go.Lib Go.RowKit Go.Sort Go.Wk
set_option maxHeartbeats 4000000
theorem ZBj (a b:Int)(w:World):Calls Tryz.prog 203 #[.int .i64 a,.int .i64 b] w fun e w'=>e = .returned (.int .i64 (cmpI a b))/\w'=w:=by
 go_enter Tryz.func203,Tryz.ntmps203
 go_wp2
 all_goals go_ret
 all_goals (unfold cmpI;repeat' split)
 all_goals first|exact⟨rfl,rfl⟩|(exfalso;omega)
theorem ZCz (a b:Int)(w:World):Calls Tryz.prog 204 #[.int .i64 a,.int .i64 b] w fun e w'=>e = .returned (.int .i64 (cmpI a b))/\w'=w:=by
 go_enter Tryz.func204,Tryz.ntmps204
 go_wp2
 all_goals go_ret
 all_goals (unfold cmpI;repeat' split)
 all_goals first|exact⟨rfl,rfl⟩|(exfalso;omega)
theorem or_l (x y z:Int)(b:Nat)(w:World)(h0:w.cell? ⟨b,0,none⟩=some (.int .i64 x))(h1:w.cell? ⟨b,1,none⟩=some (.int .i64 y))(h2:w.cell? ⟨b,2,none⟩=some (.int .i64 z)) :
  Calls Tryz.prog 202 #[.slice (some ⟨b,0,none⟩) 3 3] w fun e w'=>e = .returned (.int .i64 (Zcf [x,y,z]))/\w'=w:=by
 go_enter Tryz.func202,Tryz.ntmps202
 go_wp2
 refine wp_loop_rounds 4 ?_
 rw[rounds_succ]
 by_cases hx:x=0
 ·subst hx
  go_wp2
  rw[rounds_succ]
  by_cases hy:y=0
  ·subst hy
   go_wp2
   rw[rounds_succ]
   by_cases hz:z=0
   ·subst hz
    go_wp2
    rw[rounds_succ]
    go_wp2
    go_ret
    exact⟨rfl,rfl⟩
   ·go_wp2
    go_ret
    exact⟨by simp[Zcf,hz],rfl⟩
  ·go_wp2
   go_ret
   exact⟨by simp[Zcf,hy],rfl⟩
 ·go_wp2
  go_ret
  exact⟨by simp[Zcf,hx],rfl⟩
attribute [local irreducible] cmpI Zcf
theorem ZsJ (a b:Zaf)(w:World):Calls Tryz.prog 174 #[.agg (Zaf.enc a).toArray,.agg (Zaf.enc b).toArray] w fun e w'=>e = .returned (.int .i64 (ordE a b))/\∃ q os',w'=grow (w.drewN q) os':=by
 rw[ZuL]
 obtain⟨y,r,n⟩:=a
 obtain⟨y2,r2,n2⟩:=b
 dsimp only
 have h1:=ZBj
 have h2:=ZCz
 have h3:=or_l
 simp only[Zaf.enc]
 go_enter Tryz.func174,Tryz.ntmps174
 go_wp2_with fail
 go_region_held3 (fun W=>W.cell? ⟨w.heap.size,0,none⟩=some (.int .i64 y)/\W.cell? ⟨w.heap.size,1,none⟩=some (.int .i64 r)/\W.cell? ⟨w.heap.size,2,none⟩=some (.int .i64 n)/\W.cell? ⟨w.heap.size+1,0,none⟩=some (.int .i64 y2)/\W.cell? ⟨w.heap.size+1,1,none⟩=some (.int .i64 r2)/\W.cell? ⟨w.heap.size+1,2,none⟩=some (.int .i64 n2)) (go_keep)
  (first
   | (go_at_call 203;refine(h1 _ _ _).mono ?_;rintro e w' ⟨rfl,rfl⟩)
   | (go_at_call 204;refine(h2 _ _ _).mono ?_;rintro e w' ⟨rfl,rfl⟩)
   | (go_at_call 202;refine(h3 (cmpI n n2) (cmpI r r2) (cmpI y y2) _ _ (by go_simp) (by go_simp) (by go_simp)).mono ?_;rintro e w' ⟨rfl,rfl⟩))
 all_goals (try go_wp2)
 all_goals go_ret
 all_goals exact⟨rfl,1,_,by rw[alloc_eq_grow,alloc_eq_grow,alloc_eq_grow,grow_grow,grow_grow];rfl⟩
end Go.Proofs.YtbjomhdhkpgbaaaGreatDoor
namespace Go.Proofs.YtbjomhdhkpgbaaaGreatDoor
open Go Go.RowKit Go.Wk
theorem Zaf.len (x:Zaf):(Zaf.enc x).length=3:=rfl
def ZnW (A:Option Addr)(c:Nat)(l:List Zaf):It := .row (.slice A l.length c) 170 3 l.length (l.flatMap Zaf.enc)
def Zc4 (l:List Zaf):List Zaf:=l.mergeSort fun x y => !ltE y x
theorem Zgl (l:List Zaf):(Zc4 l).length=l.length:=List.length_mergeSort _
instance : Inhabited Zaf:=⟨dEv0⟩
theorem Zrt (l:List Zaf):Go.Sort.flatK Zaf.enc 3 l.toArray=(l.flatMap Zaf.enc).toArray:=by
 have hfl:=ZaJ Zaf.len l
 refine Go.Sort.ext_get! (by rw[Go.Sort.size_flatK];simp[hfl]) fun t ht=>?_
 have ht':t<l.toArray.size*3:=by rwa[Go.Sort.size_flatK]at ht
 rw[Go.Sort.get_flatK _ _ _ _ ht']
 have hlt:t / 3<l.length:=by simp at ht';omega
 have h3:t % 3<3:=Nat.mod_lt _ (by decide)
 have hget:=ZaK Zaf.len l (t / 3) l[t / 3] (t % 3) ((Zaf.enc l[t / 3])[t % 3]'h3) (List.getElem?_eq_getElem hlt) (List.getElem?_eq_getElem h3)
 rw[show t / 3*3+t % 3=t by omega]at hget
 rw[getElem!_pos l.toArray (t / 3) (by simpa using hlt)]
 rw[show(l.flatMap Zaf.enc).toArray[t]! = (l.flatMap Zaf.enc)[t]?.getD default from by simp only[getElem!_def,List.getElem?_toArray];cases (l.flatMap Zaf.enc)[t]? <;> rfl]
 rw[hget]
 rw[getElem!_pos (Zaf.enc _) (t % 3) (by rw[Zaf.len];exact h3)]
 simp
 rfl
theorem ZxR (b:Nat)(l:List Zaf)(w:World):CmpLays Tryz.prog 174 #[] Zaf.enc 3 ordE b 0 l.toArray.size w :=
 fun m os dk _ x y=>by
  have:=ZsJ x y (sortWorldK Zaf.enc 3 w b 0 m dk os)
  simpa using this
theorem Zuk (A:Option Addr)(c:Nat)(l:List Zaf)(wr:World)(hn:l.length<=1000000000) :
  Zak Tryz.prog 173 [.slice A l.length c,.func (.func 174) #[] #[]] wr [ZnW A c l] (fun v O=>v = .tuple #[]/\O=[ZnW A c (Zc4 l)]):=by
 intro w hB hH
 have hsat:=hH.sat _ (List.mem_singleton.2 rfl)
 obtain⟨hxl,⟨hv,_⟩|⟨b,cap,cur,hval,hb0,hg,hmc,hcm,hsz,hcur⟩⟩:=id hsat
 ·injection hv with h1 h2 h3
  obtain rfl:=List.eq_nil_of_length_eq_zero h2
  subst h1 h3
  refine Calls.mono (AnyF.slices_SortFunc_none Zuj none 0 (.func (.func 174) #[] #[]) w) ?_
  rintro e w' ⟨rfl,rfl⟩
  exact⟨_,_,rfl,hB,hH,rfl,by rw[show Zc4 []=[] from by simp[Zc4]]⟩
 injection hval with hA h2 h3
 subst hA h3
 have hbw:b<w.heap.size:=(Array.getElem?_eq_some_iff.1 hg).1
 have hin:=hH.inb _ (List.mem_singleton.2 rfl) b (by simp[It.S,ZnW,Value.ownBlock])
 have hfl:=ZaJ Zaf.len l
 have hcl:l.length*3<=cur.size:=by
  have:=congrArg List.length hcur
  rw[List.length_take,hfl,Array.length_toList]at this
  omega
 have hget:∀ j,j<l.length*3->cur[j]?=(l.flatMap Zaf.enc)[j]?:=fun j hj=>by
  rw[<- hcur,List.getElem?_take,if_pos (by omega)]
  simp
 have hHold:Go.Sort.HoldsK Zaf.enc 3 w b 0 l.toArray:=fun j hj=>by
  rw[Zrt]at hj ⊢
  have hj':j<l.length*3:=by simpa[hfl] using hj
  have hjl:j<(l.flatMap Zaf.enc).length:=by rw[hfl];exact hj'
  refine⟨?_,by simp[World.frozen?,hg]⟩
  rw[Nat.zero_add,show w.cell? ⟨b,j,none⟩=cur[j]? from by simp[World.cell?,hg],hget j hj',List.getElem?_eq_getElem hjl,getElem!_pos _ j (by simpa using hjl)]
  simp
 have h:=AnyQ.slices_SortFunc_total Zuj 3 Tryz.isAgg170 Tryz.sizeOf170 Zaf.enc Zaf.len (fun x v hv=>by simp[Zaf.enc]at hv;rcases hv with rfl|rfl|rfl <;> rfl) ordE swoE 174 #[] b 0 c l.toArray w
  (enters_of Tryz.func174 (by kernel_rfl) rfl) (ZxR b l w) hHold hbw (by simp;omega) totE
 refine Calls.mono h ?_
 rintro e w' ⟨rfl,n,os,rfl⟩
 rw[show(l.toArray.toList.mergeSort fun x y => !(ltOf ordE) y x)=Zc4 l from rfl]
 have hlen:=Zgl l
 generalize Zc4 l=s at hlen ⊢
 have hfs:=ZaJ Zaf.len s
 have hsh:(sortWorldK Zaf.enc 3 w b 0 n s.toArray os).heap=(w.heap.modify b (Go.Sort.onCells (Go.Sort.putCells id 0 (s.flatMap Zaf.enc).toArray)))++os:=by
  unfold sortWorldK Go.Sort.putRowK
  rw[Zrt]
  rfl
 have hold:∀ i,i<w.heap.size->i≠b->(sortWorldK Zaf.enc 3 w b 0 n s.toArray os).heap[i]?=w.heap[i]?:=fun i hi hne=>by
  rw[hsh,Array.getElem?_append_left (by simpa using hi),Array.getElem?_modify,if_neg (fun e=>hne e.symm)]
 have hnew:(sortWorldK Zaf.enc 3 w b 0 n s.toArray os).heap[b]?=some (.cells (Go.Sort.putCells id 0 (s.flatMap Zaf.enc).toArray cur) 170 (0,0)):=by
  rw[hsh,Array.getElem?_append_left (by simpa using hbw),Array.getElem?_modify,if_pos rfl,hg]
  rfl
 have hsize:w.heap.size<=(sortWorldK Zaf.enc 3 w b 0 n s.toArray os).heap.size:=by rw[hsh];simp
 have hbel:Bel wr.heap.size wr (sortWorldK Zaf.enc 3 w b 0 n s.toArray os) :=
  hB.trans ⟨⟨rfl,rfl,rfl,hsize,fun i hi=>hold i (by have:=hB.size;omega) (by omega)⟩⟩
 refine⟨_,[ZnW (some ⟨b,0,none⟩) c s],rfl,hbel,?_,rfl,rfl⟩
 refine hH.upd (A:=ZnW (some ⟨b,0,none⟩) c l) .here hB.size hsize (fun i hi hS=>hold i hi (fun e=>hS (by rw[e];simp[It.S,ZnW,Value.ownBlock]))) ?_ (fun i hi => .inl hi)
 refine⟨by rw[hfs],.inr ⟨b,c,_,rfl,Nat.zero_le _,hnew,by omega,hcm,?_,?_⟩⟩
 ·simp only[Go.Sort.putCells,Array.size_mapIdx]
  exact hsz
 ·apply List.ext_getElem?
  intro j
  rw[List.getElem?_take]
  by_cases hj:j<s.length*3
  ·rw[if_pos hj]
   have hjc:j<cur.size:=by omega
   have hjs:j<(s.flatMap Zaf.enc).length:=by omega
   simp only[Array.getElem?_toList,Go.Sort.putCells,Array.getElem?_mapIdx,Array.getElem?_eq_getElem hjc,Option.map_some,Nat.zero_le,true_and,Nat.zero_add,List.size_toArray,if_pos hjs,Nat.sub_zero]
   rw[List.getElem?_eq_getElem hjs,getElem!_pos _ j (by simpa using hjs)]
   simp
  ·rw[if_neg hj,List.getElem?_eq_none (by omega)]
attribute [local irreducible] W RL Does Zar Zal retQ Calls Pu Stp RD Qy Ay Zak
structure IG where
 k:Nat
 A:Option Addr
 c:Nat
 m:Nat
 xs:List Value
 acc:List Zaf
def ZC4 (l:List Zaf)(v:Value)(O:List It):Prop:=∃ A c,v = .tuple #[.slice A l.length c,.int .i64 0]/\O=[ZnW A c l]
theorem ZB1 {f t:Int}{M:Nat}(hf : -2000000000<=f/\f<=2000000000)(ht:t+1=f+M)(h0:0<M)(hM:M<=1000):decide ((1000:Int)<IntKind.u64.wrap (IntKind.u64.wrap t - IntKind.u64.wrap f))=false:=by
 refine decide_eq_false ?_
 simp[IntKind.wrap,IntKind.signed,IntKind.bits]
 omega
theorem ZyB (A:Option Addr)(c:Nat)(l:List Zab)(f t:Int)(M:Nat)(w:World)(hG:Glob w)(hA:RdSl w A c Zab.enc 11 l)(hn:l.length<=1000000)(hR:∀ r∈l,-4611686018427387904<=r.save/\r.save<=4611686018427387904)
  (hf : -2000000000<=f/\f<=2000000000) (ht:t+1=f+M) (hM0:0<M) (hM:M<=1000) :
  Does Tryz.prog 127 [.slice A l.length c,.int .i64 f,.int .i64 t] w (ZC4 (Zc4 (allC l (Zaj l) f M))):=by
 have e1:decide (t<f)=false:=decide_eq_false (by omega)
 have e2:=ZB1 hf ht hM0 hM
 have hon:=fun(i:Nat) r (hi:l[i]?=some r) y w' (hw:Bel w.heap.size w w')=>ZgY A c l i y r w' (hG.up hw) (hA.up hw) hi hn hR
 generalize Zaj l=least at *
 obtain⟨res,hres⟩:∃ res,allC l least f M=res:=⟨_,rfl⟩
 rw[hres]
 refine Zaa Tryz.func127 rfl rfl rfl rfl ?_
 repeat (first|(apply RL_pu;rfl;(first|(apply Pu_sub';rfl;rfl;(constructor <;> omega))|(apply ZwK;rfl;rfl)|(apply Za3;rfl;rfl;exact e2)|(apply Za2;rfl;rfl;exact e1)|(apply Pu_convI;rfl)))|(refine js ?_;(refine bx ?_;intro bk))|refine walk1 ?_)
 refine Zdj 170 3 ?_
 obtain⟨N,hN⟩:∃ N:Int,N=(M:Int):=⟨_,rfl⟩
 rw[show t - f+1=N by omega]
 refine Zaq [(0,.slice A l.length c),(1,.int .i64 f),(27,.int .i64 N)] [] (fun g:IG=>[(8,.slice g.A g.m g.c),(28,.int .i64 g.k)]) (fun g=>[.row (.slice g.A g.m g.c) 170 3 g.m g.xs])
  (fun g=>g.k<=M/\g.m=g.acc.length/\g.xs=g.acc.flatMap Zaf.enc/\g.m<=g.k*1000000/\g.acc=allC l least f g.k) (fun g=>M - g.k) ⟨0,none,0,0,[],[]⟩ SFA SOA ⟨Nat.zero_le _,rfl,rfl,Nat.le_refl _,rfl⟩ ?_
 rintro⟨k,A1,c1,m,xs,acc⟩ ⟨hk,hm,hx,hmk,hi⟩
 dsimp only at hk hm hx hmk hi ⊢
 repeat (first|(refine js ?_;(refine bx ?_;intro bk))|refine walk ?_)
 refine Zah rfl (fun hc=>?_) (fun hc=>?_)
 ·have hk2:k<M:=by have:=of_decide_eq_true hc;omega
  obtain⟨nxt,hnxt⟩:∃ nxt,allC l least f (k+1)=nxt:=⟨_,rfl⟩
  have hst:acc++Zel least (f+k) l 0=nxt:=by rw[<- hnxt,allC,hi]
  repeat (first|(refine js ?_;(refine bx ?_;intro bk))|refine walk ?_)
  refine Zaq [(0,.slice A l.length c),(1,.int .i64 f),(27,.int .i64 N),(28,.int .i64 k),(9,.int .i64 k),(31,.slice A l.length c),(32,.int .i64 l.length)] [] (fun g:IG=>[(8,.slice g.A g.m g.c),(33,.int .i64 g.k)]) (fun g=>[.row (.slice g.A g.m g.c) 170 3 g.m g.xs])
   (fun g=>g.k<=l.length/\g.m=g.acc.length/\g.xs=g.acc.flatMap Zaf.enc/\g.m<=k*1000000+g.k/\g.acc++Zel least (f+k) (l.drop g.k) g.k=nxt) (fun g=>l.length - g.k) ⟨0,A1,c1,m,xs,acc⟩ SFA SOA ⟨Nat.zero_le _,hm,hx,Nat.le_trans hmk (Nat.le_add_right _ _),by dsimp only;rw[List.drop_zero];exact hst⟩ ?_
  clear hm hx hmk hi hst hc
  rintro⟨i,A1,c1,m,xs,acc⟩ ⟨hil,hm,hx,hmk,hi⟩
  dsimp only at hil hm hx hmk hi ⊢
  repeat (first|(refine js ?_;(refine bx ?_;intro bk))|refine walk ?_)
  refine Zah rfl (fun hc=>?_) (fun hc=>?_)
  ·simp only[decide_eq_true_eq,Int.ofNat_lt]at hc
   have ho:=hon i _ (List.getElem?_eq_getElem hc) (f+(k:Int))
   rw[Zao hc,Zel]at hi
   generalize onR least l[i] i (f+(k:Int))=o at *
   cases o with
   | none =>
    simp only[evV,Zaf.enc,dEv0,Option.isSome,Option.toList,List.nil_append]at ho hi
    repeat (first|(refine js ?_;(first|(refine Zae ho ?_)|(refine bx ?_;intro bk)))|refine walk ?_)
    exact⟨⟨i+1,A1,c1,m,xs,acc⟩,OA,⟨OA,hm,hx,OA,hi⟩,SFA,SOA⟩
   | some e =>
    obtain⟨ey,er,en⟩:=e
    simp only[evV,Zaf.enc,Option.isSome,Option.toList]at ho hi
    repeat (first|(refine js ?_;(first|(refine Zae ho ?_)|(apply Zay;rfl;rfl;(intro A' c';(focus repeat' constructor));(intro w' _ hO;exact Zbv (hO.of (by repeat' constructor)));rfl;rfl;(simp only[maxLen];omega);omega;intro A' c' hc1 hc2 hc3)|(refine bx ?_;intro bk)))|refine walk ?_)
    exact⟨⟨i+1,A',c',m+1,xs++[.int .i64 ey,.int .i64 er,.int .i64 en],acc++[⟨ey,er,en⟩]⟩,OA,⟨OA,by simp[hm],by rw[hx];simp[Zaf.enc],OA,by rw[<- hi];simp⟩,SFA,SOA⟩
  ·simp only[decide_eq_false_iff_not,Int.ofNat_lt]at hc
   rw[List.drop_eq_nil_of_le (by omega),Zel,List.append_nil]at hi
   repeat (first|(refine js ?_;(refine bx ?_;intro bk))|refine walk ?_)
   exact⟨⟨k+1,A1,c1,m,xs,acc⟩,OA,⟨OA,hm,hx,OA,hi.trans hnxt.symm⟩,SFA,SOA⟩
 ·obtain rfl:k=M:=by have:=of_decide_eq_false hc;omega
  rw[hres]at hi
  subst hi hm hx
  repeat (first|(refine js ?_;(first|(apply ZaM;rfl;exact Zuk A1 c1 acc w (by omega);exact .refl _;rintro v O' ⟨rfl,rfl⟩)|(refine bx ?_;intro bk)))|refine walk ?_)
  exact ret_2 _ _ [ZnW A1 c1 (Zc4 acc)] (.tmp rfl) (.tmp rfl) SOA ⟨A1,c1,by rw[Zgl],rfl⟩
theorem ZA8 (A:Option Addr)(c:Nat)(l:List Zab)(w:World)(hG:Glob w)(hA:RdSl w A c Zab.enc 11 l)(hn:l.length<=1000000)(hR:∀ r∈l,-4611686018427387904<=r.save/\r.save<=4611686018427387904) :
  Does Tryz.prog 127 [.slice A l.length c,.int .i64 1850,.int .i64 2550] w (ZC4 (Zc4 (allC l (Zaj l) 1850 701))) :=
 ZyB A c l 1850 2550 701 w hG hA hn hR (by omega) (by omega) (by omega) (by omega)
def apV:Option Zaf->Value
 | none => .tuple #[.agg (Zaf.enc dEv0).toArray,.int .i64 0]
 | some e => .tuple #[.agg (Zaf.enc e).toArray,.int .i64 13]
theorem Zp0 {l:List Zaf}{k:Nat}(h:k+1<l.length):Zdb (l.drop k)=if (l[k+1]'h).nominal - (l[k]'(by omega)).nominal<259200 then some (l[k+1]'h) else Zdb (l.drop (k+1)):=by
 rw[Zao (show k<l.length by omega),Zao h,Zdb]
theorem Ztq {l:List Zaf}{k:Nat}(h:l.length<=k+1):Zdb (l.drop k)=none:=by
 by_cases hk:k<l.length
 ·rw[Zao hk,List.drop_eq_nil_of_le h];rfl
 ·rw[List.drop_eq_nil_of_le (by omega)];rfl
theorem ZjA {l:List Zaf}{k:Nat}(h:k<l.length)(j:Nat)(v:Value)(hj:(Zaf.enc l[k])[j]?=some v):(l.flatMap Zaf.enc)[k*3+j]?=some v:=ZaK Zaf.len l k _ j v (List.getElem?_eq_getElem h) hj
def Zze (e:Zaf):Prop := -200000000000000000<=e.nominal/\e.nominal<=200000000000000000
theorem ZqN (least y:Int)(hl:least<=0):∀ (l:List Zab) (i:Nat),(Zel least y l i).length<=l.length/\∀ e∈Zel least y l i,Zze e
 | [],_=>⟨Nat.le_refl _,fun _ h=>by cases h⟩
 | r::l,i=>by
  obtain⟨h1,h2⟩:=ZqN least y hl l (i+1)
  have h3:=ZuO least hl r i y
  simp only[Zel,List.length_append,List.length_cons,List.mem_append]
  generalize onR least r i y=o at *
  cases o with
  | none=>exact⟨by simp only[Option.toList,List.length_nil];omega,fun e he=>by rcases he with h|h;cases h;exact h2 e h⟩
  | some x=>exact⟨by simp only[Option.toList,List.length_cons,List.length_nil];omega,fun e he=>by
    rcases he with h|h
    ·simp only[Option.toList,List.mem_singleton]at h;subst h;exact h3 _ rfl
    ·exact h2 e h⟩
theorem Zqe (l:List Zab)(least from_:Int)(hl:least<=0):∀ k,(allC l least from_ k).length<=k*l.length/\∀ e∈allC l least from_ k,Zze e
 | 0=>⟨Nat.zero_le _,fun _ h=>by cases h⟩
 | k+1=>by
  obtain⟨h1,h2⟩:=Zqe l least from_ hl k
  obtain⟨h3,h4⟩:=ZqN least (from_+k) hl l 0
  simp only[allC,List.length_append,List.mem_append,Nat.succ_mul]
  exact⟨by omega,fun e he=>he.elim (h2 e) (h4 e)⟩
theorem ZyZ (l:List Zab)(least from_:Int)(hl:least<=0)(hn:l.length<=1000000):(allC l least from_ 701).length<=701000000:=by
 have:=(Zqe l least from_ hl 701).1
 omega
theorem ZAp {G:Prop}(h:G:=by(apply ZhP;rfl;rfl;exact hmx)):G:=h
theorem ZoK {G:Prop}(h:G:=by(first|(apply ZaB;rfl;rfl;omega;omega;(intro w' _ hO;exact(Zcb (hO.of (A := .row (.slice A1 s.length c1) 170 3 s.length (s.flatMap Zaf.enc)) (by repeat' constructor)) hg1).1))|(apply Zek;rfl;(focus repeat' constructor);exact hg1)|(apply Zek;rfl;(focus repeat' constructor);exact hg2)|(apply ZbZ;rfl;(focus repeat' constructor);exact hgn;rfl)|(apply Za2;rfl;rfl;exact hb))):G:=h
theorem ZzV {G:Prop}(h:G:=by first|(apply Qy_y;rfl;exact ZoK)|exact QyA):G:=h
theorem Ztt (A:Option Addr)(c:Nat)(l:List Zab)(w:World)(hG:Glob w)(hA:RdSl w A c Zab.enc 11 l)(hn:l.length<=1000000)(hR:∀ r∈l,-4611686018427387904<=r.save/\r.save<=4611686018427387904) :
  Does Tryz.prog 90 [.slice A l.length c] w (fun v O=>v=apV (Zgb l)/\O=[]):=by
 have hin:=fun w' (hw:Bel w.heap.size w w')=>ZA8 A c l w' (hG.up hw) (hA.up hw) hn hR
 have hle:=(Zfm l hR).2
 have hal:=ZyZ l (Zaj l) 1850 hle hn
 have hok:=(Zqe l (Zaj l) 1850 hle 701).2
 rw[<- Zog]
 rw[show((allC l (Zaj l) 1850 701).mergeSort fun x y => !ltE y x)=Zc4 (allC l (Zaj l) 1850 701) from rfl]
 have hsl:=Zgl (allC l (Zaj l) 1850 701)
 have hso:∀ e∈Zc4 (allC l (Zaj l) 1850 701),Zze e:=fun e he=>hok e (List.mem_mergeSort.1 he)
 generalize Zc4 (allC l (Zaj l) 1850 701)=s at *
 have hsl2:s.length<=701000000:=by omega
 clear hal hok hsl
 obtain⟨res,hres⟩:∃ res,Zdb s=res:=⟨_,rfl⟩
 rw[hres]
 have hmx:(if (s.length:Int) - 1<0 then 0 else (s.length:Int) - 1)=((s.length - 1:Nat):Int):=by split <;> omega
 refine Zaa Tryz.func90 rfl rfl rfl rfl ?_
 repeat (first|(apply RL_pu;rfl;exact ZAp)|(apply RD_Q;rfl;rfl;decide +kernel;rfl;rfl;exact QyEvI1)|refine walk1 ?_|(refine jg ?_;(try intro F);(first|(apply Zad (h:=fun w' hw _=>hin w' hw);rfl;rintro v O' ⟨A1,c1,rfl,rfl⟩)|(refine bx ?_;intro bk)|(refine stA ?_));first|refine⟨_,EndsA,QFEvI1,?_⟩|refine fin ?_)|(refine jn ?_;(try intro F);(first|(refine bx ?_;intro bk)|(refine stA ?_)|(apply Zag;first|exact ZAp|exact PuA));first|refine⟨_,EndsA,QFEvI1,?_⟩|refine fin ?_)|(apply RD_W;rfl;intro bk))
 have hn1:s.length - 1<=701000000:=by omega
 obtain⟨b2,hb2⟩:∃ b2,bk=b2:=⟨_,rfl⟩
 rw[hb2]
 clear hb2 bk
 refine Zaq [(2,.pointer (some ⟨b2,0,none⟩)),(4,.slice A1 s.length c1),(19,.int .i64 (s.length - 1:Nat))] [.row (.slice A1 s.length c1) 170 3 s.length (s.flatMap Zaf.enc),.blk b2 [.int .i64 0,.int .i64 0,.int .i64 0] 170] (fun k:Nat=>[(20,.int .i64 k)]) (fun _=>[]) (fun k=>k<=s.length - 1/\Zdb (s.drop k)=res) (fun k=>s.length - 1 - k) 0 SFA SOA ⟨Nat.zero_le _,hres⟩ ?_
 rintro k ⟨hk,hi⟩
 repeat (first|refine walk ?_|(refine jn ?_;(try intro F);(first|(refine bx ?_;intro bk)|(refine stA ?_)|(apply Zag;exact PuA));refine fin ?_)|(apply RD_W;rfl;intro bk))
 refine Zah rfl (fun hc=>?_) (fun hc=>?_)
 ·simp only[decide_eq_true_eq,Int.ofNat_lt]at hc
  have hk1:k+1<s.length:=by omega
  rw[Zp0 hk1]at hi
  have hg1:=ZjA hk1 2 _ rfl
  have hg2:=ZjA (show k<s.length by omega) 2 _ rfl
  have hgn:∀ j v,(Zaf.enc s[k+1])[j]?=some v->(s.flatMap Zaf.enc)[(k+1)*3+j]?=some v:=fun j v hj=>ZjA hk1 j v hj
  have o1:=hso _ (List.getElem_mem hk1)
  have o2:=hso _ (List.getElem_mem (show k<s.length by omega))
  generalize s[k+1]=e1 at *
  generalize s[k]=e2 at *
  obtain⟨y1,r1,n1⟩:=e1
  obtain⟨y2,r2,n2⟩:=e2
  simp only[Zaf.enc,Zze]at hg1 hg2 hgn o1 o2 hi
  have hlen:(s.length:Int)<=701000000:=by omega
  have hkk:(k:Int)+1<s.length:=by omega
  by_cases h3:n1 - n2<259200
  ·rw[if_pos h3]at hi
   subst hi
   have hb:decide (n1 - n2<259200)=true:=decide_eq_true h3
   repeat (first|(apply RL_pu;rfl;exact ZoK)|(apply RD_Q;rfl;rfl;decide +kernel;rfl;rfl;exact ZzV)|refine walk1 ?_|(refine jn ?_;(try intro F);(first|(refine bx ?_;intro bk)|(refine stA ?_)|(apply Zag;first|exact ZoK|exact PuA));first|refine⟨_,EndsA,QFEvI2,?_⟩|refine fin ?_)|(apply RD_W;rfl;intro bk))
   exact rtC
  ·rw[if_neg h3]at hi
   have hb:decide (n1 - n2<259200)=false:=decide_eq_false h3
   repeat (first|(apply RL_pu;rfl;exact ZoK)|(apply RD_Q;rfl;rfl;decide +kernel;rfl;rfl;exact ZzV)|refine walk1 ?_|(refine jn ?_;(try intro F);(first|(refine bx ?_;intro bk)|(refine stA ?_)|(apply Zag;first|exact ZoK|exact PuA));first|refine⟨_,EndsA,QFEvI2,?_⟩|refine fin ?_)|(apply RD_W;rfl;intro bk))
   exact⟨k+1,OA,⟨OA,hi⟩,SFA,SOA⟩
 ·simp only[decide_eq_false_iff_not,Int.ofNat_lt]at hc
  rw[Ztq (show s.length<=k+1 by omega)]at hi
  subst hi
  repeat (first|refine walk ?_|(refine jn ?_;(try intro F);(first|(refine bx ?_;intro bk)|(refine stA ?_)|(apply Zag;exact PuA));refine fin ?_)|(apply RD_W;rfl;intro bk))
  exact rtC
def Zpu (z:ZaO):Bool:=decide (60<z.eras.length)
theorem ZgW {α:Type}(p:α->Bool):∀ (l:List α) (k:Nat),ZbQ p l k=match l.findIdx? p with|some i=>((k+i:Nat):Int)|none => -1
 | [],_=>rfl
 | x::l,k=>by
  rw[ZbQ,List.findIdx?_cons]
  by_cases h:p x=true
  ·rw[if_pos h,if_pos h];rfl
  ·rw[if_neg h,if_neg h,ZgW p l (k+1)]
   cases l.findIdx? p with
   | none=>rfl
   | some i=>simp only[Option.map_some];congr 1;omega
theorem Zo9 (n:ByteArray)(A:Option Addr)(m c:Nat)(w:World):Does Tryz.prog 85 [.agg #[.string n,.slice A m c]] w (fun v O=>v = .bool (decide (60<m))/\O=[]):=by
 have hb:decide ((60:Int)<(m:Int))=decide (60<m):=by rw[decide_eq_decide];omega
 refine Zaa Tryz.func85 rfl rfl rfl rfl ?_
 repeat (first|(apply RL_pu;rfl;(apply Za3;rfl;rfl;exact hb))|(refine js ?_;(refine bx ?_;intro bk))|refine walk1 ?_)
 exact rtA
theorem ZpJ (Ar Az Al As:Option Addr)(cr cz cl cs:Nat)(a:Zac)(w:World)(hA:Zan w Ar Az Al As cr cz cl cs a)(hn:a.zones.length<=1000000) :
  Does Tryz.prog 84 [.slice Az a.zones.length cz,.func (.func 85) #[] #[]] w (fun v O=>v = .int .i64 (ZbQ Zpu a.zones 0)/\O=[]):=by
 obtain⟨res,hres⟩:∃ res,ZbQ Zpu a.zones 0=res:=⟨_,rfl⟩
 rw[hres]
 refine Zaa Tryz.func84 rfl rfl rfl rfl ?_
 repeat (first|refine walk ?_)
 refine Zaq [(0,.slice Az a.zones.length cz),(1,.func (.func 85) #[] #[]),(7,.int .i64 a.zones.length)] [] (fun k:Nat=>[(8,.int .i64 k)]) (fun _=>[]) (fun k=>k<=a.zones.length/\ZbQ Zpu (a.zones.drop k) k=res) (fun k=>a.zones.length - k) 0 SFA .nil ⟨Nat.zero_le _,hres⟩ ?_
 rintro k ⟨hk,hi⟩
 repeat (first|refine walk ?_)
 refine Zah rfl (fun hc=>?_) (fun hc=>?_)
 ·simp only[decide_eq_true_eq,Int.ofNat_lt]at hc
  obtain⟨hna,cs1,⟨Ae,ce,_,rfl⟩,hca⟩:=hA.z k _ (List.getElem?_eq_getElem hc)
  rw[Zao hc,ZbQ]at hi
  generalize a.zones[k]=z at *
  have h1:∀ w',Does Tryz.prog 85 ([]++[.agg #[.string z.name,.slice Ae z.eras.length ce]]++[]) w' (fun v O=>v = .bool (decide (60<z.eras.length))/\O=[]):=fun w'=>Zo9 z.name Ae z.eras.length ce w'
  rw[show decide (60<z.eras.length)=Zpu z from rfl]at h1
  generalize Zpu z=mb at *
  cases mb with
  | true =>
   rw[if_pos rfl]at hi
   subst hi
   repeat (first|(apply RL_pu;rfl;exact PuI)|(refine js ?_;(refine Zeh (fun w' hw _=>h1 w') ?_))|refine walk1 ?_)
   exact rtA
  | false =>
   rw[if_neg (by decide)]at hi
   repeat (first|(apply RL_pu;rfl;exact PuI)|(refine js ?_;(refine Zeh (fun w' hw _=>h1 w') ?_))|refine walk1 ?_)
   exact⟨k+1,OA,⟨OA,hi⟩,SFA,.nil⟩
 ·simp only[decide_eq_false_iff_not,Int.ofNat_lt]at hc
  rw[List.drop_eq_nil_of_le (by omega),ZbQ]at hi
  subst hi
  repeat (first|refine walk ?_)
  exact rtA
theorem Zxv {G:Prop}(h:G:=by(apply Za3;rfl;rfl;exact b1)):G:=h
theorem ZqJ {G:Prop}(h:G:=by(first|exact Zxv|(apply Za3;rfl;rfl;exact b2))):G:=h
theorem Zxu {G:Prop}(h:G:=by(first|exact ZqJ|(apply Za3;rfl;rfl;exact b3))):G:=h
theorem Zxt {G:Prop}(h:G:=by(first|exact Zxu|(apply Za3;rfl;rfl;exact b4))):G:=h
theorem Zsw (Ar Az Al As:Option Addr)(cr cz cl cs:Nat)(a:Zac)(w:World)(hA:Zan w Ar Az Al As cr cz cl cs a)(hn:a.zones.length<=1000000) :
  Does Tryz.prog 50 [srcV Ar Az Al As cr cz cl cs a] w (fun v O=>v=ptV (ZeT a)/\O=[]):=by
 have hix:=fun w' (hw:Bel w.heap.size w w')=>ZpJ Ar Az Al As cr cz cl cs a w' (hA.up hw) hn
 rw[ZgW]at hix
 unfold ZeT
 rw[show(fun z:ZaO=>decide (60<z.eras.length))=Zpu from rfl]
 generalize a.zones.findIdx? Zpu=fi at *
 refine Zaa Tryz.func50 rfl rfl rfl rfl ?_
 by_cases h1:2000<a.rules.length
 ·have b1:decide ((2000:Int)<a.rules.length)=true:=decide_eq_true (by omega)
  rw[if_pos h1]
  repeat (first|(apply RL_pu;rfl;exact Zxv)|(refine js ?_;(refine bx ?_;intro bk))|refine walk1 ?_)
  exact rtC
 have b1:decide ((2000:Int)<a.rules.length)=false:=decide_eq_false (by omega)
 rw[if_neg h1]
 by_cases h2:500<a.zones.length
 ·have b2:decide ((500:Int)<a.zones.length)=true:=decide_eq_true (by omega)
  rw[if_pos h2]
  repeat (first|(apply RL_pu;rfl;exact ZqJ)|(refine js ?_;(refine bx ?_;intro bk))|refine walk1 ?_)
  exact rtC
 have b2:decide ((500:Int)<a.zones.length)=false:=decide_eq_false (by omega)
 rw[if_neg h2]
 cases fi with
 | some i =>
  dsimp only at hix ⊢
  rw[Nat.zero_add]at hix
  have b3:decide ((0:Int)<=(i:Int))=true:=decide_eq_true (by omega)
  repeat (first|(apply RL_pu;rfl;(first|exact ZqJ|(apply ZcJ;rfl;rfl;exact b3)))|(refine js ?_;(first|(refine Zae hix ?_)|(refine bx ?_;intro bk)))|refine walk1 ?_)
  exact rtC
 | none =>
  dsimp only at hix ⊢
  by_cases h3:1000<a.links.length
  ·have b3:decide ((1000:Int)<a.links.length)=true:=decide_eq_true (by omega)
   rw[if_pos h3]
   repeat (first|(apply RL_pu;rfl;exact Zxu)|(refine js ?_;(first|(refine Zae hix ?_)|(refine bx ?_;intro bk)))|refine walk1 ?_)
   exact rtC
  have b3:decide ((1000:Int)<a.links.length)=false:=decide_eq_false (by omega)
  rw[if_neg h3]
  by_cases h4:2000<a.shifts.length
  ·have b4:decide ((2000:Int)<a.shifts.length)=true:=decide_eq_true (by omega)
   rw[if_pos h4]
   repeat (first|(apply RL_pu;rfl;exact Zxt)|(refine js ?_;(first|(refine Zae hix ?_)|(refine bx ?_;intro bk)))|refine walk1 ?_)
   exact rtC
  have b4:decide ((2000:Int)<a.shifts.length)=false:=decide_eq_false (by omega)
  rw[if_neg h4]
  repeat (first|(apply RL_pu;rfl;exact Zxt)|(refine js ?_;(first|(refine Zae hix ?_)|(refine bx ?_;intro bk)))|refine walk1 ?_)
  exact rtC
theorem ZpB (Ar Az Al As:Option Addr)(cr cz cl cs:Nat)(a:Zac)(w:World)(hA:Zan w Ar Az Al As cr cz cl cs a)(hS:ZhN a) :
  Does Tryz.prog 53 [srcV Ar Az Al As cr cz cl cs a] w (fun v O=>v=ptV (Zda a)/\O=[]):=by
 have h:=fun w' (hw:Bel w.heap.size w w')=>ZsS Ar Az Al As cr cz cl cs a w' (hA.up hw) hS
 refine Zaa Tryz.func53 rfl rfl rfl rfl ?_
 generalize Zda a=o at *
 cases o with
 | none =>
  simp only[ptV,plV,Zas.enc]at h ⊢
  repeat (first|(refine js ?_;(first|(refine Zae h ?_)|(refine bx ?_;intro bk)))|refine walk ?_)
  exact rtC
 | some pe =>
  obtain⟨⟨p1,p2,p3⟩,e⟩:=pe
  simp only[ptV,plV,Zas.enc]at h ⊢
  repeat (first|(refine js ?_;(first|(refine Zae h ?_)|(refine bx ?_;intro bk)))|refine walk ?_)
  exact rtC
structure RlG where
 k:Nat
 i:Nat
theorem Zpf (x:ByteArray)(r:Zab)(l:List Zab)(i k:Nat):Zeb x (r::l) i k=if r.name=x then (match i with|0=>⟨1,k,0⟩|i+1=>Zeb x l i (k+1)) else Zeb x l i (k+1):=by cases i <;> rfl
theorem ZsC (x:ByteArray)(i k:Nat):Zeb x [] i k=⟨0,0,0⟩:=by cases i <;> rfl
theorem ZqI {G:Prop}(h:G:=by(first|exact PuI|(apply ZeN;rfl;rfl;exact hb))):G:=h
theorem Zuu (Ar Az Al As:Option Addr)(cr cz cl cs:Nat)(a:Zac)(x:ByteArray)(i:Nat)(w:World)(hA:Zan w Ar Az Al As cr cz cl cs a)(hn:a.rules.length<=1000000)(hi:i<=1000000) :
  Does Tryz.prog 91 [srcV Ar Az Al As cr cz cl cs a,.string x,.int .i64 i] w (fun v O=>v=plV (Zeb x a.rules i 0)/\O=[]):=by
 obtain⟨res,hres⟩:∃ res,Zeb x a.rules i 0=res:=⟨_,rfl⟩
 rw[hres]
 refine Zaa Tryz.func91 rfl rfl rfl rfl ?_
 repeat (first|(refine js ?_;(refine bx ?_;intro bk))|refine walk ?_)
 obtain⟨b6,hb6⟩:∃ b6,bk=b6:=⟨_,rfl⟩
 rw[hb6]
 clear hb6 bk
 refine Zaq [(1,.string x),(6,.pointer (some ⟨b6,0,none⟩)),(11,.slice Ar a.rules.length cr),(12,.int .i64 a.rules.length)] [.blk b6 [.int .i64 0,.int .i64 0,.int .i64 0] 36] (fun g:RlG=>[(2,.int .i64 g.i),(13,.int .i64 g.k)]) (fun _=>[]) (fun g=>g.k<=a.rules.length/\g.i<=1000000/\Zeb x (a.rules.drop g.k) g.i g.k=res) (fun g=>a.rules.length - g.k) ⟨0,i⟩ SFA SOA ⟨Nat.zero_le _,hi,hres⟩ ?_
 clear hi hres
 rintro⟨k,i⟩ ⟨hk,hi6,hi⟩
 dsimp only at hk hi6 hi ⊢
 repeat (first|(refine js ?_;(refine bx ?_;intro bk))|refine walk ?_)
 refine Zah rfl (fun hc=>?_) (fun hc=>?_)
 ·simp only[decide_eq_true_eq,Int.ofNat_lt]at hc
  obtain⟨hna,hca⟩:=hA.r.rd k _ (List.getElem?_eq_getElem hc)
  rw[Zao hc,Zpf]at hi
  generalize a.rules[k]=r at *
  by_cases hx:r.name=x
  ·have hb:(!decide (r.name=x))=false:=by rw[decide_eq_true hx];rfl
   rw[if_pos hx]at hi
   cases i with
   | zero =>
    dsimp only at hi
    subst hi
    repeat (first|(apply RL_pu;rfl;exact ZqI)|(refine js ?_;(refine bx ?_;intro bk))|refine walk1 ?_)
    exact ret_1 _ [] (.cellB rfl (by repeat' constructor) rfl rfl) .nil ⟨rfl,rfl⟩
   | succ i =>
    dsimp only at hi
    have hb2:decide (((i+1:Nat):Int)=0)=false:=decide_eq_false (by omega)
    repeat (first|(apply RL_pu;rfl;(first|exact ZqI|(apply ZaA;rfl;rfl;exact hb2)))|(refine js ?_;(refine bx ?_;intro bk))|refine walk1 ?_)
    rw[show((i+1:Nat):Int) - 1=(i:Int) by omega]
    exact⟨⟨k+1,i⟩,OA,⟨OA,OA,hi⟩,SFA,SOA⟩
  ·have hb:(!decide (r.name=x))=true:=by rw[decide_eq_false hx];rfl
   rw[if_neg hx]at hi
   repeat (first|(apply RL_pu;rfl;exact ZqI)|(refine js ?_;(refine bx ?_;intro bk))|refine walk1 ?_)
   exact⟨⟨k+1,i⟩,OA,⟨OA,OA,hi⟩,SFA,SOA⟩
 ·simp only[decide_eq_false_iff_not,Int.ofNat_lt]at hc
  rw[List.drop_eq_nil_of_le (by omega),ZsC]at hi
  subst hi
  repeat (first|(refine js ?_;(refine bx ?_;intro bk))|refine walk ?_)
  exact ret_1 _ [] (.cellB rfl (by repeat' constructor) rfl rfl) .nil ⟨rfl,rfl⟩
theorem Zhw:∀ (l:List Zab)(acc:List ByteArray)(x:ByteArray),x∈ZaS l acc->x∈acc\/∃ r∈l,r.name=x
 | [],acc,x,h => .inl h
 | r::l,acc,x,h=>by
  rw[ZaS]at h
  split at h
  ·rcases Zhw l acc x h with h|⟨q,hq,e⟩
   ·exact .inl h
   ·exact .inr ⟨q,List.mem_cons_of_mem _ hq,e⟩
  ·rcases Zhw l _ x h with h|⟨q,hq,e⟩
   ·rcases List.mem_append.1 h with h|h
    ·exact .inl h
    ·simp only[List.mem_singleton]at h;exact .inr ⟨r,List.mem_cons_self,h.symm⟩
   ·exact .inr ⟨q,List.mem_cons_of_mem _ hq,e⟩
theorem ZfG:∀ (l:List Zab)(acc:List ByteArray),(ZaS l acc).length<=acc.length+l.length
 | [],acc=>Nat.le_refl _
 | r::l,acc=>by
  rw[ZaS]
  split
  ·have:=ZfG l acc;simp only[List.length_cons];omega
  ·have:=ZfG l (acc++[r.name]);simp only[List.length_append,List.length_cons,List.length_nil]at this ⊢;omega
theorem Zk9:∀ (l:List Zaf)(e:Zaf),Zdb l=some e->e∈l
 | [],_,h=>by cases h
 | [_],_,h=>by cases h
 | a::b::l,e,h=>by
  rw[Zdb]at h
  split at h
  ·simp only[Option.some.injEq]at h;subst h;exact List.mem_cons_of_mem _ List.mem_cons_self
  ·exact List.mem_cons_of_mem _ (Zk9 (b::l) e h)
theorem Zkw (least y:Int):∀ (l:List Zab) (i:Nat),∀ e∈Zel least y l i,∃ j:Nat,e.rule=j/\j<i+l.length
 | [],_=>fun e h=>by cases h
 | r::l,i=>fun e he=>by
  rw[Zel]at he
  rcases List.mem_append.1 he with h|h
  ·have:onR least r i y=some e:=by
    cases ho:onR least r i y with
    | none=>rw[ho]at h;cases h
    | some x=>rw[ho]at h;simp only[Option.toList,List.mem_singleton]at h;rw[h]
   unfold onR at this
   split at this
   ·cases this
   ·split at this
    ·cases this
    ·simp only[Option.some.injEq]at this
     subst this
     exact⟨i,rfl,by simp⟩
  ·obtain⟨j,h1,h2⟩:=Zkw least y l (i+1) e h
   exact⟨j,h1,by simp only[List.length_cons];omega⟩
theorem Zol (l:List Zab)(least from_:Int):∀ k,∀ e∈allC l least from_ k,∃ j:Nat,e.rule=j/\j<l.length
 | 0=>fun e h=>by cases h
 | k+1=>fun e he=>by
  rw[allC]at he
  rcases List.mem_append.1 he with h|h
  ·exact Zol l least from_ k e h
  ·have:=Zkw _ _ _ _ e h
   simpa using this
theorem Zqc (l:List Zab)(e:Zaf)(h:Zgb l=some e):∃ j:Nat,e.rule=j/\j<l.length:=by
 rw[<- Zog]at h
 exact Zol _ _ _ _ e (List.mem_mergeSort.1 (Zk9 _ _ h))
def Zml (s:Zac):Prop:=∀ r∈s.rules,(-4611686018427387904<=r.save/\r.save<=4611686018427387904)/\r.from_<=4611686018427387904
theorem ZuP {l:List Zab}{x:ByteArray}{r:Zab}(h:r∈ofB l x):r∈l:=(List.mem_filter.1 h).1
def SavI (s:Zac):Prop:=∀ r∈s.rules,-9223372036854775808<=r.save/\r.save<=9223372036854775807
theorem ZgV (least:Int):∀ (l:List Zab) (k:Nat),Zbp least l k=none->∀ r∈l,Zcp r least=0
 | [],_,_,_,h=>by cases h
 | x::l,k,h,r,hr=>by
  rw[Zbp]at h
  by_cases h0:Zcp x least=0
  ·rw[if_pos h0]at h
   rcases List.mem_cons.1 hr with rfl|hr
   ·exact h0
   ·exact ZgV least l (k+1) h r hr
  ·rw[if_neg h0]at h
   cases h
theorem Zuv {r:Zab}{least:Int}(h:Zcp r least=0):(-4611686018427387904<=r.save/\r.save<=4611686018427387904)/\r.from_<=4611686018427387904:=by
 unfold Zcp at h
 split at h
 ·cases h
 ·rename_i h1
  split at h
  ·cases h
  ·split at h
   ·cases h
   ·split at h
    ·cases h
    ·split at h
     ·cases h
     ·rename_i h2
      have e2:(decide (-10800<=r.save)&&decide (r.save<=10800))=true:=by
       cases hh:(decide (-10800<=r.save)&&decide (r.save<=10800)) with
       | true=>rfl
       | false=>exact absurd hh h2
      have e1:ZcA r.from_=true:=by
       cases hh:ZcA r.from_ with
       | true=>rfl
       | false=>rw[hh]at h1;exact absurd rfl h1
      unfold ZcA at e1
      simp only[Bool.and_eq_true,decide_eq_true_eq]at e1 e2
      omega
theorem Zna {l:List Zab}(h:(Zes l).2=0):∀ r∈l,(-4611686018427387904<=r.save/\r.save<=4611686018427387904)/\r.from_<=4611686018427387904:=by
 intro r hr
 unfold Zes at h
 cases hf:Zbp (Zaj l) l 0 with
 | none=>exact Zuv (ZgV _ l 0 hf r hr)
 | some x =>
  rw[hf]at h
  exfalso
  have:∀ (l:List Zab) (k:Nat) (x:Nat × Int) (m:Int),Zbp m l k=some x->x.2≠0:=fun l=>by
   induction l with
   | nil=>intro k x m h;cases h
   | cons y l ih =>
    intro k x m h
    rw[Zbp]at h
    split at h
    ·exact ih _ _ _ h
    ·rename_i h0
     simp only[Option.some.injEq]at h
     rw[<- h]
     exact h0
  exact this _ _ _ _ hf h
theorem Zfh:∀ (l:List Zab)(acc:List ByteArray),(∀ x∈acc,x∈ZaS l acc)/\∀ r∈l,r.name∈ZaS l acc
 | [],acc=>⟨fun _ h=>h,fun _ h=>by cases h⟩
 | y::l,acc=>by
  rw[ZaS]
  by_cases hm:memB y.name acc=true
  ·rw[if_pos hm]
   have ih:=Zfh l acc
   refine⟨ih.1,fun r hr=>?_⟩
   rcases List.mem_cons.1 hr with rfl|hr
   ·refine ih.1 _ ?_
    have:∀ (l:List ByteArray) (x:ByteArray),memB x l=true->x∈l:=fun l=>by
     induction l with
     | nil=>intro x h;cases h
     | cons z l ih2 =>
      intro x h
      rw[memB,Bool.or_eq_true,decide_eq_true_eq]at h
      rcases h with rfl|h
      ·exact List.mem_cons_self
      ·exact List.mem_cons_of_mem _ (ih2 x h)
    exact this _ _ hm
   ·exact ih.2 r hr
  ·rw[if_neg hm]
   have ih:=Zfh l (acc++[y.name])
   refine⟨fun x hx=>ih.1 x (List.mem_append_left _ hx),fun r hr=>?_⟩
   rcases List.mem_cons.1 hr with rfl|hr
   ·exact ih.1 _ (List.mem_append_right _ (List.mem_singleton.2 rfl))
   ·exact ih.2 r hr
theorem ZiT (rs:List Zab):∀ l:List ByteArray,Zd8 rs l=none->∀ x∈l,(Zes (ofB rs x)).2=0
 | [],_,_,h=>by cases h
 | y::l,h,x,hx=>by
  rw[Zd8]at h
  cases hf:Zco rs y with
  | some z=>rw[hf]at h;cases h
  | none =>
   rw[hf]at h
   rcases List.mem_cons.1 hx with rfl|hx
   ·unfold Zco at hf
    split at hf
    ·cases hf
    ·split at hf
     ·cases hf
     ·rename_i h2
      exact Decidable.of_not_not h2
   ·exact ZiT rs l h x hx
theorem Zup {s:Zac}(h:Zih s=none):Zml s:=fun r hr =>
 Zna (ZiT s.rules _ h r.name ((Zfh s.rules []).2 r hr)) r (List.mem_filter.2 ⟨hr,decide_eq_true rfl⟩)
theorem Zpo (l:List Zab)(x:ByteArray):(ofB l x).length<=l.length:=List.length_filter_le _ _
theorem Zjv (least:Int):∀ (l:List Zab) (i:Nat) (j:Nat) (e:Int),Zbp least l i=some (j,e)->j<i+l.length
 | [],_,_,_,h=>by cases h
 | r::l,i,j,e,h=>by
  rw[Zbp]at h
  split at h
  ·have:=Zjv least l (i+1) j e h;simp only[List.length_cons];omega
  ·simp only[Option.some.injEq,Prod.mk.injEq]at h;simp only[List.length_cons];omega
end Go.Proofs.YtbjomhdhkpgbaaaGreatDoor
