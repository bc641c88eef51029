/- Parts of the proof. -/
import Derived.Test.YtpipekfmecikmaaGreatDoorR14
import Derived.Shelf.SlSortCmp.NoneTotal
import Derived.Sort.Grow
import Derived.Deep.Draws
import Derived.Deep.RegionHeld3
import Derived.Test.YtpipekfmecikmaaGreatDoorR16
set_option maxHeartbeats 4000000
set_option linter.all false
namespace Go.Proofs.YtpipekfmecikmaaGreatDoor
open Go Go.RowKit Go.Wk Go.Lib
attribute [local irreducible] W RL Does Zaq Zai retQ Calls Pu Stp RD Qy Ay Zaj RW
structure LtG where
 k:Nat
 A:Option Addr
 c:Nat
 m:Nat
 ys:List Value
theorem Zvm {G:Prop}(h:G:=by(first|(apply ZaF;rfl;rfl;omega;omega;(intro w' _ hO;exact(Za9 (hO.of (A := .row (.slice A1 L.length c1) 9 1 L.length (L.flatMap ZaR)) (by repeat' constructor)) hg1).1))|(apply ZcM;rfl;(focus repeat' constructor);exact hg1))):G:=h
theorem Zvl {G:Prop}(h:G:=by(apply ZcL;rfl;rfl;exact hb)):G:=h
theorem Zvk {G:Prop}(h:G:=by(apply Zal;rfl;rfl;exact hb)):G:=h
theorem ZoB (e:DEra)(A:Option Addr)(c:Nat)(l:List DRule)(w:World)(hL:LibW w)(hA:RdSl w A c DRule.enc 11 l)(ho:I64 e.off)(hs:I64 e.save)(R:∀ r∈l,I64 r.save)(hn:l.length<=1000000)(y:e.format.size<=1000000000)(Q:∀ r∈l,r.letter.size<=1000000000) :
  Does Tryz.prog 240 [.agg e.enc.toArray,.slice A l.length c] w (fun v O=>v = .int .i64 (Zeg e l)/\O=[]):=by
 have j:=fun w' (I:Bel w.heap.size w w')=>Zig e.format w' (hL.up I) y
 have hx:=fun w' (I:Bel w.heap.size w w')=>ZoD e A c l w' (hA.up I) ho hs R hn
 have u:=fun(x:ByteArray) (hx:x.size<=1000000000) w' (I:Bel w.heap.size w w')=>ZgH e.format x 0 0 w' (hL.up I) y hx ⟨by decide,by decide⟩ ⟨by decide,by decide⟩
 unfold Zeg
 dsimp only
 obtain⟨L,d⟩:∃ L:List ByteArray,(if e.kind=2 then l.map (·.letter) else [ByteArray.empty])=L:=⟨_,rfl⟩
 have E:(if e.kind=2 then l.map (fun r=>r.letter.data.toList) else [[]])=L.map (·.data.toList):=by
  rw[<- d]
  split
  ·rw[List.map_map];rfl
  ·rfl
 have M:∀ x∈L,x.size<=1000000000:=by
  rw[<- d]
  intro x hx
  split at hx
  ·obtain⟨r,R,rfl⟩:=List.mem_map.1 hx;exact Q r R
  ·simp only[List.mem_singleton]at hx;subst hx;decide
 have aa:L.length<=1000001:=by
  rw[<- d]
  split
  ·rw[List.length_map];omega
  ·decide
 rw[E]
 obtain⟨off,kind,save,set,format,til⟩:=e
 dsimp only at ho hs j hx u y d ⊢
 generalize ZaP format.data.toList=K at *
 obtain⟨Z,U⟩:∃ Z,Zd4 ⟨off,kind,save,set,format,til⟩ l=Z:=⟨_,rfl⟩
 rw[U]at hx ⊢
 obtain⟨Y,xe⟩:=Z
 simp only[xpV,DEra.enc]at hx u ⊢
 refine Zaa Tryz.func240 rfl rfl rfl rfl ?_
 repeat (first|(refine js ?_;(refine bx ?_;intro J))|refine ZlH ?_)
 rename_i C
 obtain⟨D,F⟩:∃ D,J=D:=⟨_,rfl⟩
 rw[F]
 clear F J
 refine ZAr (fun fr' O'=>∃ A1 c1,Sub [(2,.pointer (some ⟨C,0,none⟩)),(1,.slice A l.length c),(5,.slice A1 L.length c1)] fr'/\SubO [.row (.slice A1 L.length c1) 9 1 L.length (L.flatMap ZaR),.blk C [.int .i64 off,.int .i64 kind,.int .i64 save,.string set,.string format,.bool til.is,.int .i64 til.year,.int .i64 til.month,.int .i64 til.day.kind,.int .i64 til.day.week,.int .i64 til.day.day,.int .i64 til.at_.sec,.int .i64 til.at_.base] 75] O') ?_ ?_
 ·refine Zaf rfl (fun h=>?_) (fun h=>?_)
  ·rw[if_pos (of_decide_eq_true h)]at d
   subst d
   repeat (refine walk ?_)
   refine ZdO 9 1 ?_
   refine Zah [(2,.pointer (some ⟨C,0,none⟩)),(1,.slice A l.length c),(19,.slice A l.length c),(20,.int .i64 l.length)] [.blk C [.int .i64 off,.int .i64 kind,.int .i64 save,.string set,.string format,.bool til.is,.int .i64 til.year,.int .i64 til.month,.int .i64 til.day.kind,.int .i64 til.day.week,.int .i64 til.day.day,.int .i64 til.at_.sec,.int .i64 til.at_.base] 75] (fun g:LtG=>[(5,.slice g.A g.m g.c),(21,.int .i64 g.k)]) (fun g=>[.row (.slice g.A g.m g.c) 9 1 g.m g.ys])
    (fun g=>g.k<=l.length/\g.m=g.k/\g.ys=((l.take g.k).map (·.letter)).flatMap ZaR) (fun g=>l.length - g.k) ⟨0,none,0,0,[]⟩ SFA SOA ⟨Nat.zero_le _,rfl,rfl⟩ ?_
   rintro⟨k,A1,c1,m,ys⟩ ⟨H,hm,hy⟩
   dsimp only at H hm hy ⊢
   repeat (refine walk ?_)
   refine Zaf rfl (fun i=>?_) (fun i=>?_)
   ·simp only[decide_eq_true_eq,Int.ofNat_lt]at i
    obtain⟨hna,hca⟩:=hA.rd k _ (List.getElem?_eq_getElem i)
    have S:=List.take_append_getElem i
    generalize l[k]=r at *
    repeat (first|(apply RL_pu;rfl;exact PuI)|(refine js ?_;(first|(apply ZaD;rfl;rfl;(intro A' c';(focus repeat' constructor));(intro w' _ hO;exact ZbC (hO.of (by repeat' constructor)));rfl;rfl;(simp only[maxLen];omega);omega;intro A' c' ab ac ad)|(refine bx ?_;intro J)))|refine walk1 ?_)
    exact⟨⟨k+1,A',c',m+1,ys++[.string r.letter]⟩,OA,⟨OA,OA,by dsimp only;rw[hy,<- S];simp[ZaR]⟩,SFA,SOA⟩
   ·obtain rfl:k=l.length:=by simp only[decide_eq_false_iff_not,Int.ofNat_lt]at i;omega
    rw[List.take_length]at hy
    subst hm hy
    repeat (refine walk ?_)
    rw[List.length_map]
    exact⟨A1,c1,SFA,SOA⟩
  ·rw[if_neg (of_decide_eq_false h)]at d
   subst d
   refine Zuf (b:=D) (m:=1) 1 (by repeat' constructor) rfl (by decide) ?_
   repeat (refine walk ?_)
   exact⟨some ⟨D,0,none⟩,1,SFA,SOA⟩
 rintro fr' O' ⟨A1,c1,hf,hO⟩
 refine Zcz hf hO ?_
 clear hf hO fr' O' d E D
 by_cases W:K=0
 ·subst W
  rw[if_pos rfl]
  repeat (first|(refine js ?_;((refine Zac j ?_)))|refine walk ?_)
  exact rtA
 have e0:decide (K=0)=false:=decide_eq_false W
 rw[if_neg W]
 by_cases X:K=3
 ·subst X
  rw[if_pos rfl]
  obtain⟨B,t⟩:∃ B,ZbA format.data.toList (L.map (·.data.toList))=B:=⟨_,rfl⟩
  rw[t]
  repeat (first|(refine js ?_;((refine Zac j ?_)))|refine walk ?_)
  refine Zah [(2,.pointer (some ⟨C,0,none⟩)),(39,.slice A1 L.length c1),(40,.int .i64 L.length)] [.row (.slice A1 L.length c1) 9 1 L.length (L.flatMap ZaR),.blk C [.int .i64 off,.int .i64 kind,.int .i64 save,.string set,.string format,.bool til.is,.int .i64 til.year,.int .i64 til.month,.int .i64 til.day.kind,.int .i64 til.day.week,.int .i64 til.day.day,.int .i64 til.at_.sec,.int .i64 til.at_.base] 75] (fun k:Nat=>[(41,.int .i64 k)]) (fun _=>[]) (fun k=>k<=L.length/\ZbA format.data.toList ((L.drop k).map (·.data.toList))=B) (fun k=>L.length - k) 0 SFA SOA ⟨Nat.zero_le _,t⟩ ?_
  rintro k ⟨H,s⟩
  repeat (refine walk ?_)
  refine Zaf rfl (fun i=>?_) (fun i=>?_)
  ·simp only[decide_eq_true_eq,Int.ofNat_lt]at i
   have hg1:(L.flatMap ZaR)[k*1]?=some (.string L[k]):=by
    have:=ZaC (enc:=ZaR) (fun _=>rfl) L k _ 0 (.string L[k]) (List.getElem?_eq_getElem i) rfl
    simpa using this
   rw[Zag i,List.map_cons,ZbA]at s
   have T:=M _ (List.getElem_mem i)
   generalize L[k]=x at *
   have N:=u x T
   generalize Zds format.data.toList 0 0 x.data.toList=av at *
   obtain⟨at_,ae⟩:=av
   dsimp only at N s
   by_cases V:ae=0
   ·subst V
    rw[if_pos rfl]at s
    repeat (first|(apply RL_pu;rfl;exact Zvm)|(refine js ?_;((refine Zac N ?_)))|refine walk1 ?_)
    exact⟨k+1,OA,⟨OA,s⟩,SFA,SOA⟩
   ·rw[if_neg V]at s
    subst s
    have hb:(!decide (ae=0))=true:=by rw[decide_eq_false V];rfl
    repeat (first|(apply RL_pu;rfl;(first|exact Zvm|(apply Zal;rfl;rfl;exact hb)))|(refine js ?_;((refine Zac N ?_)))|refine walk1 ?_)
    exact rtA
  ·simp only[decide_eq_false_iff_not,Int.ofNat_lt]at i
   rw[List.drop_eq_nil_of_le (by omega)]at s
   subst s
   repeat (refine walk ?_)
   exact rtA
 have e3:decide (K=3)=false:=decide_eq_false X
 rw[if_neg X]
 by_cases f:K=4\/K=5
 ·rw[if_pos f]
  by_cases z:xe=0
  ·subst z
   rcases f with rfl|rfl
   ·rw[if_neg (by rintro(h|⟨h,_⟩);exact h rfl;omega)]
    repeat (first|(refine js ?_;(first|(refine Zac j ?_)|(refine Zac hx ?_)))|refine walk ?_)
    exact rtA
   ·by_cases q:Y=format.data.toList
    ·have hb:(!decide ((⟨Y.toArray⟩:ByteArray)=format))=false:=by rw[decide_eq_true (by rw[q])];rfl
     rw[if_neg (by rintro(h|⟨_,h⟩);exact h rfl;exact h q)]
     repeat (first|refine und ?_|(apply RL_pu;rfl;exact Zvl)|(refine js ?_;(first|(refine Zac j ?_)|(refine Zac hx ?_)))|refine walk1 ?_)
     exact rtA
    ·have hb:(!decide ((⟨Y.toArray⟩:ByteArray)=format))=true:=by rw[decide_eq_false (fun h=>q (by rw[<- h]))];rfl
     rw[if_pos (.inr ⟨rfl,q⟩)]
     repeat (first|refine und ?_|(apply RL_pu;rfl;exact Zvl)|(refine js ?_;(first|(refine Zac j ?_)|(refine Zac hx ?_)))|refine walk1 ?_)
     exact rtA
  ·have hb:(!decide (xe=0))=true:=by rw[decide_eq_false z];rfl
   rw[if_pos (.inl z)]
   rcases f with rfl|rfl
   ·repeat (first|refine und ?_|(apply RL_pu;rfl;exact Zvk)|(refine js ?_;(first|(refine Zac j ?_)|(refine Zac hx ?_)))|refine walk1 ?_)
    exact rtA
   ·repeat (first|refine und ?_|(apply RL_pu;rfl;exact Zvk)|(refine js ?_;(first|(refine Zac j ?_)|(refine Zac hx ?_)))|refine walk1 ?_)
    exact rtA
 rw[if_neg f]
 have e4:decide (K=4)=false:=decide_eq_false (fun h=>f (.inl h))
 have e5:decide (K=5)=false:=decide_eq_false (fun h=>f (.inr h))
 repeat (first|(apply RL_pu;rfl;(first|(apply Zao;rfl;rfl;exact e0)|(apply Zao;rfl;rfl;exact e3)|(apply Zao;rfl;rfl;exact e4)|(apply Zao;rfl;rfl;exact e5)))|(refine js ?_;((refine Zac j ?_)))|refine walk1 ?_)
 exact rtA
end Go.Proofs.YtpipekfmecikmaaGreatDoor
namespace Go.Proofs.YtpipekfmecikmaaGreatDoor
open Go.Shelf Go.RowKit Go.Lib Go.Sort
def ZnV:Ren where
 f:=fun|6=>274|15=>290|14=>289|28=>311|29=>312|20=>303|21=>304|22=>305|23=>306|24=>307|25=>308|26=>309|27=>310|46=>326|47=>327|48=>328|49=>329|50=>330|57=>338|n=>n
 t:=fun|22=>252|24=>91|25=>148|3=>3|39=>308|0=>0|53=>324|55=>286|4=>4|46=>318|45=>317|50=>129|5=>5|9=>9|66=>336|70=>340|76=>354|77=>355|n=>n
 g:=fun n=>n
theorem Zsp:SlLaysF0.n6 Tryz.prog ZnV where
 mixed:=by kernel_rfl
 f6:=⟨Tryz.f274.name,by decide,Tryz.func274.trans (congrArg some (by kernel_rfl))⟩
 f14:=⟨Tryz.f289.name,by decide,Tryz.func289.trans (congrArg some (by kernel_rfl))⟩
 f20:=⟨Tryz.f303.name,by decide,Tryz.func303.trans (congrArg some (by kernel_rfl))⟩
 f21:=⟨Tryz.f304.name,by decide,Tryz.func304.trans (congrArg some (by kernel_rfl))⟩
 f22:=⟨Tryz.f305.name,by decide,Tryz.func305.trans (congrArg some (by kernel_rfl))⟩
 f23:=⟨Tryz.f306.name,by decide,Tryz.func306.trans (congrArg some (by kernel_rfl))⟩
 f24:=⟨Tryz.f307.name,by decide,Tryz.func307.trans (congrArg some (by kernel_rfl))⟩
 f25:=⟨Tryz.f308.name,by decide,Tryz.func308.trans (congrArg some (by kernel_rfl))⟩
 f26:=⟨Tryz.f309.name,by decide,Tryz.func309.trans (congrArg some (by kernel_rfl))⟩
 f27:=⟨Tryz.f310.name,by decide,Tryz.func310.trans (congrArg some (by kernel_rfl))⟩
 f46:=⟨Tryz.f326.name,by decide,Tryz.func326.trans (congrArg some (by kernel_rfl))⟩
 f49:=⟨Tryz.f329.name,by decide,Tryz.func329.trans (congrArg some (by kernel_rfl))⟩
 f50:=⟨Tryz.f330.name,by decide,Tryz.func330.trans (congrArg some (by kernel_rfl))⟩
 f57:=⟨Tryz.f338.name,by decide,Tryz.func338.trans (congrArg some (by kernel_rfl))⟩
 f15:=Tryz.func290.trans (congrArg some (by kernel_rfl))
 f28:=Tryz.func311.trans (congrArg some (by kernel_rfl))
 f29:=Tryz.func312.trans (congrArg some (by kernel_rfl))
 f47:=Tryz.func327.trans (congrArg some (by kernel_rfl))
 f48:=Tryz.func328.trans (congrArg some (by kernel_rfl))
 t0:=Tryz.underlying0
 a0:=Tryz.isAgg0
 z0:=Tryz.sizeOf0
 v0:=Tryz.zeroValue0
 t3:=Tryz.underlying3
 a3:=Tryz.isAgg3
 z3:=Tryz.sizeOf3
 v3:=Tryz.zeroValue3
 t4:=Tryz.underlying4
 a4:=Tryz.isAgg4
 z4:=Tryz.sizeOf4
 v4:=Tryz.zeroValue4
 t5:=Tryz.underlying5
 a5:=Tryz.isAgg5
 z5:=Tryz.sizeOf5
 v5:=Tryz.zeroValue5
 t9:=Tryz.underlying9
 a9:=Tryz.isAgg9
 z9:=Tryz.sizeOf9
 v9:=Tryz.zeroValue9
 t22:=Tryz.underlying252
 a22:=Tryz.isAgg252
 z22:=Tryz.sizeOf252
 v22:=Tryz.zeroValue252
 t25:=Tryz.underlying148
 a25:=Tryz.isAgg148
 z25:=Tryz.sizeOf148
 v25:=Tryz.zeroValue148
 t39:=Tryz.underlying308
 a39:=Tryz.isAgg308
 z39:=Tryz.sizeOf308
 v39:=Tryz.zeroValue308
 t45:=Tryz.underlying317
 a45:=Tryz.isAgg317
 z45:=Tryz.sizeOf317
 v45:=Tryz.zeroValue317
 t46:=Tryz.underlying318
 a46:=Tryz.isAgg318
 z46:=Tryz.sizeOf318
 v46:=Tryz.zeroValue318
 t50:=Tryz.underlying129
 a50:=Tryz.isAgg129
 z50:=Tryz.sizeOf129
 v50:=Tryz.zeroValue129
 t53:=Tryz.underlying324
 a53:=Tryz.isAgg324
 z53:=Tryz.sizeOf324
 v53:=Tryz.zeroValue324
 t55:=Tryz.underlying286
 a55:=Tryz.isAgg286
 z55:=Tryz.sizeOf286
 v55:=Tryz.zeroValue286
 t66:=Tryz.underlying336
 a66:=Tryz.isAgg336
 z66:=Tryz.sizeOf336
 v66:=Tryz.zeroValue336
 t70:=Tryz.underlying340
 a70:=Tryz.isAgg340
 z70:=Tryz.sizeOf340
 v70:=Tryz.zeroValue340
 t76:=Tryz.underlying354
 a76:=Tryz.isAgg354
 z76:=Tryz.sizeOf354
 v76:=Tryz.zeroValue354
 t77:=Tryz.underlying355
 a77:=Tryz.isAgg355
 z77:=Tryz.sizeOf355
 v77:=Tryz.zeroValue355
open Go Go.Shelf Go.Lib Go.RowKit Go.Sort Go.Wk
set_option maxHeartbeats 4000000
theorem Zz8 (a b:Int)(w:World):Calls Tryz.prog 123 #[.int .i64 a,.int .i64 b] w fun e w'=>e = .returned (.int .i64 (cmpI a b))/\w'=w:=by
 go_enter Tryz.func123,Tryz.ntmps123
 go_wp2
 all_goals go_ret
 all_goals (unfold cmpI;repeat' split)
 all_goals first|exact⟨rfl,rfl⟩|(exfalso;omega)
theorem ZBp (a b:Int)(w:World):Calls Tryz.prog 124 #[.int .i64 a,.int .i64 b] w fun e w'=>e = .returned (.int .i64 (cmpI a b))/\w'=w:=by
 go_enter Tryz.func124,Tryz.ntmps124
 go_wp2
 all_goals go_ret
 all_goals (unfold cmpI;repeat' split)
 all_goals first|exact⟨rfl,rfl⟩|(exfalso;omega)
theorem or_l (x y z:Int)(b:Nat)(w:World)(f:w.cell? ⟨b,0,none⟩=some (.int .i64 x))(g:w.cell? ⟨b,1,none⟩=some (.int .i64 y))(h:w.cell? ⟨b,2,none⟩=some (.int .i64 z)) :
  Calls Tryz.prog 122 #[.slice (some ⟨b,0,none⟩) 3 3] w fun e w'=>e = .returned (.int .i64 (ZbQ [x,y,z]))/\w'=w:=by
 go_enter Tryz.func122,Tryz.ntmps122
 go_wp2
 refine wp_loop_rounds 4 ?_
 rw[rounds_succ]
 by_cases a:x=0
 ·subst a
  go_wp2
  rw[rounds_succ]
  by_cases c:y=0
  ·subst c
   go_wp2
   rw[rounds_succ]
   by_cases d:z=0
   ·subst d
    go_wp2
    rw[rounds_succ]
    go_wp2
    go_ret
    exact⟨rfl,rfl⟩
   ·go_wp2
    go_ret
    exact⟨by simp[ZbQ,d],rfl⟩
  ·go_wp2
   go_ret
   exact⟨by simp[ZbQ,c],rfl⟩
 ·go_wp2
  go_ret
  exact⟨by simp[ZbQ,a],rfl⟩
attribute [local irreducible] cmpI ZbQ
theorem Zrj (a b:Zab)(w:World):Calls Tryz.prog 84 #[.agg (Zab.enc a).toArray,.agg (Zab.enc b).toArray] w fun e w'=>e = .returned (.int .i64 (ordE a b))/\∃ q c,w'=grow (w.drewN q) c:=by
 rw[ZsY]
 obtain⟨y,r,n⟩:=a
 obtain⟨g,f,d⟩:=b
 dsimp only
 have h:=Zz8
 have i:=ZBp
 have j:=or_l
 simp only[Zab.enc]
 go_enter Tryz.func84,Tryz.ntmps84
 go_wp2_with fail
 go_region_held3 (fun W=>W.cell? ⟨w.heap.size,0,none⟩=some (.int .i64 y)/\W.cell? ⟨w.heap.size,1,none⟩=some (.int .i64 r)/\W.cell? ⟨w.heap.size,2,none⟩=some (.int .i64 n)/\W.cell? ⟨w.heap.size+1,0,none⟩=some (.int .i64 g)/\W.cell? ⟨w.heap.size+1,1,none⟩=some (.int .i64 f)/\W.cell? ⟨w.heap.size+1,2,none⟩=some (.int .i64 d)) (go_keep)
  (first
   | (go_at_call 123;refine(h _ _ _).mono ?_;rintro e w' ⟨rfl,rfl⟩)
   | (go_at_call 124;refine(i _ _ _).mono ?_;rintro e w' ⟨rfl,rfl⟩)
   | (go_at_call 122;refine(j (cmpI n d) (cmpI r f) (cmpI y g) _ _ (by go_simp) (by go_simp) (by go_simp)).mono ?_;rintro e w' ⟨rfl,rfl⟩))
 all_goals (try go_wp2)
 all_goals go_ret
 all_goals exact⟨rfl,1,_,by rw[alloc_eq_grow,alloc_eq_grow,alloc_eq_grow,grow_grow,grow_grow];rfl⟩
end Go.Proofs.YtpipekfmecikmaaGreatDoor
namespace Go.Proofs.YtpipekfmecikmaaGreatDoor
open Go Go.RowKit Go.Wk
theorem Zab.len (x:Zab):(Zab.enc x).length=3:=rfl
def Zk3 (A:Option Addr)(c:Nat)(l:List Zab):It := .row (.slice A l.length c) 91 3 l.length (l.flatMap Zab.enc)
def Zcv (l:List Zab):List Zab:=l.mergeSort fun x y => !ltE y x
theorem Zft (l:List Zab):(Zcv l).length=l.length:=List.length_mergeSort _
instance : Inhabited Zab:=⟨dEv0⟩
theorem ZpY (l:List Zab):Go.Sort.flatK Zab.enc 3 l.toArray=(l.flatMap Zab.enc).toArray:=by
 have e:=ZbP Zab.len l
 refine Go.Sort.ext_get! (by rw[Go.Sort.size_flatK];simp[e]) fun t f=>?_
 have c:t<l.toArray.size*3:=by rwa[Go.Sort.size_flatK]at f
 rw[Go.Sort.get_flatK _ _ _ _ c]
 have b:t / 3<l.length:=by simp at c;omega
 have d:t % 3<3:=Nat.mod_lt _ (by decide)
 have a:=ZaC Zab.len l (t / 3) l[t / 3] (t % 3) ((Zab.enc l[t / 3])[t % 3]'d) (List.getElem?_eq_getElem b) (List.getElem?_eq_getElem d)
 rw[show t / 3*3+t % 3=t by omega]at a
 rw[getElem!_pos l.toArray (t / 3) (by simpa using b)]
 rw[show(l.flatMap Zab.enc).toArray[t]! = (l.flatMap Zab.enc)[t]?.getD default from by simp only[getElem!_def,List.getElem?_toArray];cases (l.flatMap Zab.enc)[t]? <;> rfl]
 rw[a]
 rw[getElem!_pos (Zab.enc _) (t % 3) (by rw[Zab.len];exact d)]
 simp
 rfl
theorem ZvR (b:Nat)(l:List Zab)(w:World):CmpLays Tryz.prog 84 #[] Zab.enc 3 ordE b 0 l.toArray.size w :=
 fun m os a _ x y=>by
  have:=Zrj x y (sortWorldK Zab.enc 3 w b 0 m a os)
  simpa using this
theorem Zsq (A:Option Addr)(c:Nat)(l:List Zab)(wr:World)(Y:l.length<=1000000000) :
  Zaj Tryz.prog 274 [.slice A l.length c,.func (.func 84) #[] #[]] wr [Zk3 A c l] (fun v O=>v = .tuple #[]/\O=[Zk3 A c (Zcv l)]):=by
 intro w H I
 have F:=I.sat _ (List.mem_singleton.2 rfl)
 obtain⟨X,⟨K,_⟩|⟨b,cap,a,G,T,J,W,L,Q,f⟩⟩:=id F
 ·injection K with h1 h2 h3
  obtain rfl:=List.eq_nil_of_length_eq_zero h2
  subst h1 h3
  refine Calls.mono (AnyF.slices_SortFunc_none Zsp none 0 (.func (.func 84) #[] #[]) w) ?_
  rintro e w' ⟨rfl,rfl⟩
  exact⟨_,_,rfl,H,I,rfl,by rw[show Zcv []=[] from by simp[Zcv]]⟩
 injection G with hA h2 h3
 subst hA h3
 have u:b<w.heap.size:=(Array.getElem?_eq_some_iff.1 J).1
 have V:=I.inb _ (List.mem_singleton.2 rfl) b (by simp[It.S,Zk3,Value.ownBlock])
 have m:=ZbP Zab.len l
 have U:l.length*3<=a.size:=by
  have:=congrArg List.length f
  rw[List.length_take,m,Array.length_toList]at this
  omega
 have z:∀ j,j<l.length*3->a[j]?=(l.flatMap Zab.enc)[j]?:=fun j r=>by
  rw[<- f,List.getElem?_take,if_pos (by omega)]
  simp
 have k:Go.Sort.HoldsK Zab.enc 3 w b 0 l.toArray:=fun j r=>by
  rw[ZpY]at r ⊢
  have B:j<l.length*3:=by simpa[m] using r
  have C:j<(l.flatMap Zab.enc).length:=by rw[m];exact B
  refine⟨?_,by simp[World.frozen?,J]⟩
  rw[Nat.zero_add,show w.cell? ⟨b,j,none⟩=a[j]? from by simp[World.cell?,J],z j B,List.getElem?_eq_getElem C,getElem!_pos _ j (by simpa using C)]
  simp
 have h:=AnyQ.slices_SortFunc_total Zsp 3 Tryz.isAgg91 Tryz.sizeOf91 Zab.enc Zab.len (fun x v K=>by simp[Zab.enc]at K;rcases K with rfl|rfl|rfl <;> rfl) ordE swoE 84 #[] b 0 c l.toArray w
  (enters_of Tryz.func84 (by kernel_rfl) rfl) (ZvR b l w) k u (by simp;omega) totE
 refine Calls.mono h ?_
 rintro e w' ⟨rfl,n,os,rfl⟩
 rw[show(l.toArray.toList.mergeSort fun x y => !(ltOf ordE) y x)=Zcv l from rfl]
 have D:=Zft l
 generalize Zcv l=s at D ⊢
 have M:=ZbP Zab.len s
 have p:(sortWorldK Zab.enc 3 w b 0 n s.toArray os).heap=(w.heap.modify b (Go.Sort.onCells (Go.Sort.putCells id 0 (s.flatMap Zab.enc).toArray)))++os:=by
  unfold sortWorldK Go.Sort.putRowK
  rw[ZpY]
  rfl
 have g:∀ i,i<w.heap.size->i≠b->(sortWorldK Zab.enc 3 w b 0 n s.toArray os).heap[i]?=w.heap[i]?:=fun i q P=>by
  rw[p,Array.getElem?_append_left (by simpa using q),Array.getElem?_modify,if_neg (fun e=>P e.symm)]
 have E:(sortWorldK Zab.enc 3 w b 0 n s.toArray os).heap[b]?=some (.cells (Go.Sort.putCells id 0 (s.flatMap Zab.enc).toArray a) 91 (0,0)):=by
  rw[p,Array.getElem?_append_left (by simpa using u),Array.getElem?_modify,if_pos rfl,J]
  rfl
 have d:w.heap.size<=(sortWorldK Zab.enc 3 w b 0 n s.toArray os).heap.size:=by rw[p];simp
 have t:Bel wr.heap.size wr (sortWorldK Zab.enc 3 w b 0 n s.toArray os) :=
  H.trans ⟨⟨rfl,rfl,rfl,d,fun i q=>g i (by have:=H.size;omega) (by omega)⟩⟩
 refine⟨_,[Zk3 (some ⟨b,0,none⟩) c s],rfl,t,?_,rfl,rfl⟩
 refine I.upd (A:=Zk3 (some ⟨b,0,none⟩) c l) .here H.size d (fun i q R=>g i q (fun e=>R (by rw[e];simp[It.S,Zk3,Value.ownBlock]))) ?_ (fun i q => .inl q)
 refine⟨by rw[M],.inr ⟨b,c,_,rfl,Nat.zero_le _,E,by omega,L,?_,?_⟩⟩
 ·simp only[Go.Sort.putCells,Array.size_mapIdx]
  exact Q
 ·apply List.ext_getElem?
  intro j
  rw[List.getElem?_take]
  by_cases r:j<s.length*3
  ·rw[if_pos r]
   have N:j<a.size:=by omega
   have o:j<(s.flatMap Zab.enc).length:=by omega
   simp only[Array.getElem?_toList,Go.Sort.putCells,Array.getElem?_mapIdx,Array.getElem?_eq_getElem N,Option.map_some,Nat.zero_le,true_and,Nat.zero_add,List.size_toArray,if_pos o,Nat.sub_zero]
   rw[List.getElem?_eq_getElem o,getElem!_pos _ j (by simpa using o)]
   simp
  ·rw[if_neg r,List.getElem?_eq_none (by omega)]
attribute [local irreducible] W RL Does Zaq Zai retQ Calls Pu Stp RD Qy Ay Zaj
structure IG where
 k:Nat
 A:Option Addr
 c:Nat
 m:Nat
 xs:List Value
 acc:List Zab
def ZDa (l:List Zab)(v:Value)(O:List It):Prop:=∃ A c,v = .tuple #[.slice A l.length c,.int .i64 0]/\O=[Zk3 A c l]
theorem ZAX {f t:Int}{M:Nat}(c : -2000000000<=f/\f<=2000000000)(d:t+1=f+M)(a:0<M)(b:M<=1000):decide ((1000:Int)<IntKind.u64.wrap (IntKind.u64.wrap t - IntKind.u64.wrap f))=false:=by
 refine decide_eq_false ?_
 simp[IntKind.wrap,IntKind.signed,IntKind.bits]
 omega
theorem Zwr (A:Option Addr)(c:Nat)(l:List DRule)(f t:Int)(M:Nat)(w:World)(R:Glob w)(Q:RdSl w A c DRule.enc 11 l)(hn:l.length<=1000000)(U:∀ r∈l,-4611686018427387904<=r.save/\r.save<=4611686018427387904)
  (Y : -2000000000<=f/\f<=2000000000) (ht:t+1=f+M) (C:0<M) (S:M<=1000) :
  Does Tryz.prog 230 [.slice A l.length c,.int .i64 f,.int .i64 t] w (ZDa (Zcv (allC l (Zae l) f M))):=by
 have K:decide (t<f)=false:=decide_eq_false (by omega)
 have L:=ZAX Y ht C S
 have D:=fun(i:Nat) r (d:l[i]?=some r) y w' (I:Bel w.heap.size w w')=>Zf4 A c l i y r w' (R.up I) (Q.up I) d hn U
 generalize Zae l=least at *
 obtain⟨z,u⟩:∃ z,allC l least f M=z:=⟨_,rfl⟩
 rw[u]
 refine Zaa Tryz.func230 rfl rfl rfl rfl ?_
 repeat (first|(apply RL_pu;rfl;(first|(apply Pu_sub';rfl;rfl;(constructor <;> omega))|(apply Zo8;rfl;rfl)|(apply Zat;rfl;rfl;exact L)|(apply Zau;rfl;rfl;exact K)|(apply Pu_convI;rfl)))|refine walk1 ?_)
 refine ZdO 91 3 ?_
 obtain⟨N,hN⟩:∃ N:Int,N=(M:Int):=⟨_,rfl⟩
 rw[show t - f+1=N by omega]
 refine Zah [(0,.slice A l.length c),(1,.int .i64 f),(27,.int .i64 N)] [] (fun g:IG=>[(8,.slice g.A g.m g.c),(28,.int .i64 g.k)]) (fun g=>[.row (.slice g.A g.m g.c) 91 3 g.m g.xs])
  (fun g=>g.k<=M/\g.m=g.acc.length/\g.xs=g.acc.flatMap Zab.enc/\g.m<=g.k*1000000/\g.acc=allC l least f g.k) (fun g=>M - g.k) ⟨0,none,0,0,[],[]⟩ SFA SOA ⟨Nat.zero_le _,rfl,rfl,Nat.le_refl _,rfl⟩ ?_
 rintro⟨k,A1,c1,m,xs,acc⟩ ⟨hk,hm,hx,hmk,d⟩
 dsimp only at hk hm hx hmk d ⊢
 repeat (refine walk ?_)
 refine Zaf rfl (fun j=>?_) (fun j=>?_)
 ·have Z:k<M:=by have:=of_decide_eq_true j;omega
  obtain⟨q,s⟩:∃ q,allC l least f (k+1)=q:=⟨_,rfl⟩
  have x:acc++Zb0 least (f+k) l 0=q:=by rw[<- s,allC,d]
  repeat (refine walk ?_)
  refine Zah [(0,.slice A l.length c),(1,.int .i64 f),(27,.int .i64 N),(28,.int .i64 k),(9,.int .i64 k),(31,.slice A l.length c),(32,.int .i64 l.length)] [] (fun g:IG=>[(8,.slice g.A g.m g.c),(33,.int .i64 g.k)]) (fun g=>[.row (.slice g.A g.m g.c) 91 3 g.m g.xs])
   (fun g=>g.k<=l.length/\g.m=g.acc.length/\g.xs=g.acc.flatMap Zab.enc/\g.m<=k*1000000+g.k/\g.acc++Zb0 least (f+k) (l.drop g.k) g.k=q) (fun g=>l.length - g.k) ⟨0,A1,c1,m,xs,acc⟩ SFA SOA ⟨Nat.zero_le _,hm,hx,Nat.le_trans hmk (Nat.le_add_right _ _),by dsimp only;rw[List.drop_zero];exact x⟩ ?_
  clear hm hx hmk d x j
  rintro⟨i,A1,c1,m,xs,acc⟩ ⟨hil,hm,hx,hmk,d⟩
  dsimp only at hil hm hx hmk d ⊢
  repeat (refine walk ?_)
  refine Zaf rfl (fun j=>?_) (fun j=>?_)
  ·simp only[decide_eq_true_eq,Int.ofNat_lt]at j
   have B:=D i _ (List.getElem?_eq_getElem j) (f+(k:Int))
   rw[Zag j,Zb0]at d
   generalize onR least l[i] i (f+(k:Int))=o at *
   cases o with
   | none =>
    simp only[evV,Zab.enc,dEv0,Option.isSome,Option.toList,List.nil_append]at B d
    repeat (first|(refine js ?_;(first|(refine Zac B ?_)|(refine bx ?_;intro J)))|refine walk ?_)
    exact⟨⟨i+1,A1,c1,m,xs,acc⟩,OA,⟨OA,hm,hx,OA,d⟩,SFA,SOA⟩
   | some e =>
    obtain⟨H,F,E⟩:=e
    simp only[evV,Zab.enc,Option.isSome,Option.toList]at B d
    repeat (first|(refine js ?_;(first|(refine Zac B ?_)|(apply ZaD;rfl;rfl;(intro A' c';(focus repeat' constructor));(intro w' _ T;exact ZbC (T.of (by repeat' constructor)));rfl;rfl;(simp only[maxLen];omega);omega;intro A' c' V W X)|(refine bx ?_;intro J)))|refine walk ?_)
    exact⟨⟨i+1,A',c',m+1,xs++[.int .i64 H,.int .i64 F,.int .i64 E],acc++[⟨H,F,E⟩]⟩,OA,⟨OA,by simp[hm],by rw[hx];simp[Zab.enc],OA,by rw[<- d];simp⟩,SFA,SOA⟩
  ·simp only[decide_eq_false_iff_not,Int.ofNat_lt]at j
   rw[List.drop_eq_nil_of_le (by omega),Zb0,List.append_nil]at d
   repeat (refine walk ?_)
   exact⟨⟨k+1,A1,c1,m,xs,acc⟩,OA,⟨OA,hm,hx,OA,d.trans s.symm⟩,SFA,SOA⟩
 ·obtain rfl:k=M:=by have:=of_decide_eq_false j;omega
  rw[u]at d
  subst d hm hx
  repeat (first|(refine js ?_;((apply ZgR;rfl;exact Zsq A1 c1 acc w (by omega);exact .refl _;rintro v O' ⟨rfl,rfl⟩)))|refine walk ?_)
  exact ret_2 _ _ [Zk3 A1 c1 (Zcv acc)] (.tmp rfl) (.tmp rfl) SOA ⟨A1,c1,by rw[Zft],rfl⟩
theorem ZzW (A:Option Addr)(c:Nat)(l:List DRule)(w:World)(b:Glob w)(a:RdSl w A c DRule.enc 11 l)(e:l.length<=1000000)(d:∀ r∈l,-4611686018427387904<=r.save/\r.save<=4611686018427387904) :
  Does Tryz.prog 230 [.slice A l.length c,.int .i64 1850,.int .i64 2550] w (ZDa (Zcv (allC l (Zae l) 1850 701))) :=
 Zwr A c l 1850 2550 701 w b a e d (by omega) (by omega) (by omega) (by omega)
def apV:Option Zab->Value
 | none => .tuple #[.agg (Zab.enc dEv0).toArray,.int .i64 0]
 | some e => .tuple #[.agg (Zab.enc e).toArray,.int .i64 13]
theorem ZoI {l:List Zab}{k:Nat}(h:k+1<l.length):ZcF (l.drop k)=if (l[k+1]'h).nominal - (l[k]'(by omega)).nominal<259200 then some (l[k+1]'h) else ZcF (l.drop (k+1)):=by
 rw[Zag (show k<l.length by omega),Zag h,ZcF]
theorem ZrM {l:List Zab}{k:Nat}(h:l.length<=k+1):ZcF (l.drop k)=none:=by
 by_cases a:k<l.length
 ·rw[Zag a,List.drop_eq_nil_of_le h];rfl
 ·rw[List.drop_eq_nil_of_le (by omega)];rfl
theorem ZiA {l:List Zab}{k:Nat}(h:k<l.length)(j:Nat)(v:Value)(a:(Zab.enc l[k])[j]?=some v):(l.flatMap Zab.enc)[k*3+j]?=some v:=ZaC Zab.len l k _ j v (List.getElem?_eq_getElem h) a
def Zlx (e:Zab):Prop := -200000000000000000<=e.nominal/\e.nominal<=200000000000000000
theorem Zkw (least y:Int)(c:least<=0):∀ (l:List DRule) (i:Nat),(Zb0 least y l i).length<=l.length/\∀ e∈Zb0 least y l i,Zlx e
 | [],_=>⟨Nat.le_refl _,fun _ h=>by cases h⟩
 | r::l,i=>by
  obtain⟨f,b⟩:=Zkw least y c l (i+1)
  have d:=ZpP least c r i y
  simp only[Zb0,List.length_append,List.length_cons,List.mem_append]
  generalize onR least r i y=o at *
  cases o with
  | none=>exact⟨by simp only[Option.toList,List.length_nil];omega,fun e a=>by rcases a with h|h;cases h;exact b e h⟩
  | some x=>exact⟨by simp only[Option.toList,List.length_cons,List.length_nil];omega,fun e a=>by
    rcases a with h|h
    ·simp only[Option.toList,List.mem_singleton]at h;subst h;exact d _ rfl
    ·exact b e h⟩
theorem ZoY (l:List DRule)(least a:Int)(b:least<=0):∀ k,(allC l least a k).length<=k*l.length/\∀ e∈allC l least a k,Zlx e
 | 0=>⟨Nat.zero_le _,fun _ h=>by cases h⟩
 | k+1=>by
  obtain⟨g,c⟩:=ZoY l least a b k
  obtain⟨i,d⟩:=Zkw least (a+k) b l 0
  simp only[allC,List.length_append,List.mem_append,Nat.succ_mul]
  exact⟨by omega,fun e f=>f.elim (c e) (d e)⟩
theorem ZwJ (l:List DRule)(least a:Int)(b:least<=0)(c:l.length<=1000000):(allC l least a 701).length<=701000000:=by
 have:=(ZoY l least a b 701).1
 omega
theorem ZC3 {G:Prop}(h:G:=by(apply Zdt;rfl;rfl;exact hmx)):G:=h
theorem Zvs {G:Prop}(h:G:=by(first|(apply ZaF;rfl;rfl;omega;omega;(intro w' _ hO;exact(Za9 (hO.of (A := .row (.slice A1 s.length c1) 91 3 s.length (s.flatMap Zab.enc)) (by repeat' constructor)) hg1).1))|(apply ZeT;rfl;(focus repeat' constructor);exact hg1)|(apply ZeT;rfl;(focus repeat' constructor);exact hg2)|(apply Zcb;rfl;(focus repeat' constructor);exact hgn;rfl)|(apply Zau;rfl;rfl;exact hb))):G:=h
theorem Zx2 {G:Prop}(h:G:=by first|(apply Qy_y;rfl;exact Zvs)|exact QyA):G:=h
theorem ZrP (A:Option Addr)(c:Nat)(l:List DRule)(w:World)(U:Glob w)(T:RdSl w A c DRule.enc 11 l)(R:l.length<=1000000)(N:∀ r∈l,-4611686018427387904<=r.save/\r.save<=4611686018427387904) :
  Does Tryz.prog 177 [.slice A l.length c] w (fun v O=>v=apV (Zeh l)/\O=[]):=by
 have I:=fun w' (E:Bel w.heap.size w w')=>ZzW A c l w' (U.up E) (T.up E) R N
 have t:=(ZdG l N).2
 have hal:=ZwJ l (Zae l) 1850 t R
 have hok:=(ZoY l (Zae l) 1850 t 701).2
 rw[<- Znk]
 rw[show((allC l (Zae l) 1850 701).mergeSort fun x y => !ltE y x)=Zcv (allC l (Zae l) 1850 701) from rfl]
 have J:=Zft (allC l (Zae l) 1850 701)
 have u:∀ e∈Zcv (allC l (Zae l) 1850 701),Zlx e:=fun e W=>hok e (List.mem_mergeSort.1 W)
 generalize Zcv (allC l (Zae l) 1850 701)=s at *
 have S:s.length<=701000000:=by omega
 clear hal hok J
 obtain⟨m,g⟩:∃ m,ZcF s=m:=⟨_,rfl⟩
 rw[g]
 have hmx:(if (s.length:Int) - 1<0 then 0 else (s.length:Int) - 1)=((s.length - 1:Nat):Int):=by split <;> omega
 refine Zaa Tryz.func177 rfl rfl rfl rfl ?_
 repeat (first|(apply RL_pu;rfl;exact ZC3)|refine walk1 ?_|(refine jg ?_;(try intro F);(first|(apply Zad (h:=fun w' E _=>I w' E);rfl;rintro v O' ⟨A1,c1,rfl,rfl⟩)|(refine bx ?_;intro M));first|refine⟨_,EndsA,QFEvI1,?_⟩|refine fin ?_))
 have Z:s.length - 1<=701000000:=by omega
 obtain⟨z,q⟩:∃ z,M=z:=⟨_,rfl⟩
 rw[q]
 clear q M
 refine Zah [(2,.pointer (some ⟨z,0,none⟩)),(4,.slice A1 s.length c1),(19,.int .i64 (s.length - 1:Nat))] [.row (.slice A1 s.length c1) 91 3 s.length (s.flatMap Zab.enc),.blk z [.int .i64 0,.int .i64 0,.int .i64 0] 91] (fun k:Nat=>[(20,.int .i64 k)]) (fun _=>[]) (fun k=>k<=s.length - 1/\ZcF (s.drop k)=m) (fun k=>s.length - 1 - k) 0 SFA SOA ⟨Nat.zero_le _,g⟩ ?_
 rintro k ⟨hk,f⟩
 repeat (refine walk ?_)
 refine Zaf rfl (fun H=>?_) (fun H=>?_)
 ·simp only[decide_eq_true_eq,Int.ofNat_lt]at H
  have d:k+1<s.length:=by omega
  rw[ZoI d]at f
  have hg1:=ZiA d 2 _ rfl
  have hg2:=ZiA (show k<s.length by omega) 2 _ rfl
  have hgn:∀ j v,(Zab.enc s[k+1])[j]?=some v->(s.flatMap Zab.enc)[(k+1)*3+j]?=some v:=fun j v X=>ZiA d j v X
  have o1:=u _ (List.getElem_mem d)
  have o2:=u _ (List.getElem_mem (show k<s.length by omega))
  generalize s[k+1]=e1 at *
  generalize s[k]=e2 at *
  obtain⟨y1,r1,K⟩:=e1
  obtain⟨y2,r2,L⟩:=e2
  simp only[Zab.enc,Zlx]at hg1 hg2 hgn o1 o2 f
  have Q:(s.length:Int)<=701000000:=by omega
  have Y:(k:Int)+1<s.length:=by omega
  by_cases D:K - L<259200
  ·rw[if_pos D]at f
   subst f
   have hb:decide (K - L<259200)=true:=decide_eq_true D
   repeat (first|(apply RL_pu;rfl;exact Zvs)|(apply RD_Q;rfl;rfl;decide +kernel;rfl;rfl;exact Zx2)|refine walk1 ?_)
   exact rtC
  ·rw[if_neg D]at f
   have hb:decide (K - L<259200)=false:=decide_eq_false D
   repeat (first|(apply RL_pu;rfl;exact Zvs)|(apply RD_Q;rfl;rfl;decide +kernel;rfl;rfl;exact Zx2)|refine walk1 ?_)
   exact⟨k+1,OA,⟨OA,f⟩,SFA,SOA⟩
 ·simp only[decide_eq_false_iff_not,Int.ofNat_lt]at H
  rw[ZrM (show s.length<=k+1 by omega)]at f
  subst f
  repeat (refine walk ?_)
  exact rtC
def Zom (z:DZone):Bool:=decide (60<z.eras.length)
theorem ZmT {α:Type}(p:α->Bool):∀ (l:List α) (k:Nat),Zb2 p l k=match l.findIdx? p with|some i=>((k+i:Nat):Int)|none => -1
 | [],_=>rfl
 | x::l,k=>by
  rw[Zb2,List.findIdx?_cons]
  by_cases h:p x=true
  ·rw[if_pos h,if_pos h];rfl
  ·rw[if_neg h,if_neg h,ZmT p l (k+1)]
   cases l.findIdx? p with
   | none=>rfl
   | some i=>simp only[Option.map_some];congr 1;omega
theorem ZnW (n:ByteArray)(A:Option Addr)(m c:Nat)(w:World):Does Tryz.prog 173 [.agg #[.string n,.slice A m c]] w (fun v O=>v = .bool (decide (60<m))/\O=[]):=by
 have a:decide ((60:Int)<(m:Int))=decide (60<m):=by rw[decide_eq_decide];omega
 refine Zaa Tryz.func173 rfl rfl rfl rfl ?_
 repeat (first|(apply RL_pu;rfl;(apply Zat;rfl;rfl;exact a))|(refine js ?_;(refine bx ?_;intro b))|refine walk1 ?_)
 exact rtA
theorem Zou (Ar Az Al As:Option Addr)(r i q cs:Nat)(a:DSource)(w:World)(t:Zak w Ar Az Al As r i q cs a)(y:a.zones.length<=1000000) :
  Does Tryz.prog 172 [.slice Az a.zones.length i,.func (.func 173) #[] #[]] w (fun v O=>v = .int .i64 (Zb2 Zom a.zones 0)/\O=[]):=by
 obtain⟨e,c⟩:∃ e,Zb2 Zom a.zones 0=e:=⟨_,rfl⟩
 rw[c]
 refine Zaa Tryz.func172 rfl rfl rfl rfl ?_
 repeat (refine walk ?_)
 refine Zah [(0,.slice Az a.zones.length i),(1,.func (.func 173) #[] #[]),(7,.int .i64 a.zones.length)] [] (fun k:Nat=>[(8,.int .i64 k)]) (fun _=>[]) (fun k=>k<=a.zones.length/\Zb2 Zom (a.zones.drop k) k=e) (fun k=>a.zones.length - k) 0 SFA .nil ⟨Nat.zero_le _,c⟩ ?_
 rintro k ⟨x,d⟩
 repeat (refine walk ?_)
 refine Zaf rfl (fun g=>?_) (fun g=>?_)
 ·simp only[decide_eq_true_eq,Int.ofNat_lt]at g
  obtain⟨hna,s,⟨Ae,m,_,rfl⟩,hca⟩:=t.z k _ (List.getElem?_eq_getElem g)
  rw[Zag g,Zb2]at d
  generalize a.zones[k]=z at *
  have j:∀ w',Does Tryz.prog 173 ([]++[.agg #[.string z.name,.slice Ae z.eras.length m]]++[]) w' (fun v O=>v = .bool (decide (60<z.eras.length))/\O=[]):=fun w'=>ZnW z.name Ae z.eras.length m w'
  rw[show decide (60<z.eras.length)=Zom z from rfl]at j
  generalize Zom z=mb at *
  cases mb with
  | true =>
   rw[if_pos rfl]at d
   subst d
   repeat (first|(apply RL_pu;rfl;exact PuI)|(refine js ?_;(refine Zge (fun w' u _=>j w') ?_))|refine walk1 ?_)
   exact rtA
  | false =>
   rw[if_neg (by decide)]at d
   repeat (first|(apply RL_pu;rfl;exact PuI)|(refine js ?_;(refine Zge (fun w' u _=>j w') ?_))|refine walk1 ?_)
   exact⟨k+1,OA,⟨OA,d⟩,SFA,.nil⟩
 ·simp only[decide_eq_false_iff_not,Int.ofNat_lt]at g
  rw[List.drop_eq_nil_of_le (by omega),Zb2]at d
  subst d
  repeat (refine walk ?_)
  exact rtA
theorem ZvH {G:Prop}(h:G:=by(apply Zat;rfl;rfl;exact b1)):G:=h
theorem Zpn {G:Prop}(h:G:=by(first|exact ZvH|(apply Zat;rfl;rfl;exact b2))):G:=h
theorem ZvG {G:Prop}(h:G:=by(first|exact Zpn|(apply Zat;rfl;rfl;exact b3))):G:=h
theorem ZvF {G:Prop}(h:G:=by(first|exact ZvG|(apply Zat;rfl;rfl;exact b4))):G:=h
theorem ZqW (Ar Az Al As:Option Addr)(e f d cs:Nat)(a:DSource)(w:World)(q:Zak w Ar Az Al As e f d cs a)(r:a.zones.length<=1000000) :
  Does Tryz.prog 113 [srcV Ar Az Al As e f d cs a] w (fun v O=>v=ptV (Zda a)/\O=[]):=by
 have b:=fun w' (s:Bel w.heap.size w w')=>Zou Ar Az Al As e f d cs a w' (q.up s) r
 rw[ZmT]at b
 unfold Zda
 rw[show(fun z:DZone=>decide (60<z.eras.length))=Zom from rfl]
 generalize a.zones.findIdx? Zom=fi at *
 refine Zaa Tryz.func113 rfl rfl rfl rfl ?_
 by_cases g:2000<a.rules.length
 ·have b1:decide ((2000:Int)<a.rules.length)=true:=decide_eq_true (by omega)
  rw[if_pos g]
  repeat (first|(apply RL_pu;rfl;exact ZvH)|(refine js ?_;(refine bx ?_;intro c))|refine walk1 ?_)
  exact rtC
 have b1:decide ((2000:Int)<a.rules.length)=false:=decide_eq_false (by omega)
 rw[if_neg g]
 by_cases j:500<a.zones.length
 ·have b2:decide ((500:Int)<a.zones.length)=true:=decide_eq_true (by omega)
  rw[if_pos j]
  repeat (first|(apply RL_pu;rfl;exact Zpn)|(refine js ?_;(refine bx ?_;intro c))|refine walk1 ?_)
  exact rtC
 have b2:decide ((500:Int)<a.zones.length)=false:=decide_eq_false (by omega)
 rw[if_neg j]
 cases fi with
 | some i =>
  dsimp only at b ⊢
  rw[Nat.zero_add]at b
  have b3:decide ((0:Int)<=(i:Int))=true:=decide_eq_true (by omega)
  repeat (first|(apply RL_pu;rfl;(first|exact Zpn|(apply ZbF;rfl;rfl;exact b3)))|(refine js ?_;(first|(refine Zac b ?_)|(refine bx ?_;intro c)))|refine walk1 ?_)
  exact rtC
 | none =>
  dsimp only at b ⊢
  by_cases m:1000<a.links.length
  ·have b3:decide ((1000:Int)<a.links.length)=true:=decide_eq_true (by omega)
   rw[if_pos m]
   repeat (first|(apply RL_pu;rfl;exact ZvG)|(refine js ?_;(first|(refine Zac b ?_)|(refine bx ?_;intro c)))|refine walk1 ?_)
   exact rtC
  have b3:decide ((1000:Int)<a.links.length)=false:=decide_eq_false (by omega)
  rw[if_neg m]
  by_cases p:2000<a.shifts.length
  ·have b4:decide ((2000:Int)<a.shifts.length)=true:=decide_eq_true (by omega)
   rw[if_pos p]
   repeat (first|(apply RL_pu;rfl;exact ZvF)|(refine js ?_;(first|(refine Zac b ?_)|(refine bx ?_;intro c)))|refine walk1 ?_)
   exact rtC
  have b4:decide ((2000:Int)<a.shifts.length)=false:=decide_eq_false (by omega)
  rw[if_neg p]
  repeat (first|(apply RL_pu;rfl;exact ZvF)|(refine js ?_;(first|(refine Zac b ?_)|(refine bx ?_;intro c)))|refine walk1 ?_)
  exact rtC
theorem Zon (Ar Az Al As:Option Addr)(c d b cs:Nat)(a:DSource)(w:World)(g:Zak w Ar Az Al As c d b cs a)(i:ZcA a) :
  Does Tryz.prog 116 [srcV Ar Az Al As c d b cs a] w (fun v O=>v=ptV (Zde a)/\O=[]):=by
 have h:=fun w' (j:Bel w.heap.size w w')=>Zro Ar Az Al As c d b cs a w' (g.up j) i
 refine Zaa Tryz.func116 rfl rfl rfl rfl ?_
 generalize Zde a=o at *
 cases o with
 | none =>
  simp only[ptV,plV,Zap.enc]at h ⊢
  repeat (first|(refine js ?_;(first|(refine Zac h ?_)|(refine bx ?_;intro f)))|refine walk ?_)
  exact rtC
 | some pe =>
  obtain⟨⟨m,p,q⟩,e⟩:=pe
  simp only[ptV,plV,Zap.enc]at h ⊢
  repeat (first|(refine js ?_;(first|(refine Zac h ?_)|(refine bx ?_;intro f)))|refine walk ?_)
  exact rtC
structure RlG where
 k:Nat
 i:Nat
theorem ZhO (x:ByteArray)(r:DRule)(l:List DRule)(i k:Nat):Zb5 x (r::l) i k=if r.name=x then (match i with|0=>⟨1,k,0⟩|i+1=>Zb5 x l i (k+1)) else Zb5 x l i (k+1):=by cases i <;> rfl
theorem Zjq (x:ByteArray)(i k:Nat):Zb5 x [] i k=⟨0,0,0⟩:=by cases i <;> rfl
theorem Zpm {G:Prop}(h:G:=by(first|exact PuI|(apply ZcL;rfl;rfl;exact hb))):G:=h
theorem Zsv (Ar Az Al As:Option Addr)(t z y cs:Nat)(a:DSource)(x:ByteArray)(i:Nat)(w:World)(A:Zak w Ar Az Al As t z y cs a)(B:a.rules.length<=1000000)(c:i<=1000000) :
  Does Tryz.prog 178 [srcV Ar Az Al As t z y cs a,.string x,.int .i64 i] w (fun v O=>v=plV (Zb5 x a.rules i 0)/\O=[]):=by
 obtain⟨f,d⟩:∃ f,Zb5 x a.rules i 0=f:=⟨_,rfl⟩
 rw[d]
 refine Zaa Tryz.func178 rfl rfl rfl rfl ?_
 repeat (first|(refine js ?_;(refine bx ?_;intro e))|refine walk ?_)
 obtain⟨q,j⟩:∃ q,e=q:=⟨_,rfl⟩
 rw[j]
 clear j e
 refine Zah [(1,.string x),(6,.pointer (some ⟨q,0,none⟩)),(11,.slice Ar a.rules.length t),(12,.int .i64 a.rules.length)] [.blk q [.int .i64 0,.int .i64 0,.int .i64 0] 138] (fun g:RlG=>[(2,.int .i64 g.i),(13,.int .i64 g.k)]) (fun _=>[]) (fun g=>g.k<=a.rules.length/\g.i<=1000000/\Zb5 x (a.rules.drop g.k) g.i g.k=f) (fun g=>a.rules.length - g.k) ⟨0,i⟩ SFA SOA ⟨Nat.zero_le _,c,d⟩ ?_
 clear c d
 rintro⟨k,i⟩ ⟨hk,hi6,c⟩
 dsimp only at hk hi6 c ⊢
 repeat (first|(refine js ?_;(refine bx ?_;intro e))|refine walk ?_)
 refine Zaf rfl (fun m=>?_) (fun m=>?_)
 ·simp only[decide_eq_true_eq,Int.ofNat_lt]at m
  obtain⟨hna,hca⟩:=A.r.rd k _ (List.getElem?_eq_getElem m)
  rw[Zag m,ZhO]at c
  generalize a.rules[k]=r at *
  by_cases s:r.name=x
  ·have hb:(!decide (r.name=x))=false:=by rw[decide_eq_true s];rfl
   rw[if_pos s]at c
   cases i with
   | zero =>
    dsimp only at c
    subst c
    repeat (first|(apply RL_pu;rfl;exact Zpm)|(refine js ?_;(refine bx ?_;intro e))|refine walk1 ?_)
    exact ret_1 _ [] (.cellB rfl (by repeat' constructor) rfl rfl) .nil ⟨rfl,rfl⟩
   | succ i =>
    dsimp only at c
    have u:decide (((i+1:Nat):Int)=0)=false:=decide_eq_false (by omega)
    repeat (first|(apply RL_pu;rfl;(first|exact Zpm|(apply Zao;rfl;rfl;exact u)))|(refine js ?_;(refine bx ?_;intro e))|refine walk1 ?_)
    rw[show((i+1:Nat):Int) - 1=(i:Int) by omega]
    exact⟨⟨k+1,i⟩,OA,⟨OA,OA,c⟩,SFA,SOA⟩
  ·have hb:(!decide (r.name=x))=true:=by rw[decide_eq_false s];rfl
   rw[if_neg s]at c
   repeat (first|(apply RL_pu;rfl;exact Zpm)|(refine js ?_;(refine bx ?_;intro e))|refine walk1 ?_)
   exact⟨⟨k+1,i⟩,OA,⟨OA,OA,c⟩,SFA,SOA⟩
 ·simp only[decide_eq_false_iff_not,Int.ofNat_lt]at m
  rw[List.drop_eq_nil_of_le (by omega),Zjq]at c
  subst c
  repeat (first|(refine js ?_;(refine bx ?_;intro e))|refine walk ?_)
  exact ret_1 _ [] (.cellB rfl (by repeat' constructor) rfl rfl) .nil ⟨rfl,rfl⟩
theorem Ze3:∀ (l:List DRule) (a:List ByteArray) (x:ByteArray),x∈ZbI l a->x∈a\/∃ r∈l,r.name=x
 | [],a,x,h => .inl h
 | r::l,a,x,h=>by
  rw[ZbI]at h
  split at h
  ·rcases Ze3 l a x h with h|⟨q,hq,e⟩
   ·exact .inl h
   ·exact .inr ⟨q,List.mem_cons_of_mem _ hq,e⟩
  ·rcases Ze3 l _ x h with h|⟨q,hq,e⟩
   ·rcases List.mem_append.1 h with h|h
    ·exact .inl h
    ·simp only[List.mem_singleton]at h;exact .inr ⟨r,List.mem_cons_self,h.symm⟩
   ·exact .inr ⟨q,List.mem_cons_of_mem _ hq,e⟩
theorem Ze4:∀ (l:List DRule) (a:List ByteArray),(ZbI l a).length<=a.length+l.length
 | [],a=>Nat.le_refl _
 | r::l,a=>by
  rw[ZbI]
  split
  ·have:=Ze4 l a;simp only[List.length_cons];omega
  ·have:=Ze4 l (a++[r.name]);simp only[List.length_append,List.length_cons,List.length_nil]at this ⊢;omega
theorem Zka:∀ (l:List Zab) (e:Zab),ZcF l=some e->e∈l
 | [],_,h=>by cases h
 | [_],_,h=>by cases h
 | a::b::l,e,h=>by
  rw[ZcF]at h
  split at h
  ·simp only[Option.some.injEq]at h;subst h;exact List.mem_cons_of_mem _ List.mem_cons_self
  ·exact List.mem_cons_of_mem _ (Zka (b::l) e h)
theorem Zji (least y:Int):∀ (l:List DRule) (i:Nat),∀ e∈Zb0 least y l i,∃ j:Nat,e.rule=j/\j<i+l.length
 | [],_=>fun e h=>by cases h
 | r::l,i=>fun e a=>by
  rw[Zb0]at a
  rcases List.mem_append.1 a with h|h
  ·have:onR least r i y=some e:=by
    cases ho:onR least r i y with
    | none=>rw[ho]at h;cases h
    | some x=>rw[ho]at h;simp only[Option.toList,List.mem_singleton]at h;rw[h]
   unfold onR at this
   split at this
   ·cases this
   ·split at this
    ·cases this
    ·simp only[Option.some.injEq]at this
     subst this
     exact⟨i,rfl,by simp⟩
  ·obtain⟨j,b,c⟩:=Zji least y l (i+1) e h
   exact⟨j,b,by simp only[List.length_cons];omega⟩
theorem Znn (l:List DRule)(least a:Int):∀ k,∀ e∈allC l least a k,∃ j:Nat,e.rule=j/\j<l.length
 | 0=>fun e h=>by cases h
 | k+1=>fun e b=>by
  rw[allC]at b
  rcases List.mem_append.1 b with h|h
  ·exact Znn l least a k e h
  ·have:=Zji _ _ _ _ e h
   simpa using this
theorem ZiV (l:List DRule)(e:Zab)(h:Zeh l=some e):∃ j:Nat,e.rule=j/\j<l.length:=by
 rw[<- Znk]at h
 exact Znn _ _ _ _ e (List.mem_mergeSort.1 (Zka _ _ h))
def ZgS (s:DSource):Prop:=∀ r∈s.rules,(-4611686018427387904<=r.save/\r.save<=4611686018427387904)/\r.from_<=4611686018427387904
theorem Zoj {l:List DRule}{x:ByteArray}{r:DRule}(h:r∈ofB l x):r∈l:=(List.mem_filter.1 h).1
def SavI (s:DSource):Prop:=∀ r∈s.rules,-9223372036854775808<=r.save/\r.save<=9223372036854775807
theorem Zd2 (least:Int):∀ (l:List DRule) (k:Nat),ZaS least l k=none->∀ r∈l,Zbq r least=0
 | [],_,_,_,h=>by cases h
 | x::l,k,h,r,hr=>by
  rw[ZaS]at h
  by_cases a:Zbq x least=0
  ·rw[if_pos a]at h
   rcases List.mem_cons.1 hr with rfl|hr
   ·exact a
   ·exact Zd2 least l (k+1) h r hr
  ·rw[if_neg a]at h
   cases h
theorem Zsw {r:DRule}{least:Int}(h:Zbq r least=0):(-4611686018427387904<=r.save/\r.save<=4611686018427387904)/\r.from_<=4611686018427387904:=by
 unfold Zbq at h
 split at h
 ·cases h
 ·rename_i b
  split at h
  ·cases h
  ·split at h
   ·cases h
   ·split at h
    ·cases h
    ·split at h
     ·cases h
     ·rename_i d
      have c:(decide (-10800<=r.save)&&decide (r.save<=10800))=true:=by
       cases hh:(decide (-10800<=r.save)&&decide (r.save<=10800)) with
       | true=>rfl
       | false=>exact absurd hh d
      have a:ZbE r.from_=true:=by
       cases hh:ZbE r.from_ with
       | true=>rfl
       | false=>rw[hh]at b;exact absurd rfl b
      unfold ZbE at a
      simp only[Bool.and_eq_true,decide_eq_true_eq]at a c
      omega
theorem ZlV {l:List DRule}(h:(Zcw l).2=0):∀ r∈l,(-4611686018427387904<=r.save/\r.save<=4611686018427387904)/\r.from_<=4611686018427387904:=by
 intro r b
 unfold Zcw at h
 cases hf:ZaS (Zae l) l 0 with
 | none=>exact Zsw (Zd2 _ l 0 hf r b)
 | some x =>
  rw[hf]at h
  exfalso
  have:∀ (l:List DRule) (k:Nat) (x:Nat × Int) (m:Int),ZaS m l k=some x->x.2≠0:=fun l=>by
   induction l with
   | nil=>intro k x m h;cases h
   | cons y l ih =>
    intro k x m h
    rw[ZaS]at h
    split at h
    ·exact ih _ _ _ h
    ·rename_i a
     simp only[Option.some.injEq]at h
     rw[<- h]
     exact a
  exact this _ _ _ _ hf h
theorem Zdd:∀ (l:List DRule) (a:List ByteArray),(∀ x∈a,x∈ZbI l a)/\∀ r∈l,r.name∈ZbI l a
 | [],a=>⟨fun _ h=>h,fun _ h=>by cases h⟩
 | y::l,a=>by
  rw[ZbI]
  by_cases d:memB y.name a=true
  ·rw[if_pos d]
   have c:=Zdd l a
   refine⟨c.1,fun r b=>?_⟩
   rcases List.mem_cons.1 b with rfl|b
   ·refine c.1 _ ?_
    have:∀ (l:List ByteArray) (x:ByteArray),memB x l=true->x∈l:=fun l=>by
     induction l with
     | nil=>intro x h;cases h
     | cons z l ih2 =>
      intro x h
      rw[memB,Bool.or_eq_true,decide_eq_true_eq]at h
      rcases h with rfl|h
      ·exact List.mem_cons_self
      ·exact List.mem_cons_of_mem _ (ih2 x h)
    exact this _ _ d
   ·exact c.2 r b
  ·rw[if_neg d]
   have c:=Zdd l (a++[y.name])
   refine⟨fun x e=>c.1 x (List.mem_append_left _ e),fun r b=>?_⟩
   rcases List.mem_cons.1 b with rfl|b
   ·exact c.1 _ (List.mem_append_right _ (List.mem_singleton.2 rfl))
   ·exact c.2 r b
theorem ZhN (rs:List DRule):∀ l:List ByteArray,ZcC rs l=none->∀ x∈l,(Zcw (ofB rs x)).2=0
 | [],_,_,h=>by cases h
 | y::l,h,x,hx=>by
  rw[ZcC]at h
  cases hf:Zb4 rs y with
  | some z=>rw[hf]at h;cases h
  | none =>
   rw[hf]at h
   rcases List.mem_cons.1 hx with rfl|hx
   ·unfold Zb4 at hf
    split at hf
    ·cases hf
    ·split at hf
     ·cases hf
     ·rename_i a
      exact Decidable.of_not_not a
   ·exact ZhN rs l h x hx
theorem ZlQ {s:DSource}(h:Zfc s=none):ZgS s:=fun r a =>
 ZlV (ZhN s.rules _ h r.name ((Zdd s.rules []).2 r a)) r (List.mem_filter.2 ⟨a,decide_eq_true rfl⟩)
theorem Zh6 (l:List DRule)(x:ByteArray):(ofB l x).length<=l.length:=List.length_filter_le _ _
theorem Ziu (least:Int):∀ (l:List DRule) (i:Nat) (j:Nat) (e:Int),ZaS least l i=some (j,e)->j<i+l.length
 | [],_,_,_,h=>by cases h
 | r::l,i,j,e,h=>by
  rw[ZaS]at h
  split at h
  ·have:=Ziu least l (i+1) j e h;simp only[List.length_cons];omega
  ·simp only[Option.some.injEq,Prod.mk.injEq]at h;simp only[List.length_cons];omega
end Go.Proofs.YtpipekfmecikmaaGreatDoor
