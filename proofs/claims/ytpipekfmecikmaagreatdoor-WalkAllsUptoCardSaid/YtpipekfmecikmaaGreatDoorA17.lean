/- Parts of the proof. -/
import Derived.Test.YtpipekfmecikmaaGreatDoorA14
import Derived.Shelf.SlSortCmp.NoneTotal
import Derived.Sort.Grow
import Derived.Deep.Draws
import Derived.Deep.RegionHeld3
import Derived.Test.YtpipekfmecikmaaGreatDoorA16
set_option maxHeartbeats 0
set_option linter.all false
namespace Go.Proofs.YtpipekfmecikmaaGreatDoor
open Go Go.RowKit Go.Wk Go.Lib Tryz
attribute [local irreducible] W RL Does Zaq Zai retQ Calls Pu Stp RD Qy Ay Zaj RW
structure LtG where
 k:Nat
 A:Option Addr
 c:Nat
 m:Nat
 ys:List Value
theorem ZvQ {G:Prop}(h:G:=by(first|(apply ZaG;rfl;rfl;omega;omega;(intro w' _ hO;exact(Zbc (hO.of (A := .row (.slice A1 L.length c1) 9 1 L.length (L.flatMap ZaR)) cS_) hg1).1))|(apply ZcU;rfl;(focus repeat' constructor);exact hg1))):G:=h
theorem ZvP {G:Prop}(h:G:=by(apply ZcT;rfl;rfl;exact hb)):G:=h
theorem ZvO {G:Prop}(h:G:=by(apply Zal;rfl;rfl;exact hb)):G:=h
theorem ZoN (e:DEra)(A:Option Addr)(c:Nat)(l:List DRule)(w:World)(hL:LibW w)(hA:RdSl w A c DRule.enc 11 l)(ho:I64 e.off)(hs:I64 e.save)(R:∀ r∈l,I64 r.save)(hn:l.length<=1000000)(y:e.format.size<=1000000000)(Q:∀ r∈l,r.letter.size<=1000000000) :
  Does prog 240 [.agg e.enc.toArray,.slice A l.length c] w (fun v O=>v = .int .i64 (Zem e l)/\O=[]):=by
 have j:=fun w' (I:Bel w.heap.size w w')=>Zir e.format w' (hL.up I) y
 have hx:=fun w' (I:Bel w.heap.size w w')=>ZoP e A c l w' (hA.up I) ho hs R hn
 have u:=fun(x:ByteArray) (hx:x.size<=1000000000) w' (I:Bel w.heap.size w w')=>ZgU e.format x 0 0 w' (hL.up I) y hx ⟨by decide,by decide⟩ ⟨by decide,by decide⟩
 unfold Zem
 dsimp only
 obtain⟨L,d⟩:∃ L:List ByteArray,(if e.kind=2 then l.map (·.letter) else [ByteArray.empty])=L:=⟨_,rfl⟩
 have E:(if e.kind=2 then l.map (fun r=>r.letter.data.toList) else [[]])=L.map (·.data.toList):=by
  rw[<- d]
  split
  ·rw[List.map_map];rfl
  ·rfl
 have M:∀ x∈L,x.size<=1000000000:=by
  rw[<- d]
  intro x hx
  split at hx
  ·obtain⟨r,R,rfl⟩:=List.mem_map.1 hx;exact Q r R
  ·simp only[List.mem_singleton]at hx;subst hx;decide
 have aa:L.length<=1000001:=by
  rw[<- d]
  split
  ·rw[List.length_map];omega
  ·decide
 rw[E]
 obtain⟨off,kind,save,set,format,til⟩:=e
 dsimp only at ho hs j hx u y d ⊢
 generalize ZaP format.data.toList=K at *
 obtain⟨Z,U⟩:∃ Z,Zd9 ⟨off,kind,save,set,format,til⟩ l=Z:=⟨_,rfl⟩
 rw[U]at hx ⊢
 obtain⟨Y,xe⟩:=Z
 simp only[xpV,DEra.enc]at hx u ⊢
 refine Zaa func240 rfl rfl rfl rfl ?_
 repeat (first|(refine js ?_;(refine bx ?_;intro J))|refine ZlY ?_)
 rename_i C
 obtain⟨D,F⟩:∃ D,J=D:=⟨_,rfl⟩
 rw[F]
 clear F J
 refine ZA5 (fun fr' O'=>∃ A1 c1,Sub [(2,.pointer (some ⟨C,0,none⟩)),(1,.slice A l.length c),(5,.slice A1 L.length c1)] fr'/\SubO [.row (.slice A1 L.length c1) 9 1 L.length (L.flatMap ZaR),.blk C [.int .i64 off,.int .i64 kind,.int .i64 save,.string set,.string format,.bool til.is,.int .i64 til.year,.int .i64 til.month,.int .i64 til.day.kind,.int .i64 til.day.week,.int .i64 til.day.day,.int .i64 til.at_.sec,.int .i64 til.at_.base] 75] O') ?_ ?_
 ·refine Zaf rfl (fun h=>?_) (fun h=>?_)
  ·rw[if_pos (of_decide_eq_true h)]at d
   subst d
   repeat (refine walk ?_)
   refine Zdy 9 1 ?_
   refine Zah [(2,.pointer (some ⟨C,0,none⟩)),(1,.slice A l.length c),(19,.slice A l.length c),(20,.int .i64 l.length)] [.blk C [.int .i64 off,.int .i64 kind,.int .i64 save,.string set,.string format,.bool til.is,.int .i64 til.year,.int .i64 til.month,.int .i64 til.day.kind,.int .i64 til.day.week,.int .i64 til.day.day,.int .i64 til.at_.sec,.int .i64 til.at_.base] 75] (fun g:LtG=>[(5,.slice g.A g.m g.c),(21,.int .i64 g.k)]) (fun g=>[.row (.slice g.A g.m g.c) 9 1 g.m g.ys])
    (fun g=>g.k<=l.length/\g.m=g.k/\g.ys=((l.take g.k).map (·.letter)).flatMap ZaR) (fun g=>l.length - g.k) ⟨0,none,0,0,[]⟩ SFA SOA ⟨Nat.zero_le _,rfl,rfl⟩ ?_
   rintro⟨k,A1,c1,m,ys⟩ ⟨H,hm,hy⟩
   dsimp only at H hm hy ⊢
   repeat (refine walk ?_)
   refine Zaf rfl (fun i=>?_) (fun i=>?_)
   ·simp only[decide_eq_true_eq,Int.ofNat_lt]at i
    obtain⟨hna,hca⟩:=hA.rd k _ (List.getElem?_eq_getElem i)
    have S:=List.take_append_getElem i
    generalize l[k]=r at *
    repeat (first|(apply RL_pu;rfl;exact PuI)|(refine js ?_;(first|(apply ZaC;rfl;rfl;(intro A' c';(focus repeat' constructor));(intro w' _ hO;exact Zbr (hO.of cS_));rfl;rfl;(simp only[maxLen];omega);omega;intro A' c' ab ac ad)|(refine bx ?_;intro J)))|refine walk1 ?_)
    exact⟨⟨k+1,A',c',m+1,ys++[.string r.letter]⟩,OA,⟨OA,OA,by dsimp only;rw[hy,<- S];simp[ZaR]⟩,SFA,SOA⟩
   ·obtain rfl:k=l.length:=by simp only[decide_eq_false_iff_not,Int.ofNat_lt]at i;omega
    rw[List.take_length]at hy
    subst hm hy
    repeat (refine walk ?_)
    rw[List.length_map]
    exact⟨A1,c1,SFA,SOA⟩
  ·rw[if_neg (of_decide_eq_false h)]at d
   subst d
   refine Zpe (b:=D) (m:=1) 1 cS_ rfl (by decide) ?_
   repeat (refine walk ?_)
   exact⟨some ⟨D,0,none⟩,1,SFA,SOA⟩
 rintro fr' O' ⟨A1,c1,hf,hO⟩
 refine ZcG hf hO ?_
 clear hf hO fr' O' d E D
 by_cases W:K=0
 ·subst W
  rw[if_pos rfl]
  repeat (first|(refine js ?_;((refine Zab j ?_)))|refine walk ?_)
  exact rtA
 have e0:decide (K=0)=false:=dF_ W
 rw[if_neg W]
 by_cases X:K=3
 ·subst X
  rw[if_pos rfl]
  obtain⟨B,t⟩:∃ B,ZbG format.data.toList (L.map (·.data.toList))=B:=⟨_,rfl⟩
  rw[t]
  repeat (first|(refine js ?_;((refine Zab j ?_)))|refine walk ?_)
  refine Zah [(2,.pointer (some ⟨C,0,none⟩)),(39,.slice A1 L.length c1),(40,.int .i64 L.length)] [.row (.slice A1 L.length c1) 9 1 L.length (L.flatMap ZaR),.blk C [.int .i64 off,.int .i64 kind,.int .i64 save,.string set,.string format,.bool til.is,.int .i64 til.year,.int .i64 til.month,.int .i64 til.day.kind,.int .i64 til.day.week,.int .i64 til.day.day,.int .i64 til.at_.sec,.int .i64 til.at_.base] 75] (fun k:Nat=>[(41,.int .i64 k)]) (fun _=>[]) (fun k=>k<=L.length/\ZbG format.data.toList ((L.drop k).map (·.data.toList))=B) (fun k=>L.length - k) 0 SFA SOA ⟨Nat.zero_le _,t⟩ ?_
  rintro k ⟨H,s⟩
  repeat (refine walk ?_)
  refine Zaf rfl (fun i=>?_) (fun i=>?_)
  ·simp only[decide_eq_true_eq,Int.ofNat_lt]at i
   have hg1:(L.flatMap ZaR)[k*1]?=some (.string L[k]):=by
    have:=ZaD (enc:=ZaR) (fun _=>rfl) L k _ 0 (.string L[k]) (List.getElem?_eq_getElem i) rfl
    simpa using this
   rw[Zag i,List.map_cons,ZbG]at s
   have T:=M _ (List.getElem_mem i)
   generalize L[k]=x at *
   have N:=u x T
   generalize Zdx format.data.toList 0 0 x.data.toList=av at *
   obtain⟨at_,ae⟩:=av
   dsimp only at N s
   by_cases V:ae=0
   ·subst V
    rw[if_pos rfl]at s
    repeat (first|(apply RL_pu;rfl;exact ZvQ)|(refine js ?_;((refine Zab N ?_)))|refine walk1 ?_)
    exact⟨k+1,OA,⟨OA,s⟩,SFA,SOA⟩
   ·rw[if_neg V]at s
    subst s
    have hb:(!decide (ae=0))=true:=by rw[dF_ V];rfl
    repeat (first|(apply RL_pu;rfl;(first|exact ZvQ|(apply Zal;rfl;rfl;exact hb)))|(refine js ?_;((refine Zab N ?_)))|refine walk1 ?_)
    exact rtA
  ·simp only[decide_eq_false_iff_not,Int.ofNat_lt]at i
   rw[List.drop_eq_nil_of_le (by omega)]at s
   subst s
   repeat (refine walk ?_)
   exact rtA
 have e3:decide (K=3)=false:=dF_ X
 rw[if_neg X]
 by_cases f:K=4\/K=5
 ·rw[if_pos f]
  by_cases z:xe=0
  ·subst z
   rcases f with rfl|rfl
   ·rw[if_neg (by rintro(h|⟨h,_⟩);exact h rfl;omega)]
    repeat (first|(refine js ?_;(first|(refine Zab j ?_)|(refine Zab hx ?_)))|refine walk ?_)
    exact rtA
   ·by_cases q:Y=format.data.toList
    ·have hb:(!decide ((⟨Y.toArray⟩:ByteArray)=format))=false:=by rw[dT_ (by rw[q])];rfl
     rw[if_neg (by rintro(h|⟨_,h⟩);exact h rfl;exact h q)]
     repeat (first|refine und ?_|(apply RL_pu;rfl;exact ZvP)|(refine js ?_;(first|(refine Zab j ?_)|(refine Zab hx ?_)))|refine walk1 ?_)
     exact rtA
    ·have hb:(!decide ((⟨Y.toArray⟩:ByteArray)=format))=true:=by rw[dF_ (fun h=>q (by rw[<- h]))];rfl
     rw[if_pos (.inr ⟨rfl,q⟩)]
     repeat (first|refine und ?_|(apply RL_pu;rfl;exact ZvP)|(refine js ?_;(first|(refine Zab j ?_)|(refine Zab hx ?_)))|refine walk1 ?_)
     exact rtA
  ·have hb:(!decide (xe=0))=true:=by rw[dF_ z];rfl
   rw[if_pos (.inl z)]
   rcases f with rfl|rfl
   ·repeat (first|refine und ?_|(apply RL_pu;rfl;exact ZvO)|(refine js ?_;(first|(refine Zab j ?_)|(refine Zab hx ?_)))|refine walk1 ?_)
    exact rtA
   ·repeat (first|refine und ?_|(apply RL_pu;rfl;exact ZvO)|(refine js ?_;(first|(refine Zab j ?_)|(refine Zab hx ?_)))|refine walk1 ?_)
    exact rtA
 rw[if_neg f]
 have e4:decide (K=4)=false:=dF_ (fun h=>f (.inl h))
 have e5:decide (K=5)=false:=dF_ (fun h=>f (.inr h))
 repeat (first|(apply RL_pu;rfl;(first|(apply Zap;rfl;rfl;exact e0)|(apply Zap;rfl;rfl;exact e3)|(apply Zap;rfl;rfl;exact e4)|(apply Zap;rfl;rfl;exact e5)))|(refine js ?_;((refine Zab j ?_)))|refine walk1 ?_)
 exact rtA
end Go.Proofs.YtpipekfmecikmaaGreatDoor
namespace Go.Proofs.YtpipekfmecikmaaGreatDoor
open Go.Shelf Go.RowKit Go.Lib Go.Sort Tryz
def Zn6:Ren where
 f:=fun|6=>274|15=>290|14=>289|28=>311|29=>312|20=>303|21=>304|22=>305|23=>306|24=>307|25=>308|26=>309|27=>310|46=>326|47=>327|48=>328|49=>329|50=>330|57=>338|n=>n
 t:=fun|22=>252|24=>91|25=>148|3=>3|39=>308|0=>0|53=>324|55=>286|4=>4|46=>318|45=>317|50=>129|5=>5|9=>9|66=>336|70=>340|76=>354|77=>355|n=>n
 g:=fun n=>n
theorem ZsH:SlLaysF0.n6 prog Zn6 where
 mixed:=by kernel_rfl
 f6:=⟨Tryz.f274.name,by decide,func274.trans (congrArg some (by kernel_rfl))⟩
 f14:=⟨Tryz.f289.name,by decide,func289.trans (congrArg some (by kernel_rfl))⟩
 f20:=⟨Tryz.f303.name,by decide,func303.trans (congrArg some (by kernel_rfl))⟩
 f21:=⟨Tryz.f304.name,by decide,func304.trans (congrArg some (by kernel_rfl))⟩
 f22:=⟨Tryz.f305.name,by decide,func305.trans (congrArg some (by kernel_rfl))⟩
 f23:=⟨Tryz.f306.name,by decide,func306.trans (congrArg some (by kernel_rfl))⟩
 f24:=⟨Tryz.f307.name,by decide,func307.trans (congrArg some (by kernel_rfl))⟩
 f25:=⟨Tryz.f308.name,by decide,func308.trans (congrArg some (by kernel_rfl))⟩
 f26:=⟨Tryz.f309.name,by decide,func309.trans (congrArg some (by kernel_rfl))⟩
 f27:=⟨Tryz.f310.name,by decide,func310.trans (congrArg some (by kernel_rfl))⟩
 f46:=⟨Tryz.f326.name,by decide,func326.trans (congrArg some (by kernel_rfl))⟩
 f49:=⟨Tryz.f329.name,by decide,func329.trans (congrArg some (by kernel_rfl))⟩
 f50:=⟨Tryz.f330.name,by decide,func330.trans (congrArg some (by kernel_rfl))⟩
 f57:=⟨Tryz.f338.name,by decide,func338.trans (congrArg some (by kernel_rfl))⟩
 f15:=func290.trans (congrArg some (by kernel_rfl))
 f28:=func311.trans (congrArg some (by kernel_rfl))
 f29:=func312.trans (congrArg some (by kernel_rfl))
 f47:=func327.trans (congrArg some (by kernel_rfl))
 f48:=func328.trans (congrArg some (by kernel_rfl))
 t0:=underlying0
 a0:=isAgg0
 z0:=sizeOf0
 v0:=zeroValue0
 t3:=underlying3
 a3:=isAgg3
 z3:=sizeOf3
 v3:=zeroValue3
 t4:=underlying4
 a4:=isAgg4
 z4:=sizeOf4
 v4:=zeroValue4
 t5:=underlying5
 a5:=isAgg5
 z5:=sizeOf5
 v5:=zeroValue5
 t9:=underlying9
 a9:=isAgg9
 z9:=sizeOf9
 v9:=zeroValue9
 t22:=underlying252
 a22:=isAgg252
 z22:=sizeOf252
 v22:=zeroValue252
 t25:=underlying148
 a25:=isAgg148
 z25:=sizeOf148
 v25:=zeroValue148
 t39:=underlying308
 a39:=isAgg308
 z39:=sizeOf308
 v39:=zeroValue308
 t45:=underlying317
 a45:=isAgg317
 z45:=sizeOf317
 v45:=zeroValue317
 t46:=underlying318
 a46:=isAgg318
 z46:=sizeOf318
 v46:=zeroValue318
 t50:=underlying129
 a50:=isAgg129
 z50:=sizeOf129
 v50:=zeroValue129
 t53:=underlying324
 a53:=isAgg324
 z53:=sizeOf324
 v53:=zeroValue324
 t55:=underlying286
 a55:=isAgg286
 z55:=sizeOf286
 v55:=zeroValue286
 t66:=underlying336
 a66:=isAgg336
 z66:=sizeOf336
 v66:=zeroValue336
 t70:=underlying340
 a70:=isAgg340
 z70:=sizeOf340
 v70:=zeroValue340
 t76:=underlying354
 a76:=isAgg354
 z76:=sizeOf354
 v76:=zeroValue354
 t77:=underlying355
 a77:=isAgg355
 z77:=sizeOf355
 v77:=zeroValue355
open Go Go.Shelf Go.Lib Go.RowKit Go.Sort Go.Wk
set_option maxHeartbeats 0
theorem ZAN (a b:Int)(w:World):Calls prog 123 #[.int .i64 a,.int .i64 b] w fun e w'=>e = .returned (.int .i64 (cmpI a b))/\w'=w:=by
 go_enter func123,Tryz.ntmps123
 go_wp2
 all_goals go_ret
 all_goals (unfold cmpI;repeat' split)
 all_goals first|exact⟨rfl,rfl⟩|(exfalso;omega)
theorem ZB1 (a b:Int)(w:World):Calls prog 124 #[.int .i64 a,.int .i64 b] w fun e w'=>e = .returned (.int .i64 (cmpI a b))/\w'=w:=by
 go_enter func124,Tryz.ntmps124
 go_wp2
 all_goals go_ret
 all_goals (unfold cmpI;repeat' split)
 all_goals first|exact⟨rfl,rfl⟩|(exfalso;omega)
theorem or_l (x y z:Int)(b:Nat)(w:World)(f:w.cell? ⟨b,0,none⟩=some (.int .i64 x))(g:w.cell? ⟨b,1,none⟩=some (.int .i64 y))(h:w.cell? ⟨b,2,none⟩=some (.int .i64 z)) :
  Calls prog 122 #[.slice (some ⟨b,0,none⟩) 3 3] w fun e w'=>e = .returned (.int .i64 (ZbW [x,y,z]))/\w'=w:=by
 go_enter func122,Tryz.ntmps122
 go_wp2
 refine wp_loop_rounds 4 ?_
 rw[rounds_succ]
 by_cases a:x=0
 ·subst a
  go_wp2
  rw[rounds_succ]
  by_cases c:y=0
  ·subst c
   go_wp2
   rw[rounds_succ]
   by_cases d:z=0
   ·subst d
    go_wp2
    rw[rounds_succ]
    go_wp2
    go_ret
    exact⟨rfl,rfl⟩
   ·go_wp2
    go_ret
    exact⟨by simp[ZbW,d],rfl⟩
  ·go_wp2
   go_ret
   exact⟨by simp[ZbW,c],rfl⟩
 ·go_wp2
  go_ret
  exact⟨by simp[ZbW,a],rfl⟩
attribute [local irreducible] cmpI ZbW
theorem ZrA (a b:Zac)(w:World):Calls prog 84 #[.agg (Zac.enc a).toArray,.agg (Zac.enc b).toArray] w fun e w'=>e = .returned (.int .i64 (ordE a b))/\∃ q c,w'=grow (w.drewN q) c:=by
 rw[Zth]
 obtain⟨y,r,n⟩:=a
 obtain⟨g,f,d⟩:=b
 dsimp only
 have h:=ZAN
 have i:=ZB1
 have j:=or_l
 simp only[Zac.enc]
 go_enter func84,Tryz.ntmps84
 go_wp2_with fail
 go_region_held3 (fun W=>W.cell? ⟨w.heap.size,0,none⟩=some (.int .i64 y)/\W.cell? ⟨w.heap.size,1,none⟩=some (.int .i64 r)/\W.cell? ⟨w.heap.size,2,none⟩=some (.int .i64 n)/\W.cell? ⟨w.heap.size+1,0,none⟩=some (.int .i64 g)/\W.cell? ⟨w.heap.size+1,1,none⟩=some (.int .i64 f)/\W.cell? ⟨w.heap.size+1,2,none⟩=some (.int .i64 d)) (go_keep)
  (first
   | (go_at_call 123;refine(h _ _ _).mono ?_;rintro e w' ⟨rfl,rfl⟩)
   | (go_at_call 124;refine(i _ _ _).mono ?_;rintro e w' ⟨rfl,rfl⟩)
   | (go_at_call 122;refine(j (cmpI n d) (cmpI r f) (cmpI y g) _ _ (by go_simp) (by go_simp) (by go_simp)).mono ?_;rintro e w' ⟨rfl,rfl⟩))
 all_goals (try go_wp2)
 all_goals go_ret
 all_goals exact⟨rfl,1,_,by rw[alloc_eq_grow,alloc_eq_grow,alloc_eq_grow,grow_grow,grow_grow];rfl⟩
end Go.Proofs.YtpipekfmecikmaaGreatDoor
namespace Go.Proofs.YtpipekfmecikmaaGreatDoor
open Go Go.RowKit Go.Wk Tryz
theorem Zac.len (x:Zac):(Zac.enc x).length=3:=rfl
def Zli (A:Option Addr)(c:Nat)(l:List Zac):It := .row (.slice A l.length c) 91 3 l.length (l.flatMap Zac.enc)
def ZcD (l:List Zac):List Zac:=l.mergeSort fun x y => !ltE y x
theorem ZfE (l:List Zac):(ZcD l).length=l.length:=List.length_mergeSort _
instance:Inhabited Zac:=⟨dEv0⟩
theorem Zqb (l:List Zac):Go.Sort.flatK Zac.enc 3 l.toArray=(l.flatMap Zac.enc).toArray:=by
 have e:=ZbU Zac.len l
 refine Go.Sort.ext_get! (by rw[Go.Sort.size_flatK];simp[e]) fun t f=>?_
 have c:t<l.toArray.size*3:=by rwa[Go.Sort.size_flatK]at f
 rw[Go.Sort.get_flatK _ _ _ _ c]
 have b:t / 3<l.length:=by simp at c;omega
 have d:t % 3<3:=Nat.mod_lt _ (by decide)
 have a:=ZaD Zac.len l (t / 3) l[t / 3] (t % 3) ((Zac.enc l[t / 3])[t % 3]'d) (List.getElem?_eq_getElem b) (List.getElem?_eq_getElem d)
 rw[show t / 3*3+t % 3=t by omega]at a
 rw[getElem!_pos l.toArray (t / 3) (by simpa using b)]
 rw[show(l.flatMap Zac.enc).toArray[t]! = (l.flatMap Zac.enc)[t]?.getD default from by simp only[getElem!_def,List.getElem?_toArray];cases (l.flatMap Zac.enc)[t]? <;> rfl]
 rw[a]
 rw[getElem!_pos (Zac.enc _) (t % 3) (by rw[Zac.len];exact d)]
 simp
 rfl
theorem Zwm (b:Nat)(l:List Zac)(w:World):CmpLays prog 84 #[] Zac.enc 3 ordE b 0 l.toArray.size w :=
 fun m os a _ x y=>by
  have:=ZrA x y (sortWorldK Zac.enc 3 w b 0 m a os)
  simpa using this
theorem ZsI (A:Option Addr)(c:Nat)(l:List Zac)(wr:World)(Y:l.length<=1000000000) :
  Zaj prog 274 [.slice A l.length c,.func (.func 84) #[] #[]] wr [Zli A c l] (fun v O=>v = .tuple #[]/\O=[Zli A c (ZcD l)]):=by
 intro w H I
 have F:=I.sat _ (List.mem_singleton.2 rfl)
 obtain⟨X,⟨K,_⟩|⟨b,cap,a,G,T,J,W,L,Q,f⟩⟩:=id F
 ·injection K with h1 h2 h3
  obtain rfl:=List.eq_nil_of_length_eq_zero h2
  subst h1 h3
  refine Calls.mono (AnyF.slices_SortFunc_none ZsH none 0 (.func (.func 84) #[] #[]) w) ?_
  rintro e w' ⟨rfl,rfl⟩
  exact⟨_,_,rfl,H,I,rfl,by rw[show ZcD []=[] from by simp[ZcD]]⟩
 injection G with hA h2 h3
 subst hA h3
 have u:b<w.heap.size:=(Array.getElem?_eq_some_iff.1 J).1
 have V:=I.inb _ (List.mem_singleton.2 rfl) b (by simp[It.S,Zli,Value.ownBlock])
 have m:=ZbU Zac.len l
 have U:l.length*3<=a.size:=by
  have:=congrArg List.length f
  rw[List.length_take,m,Array.length_toList]at this
  omega
 have z:∀ j,j<l.length*3->a[j]?=(l.flatMap Zac.enc)[j]?:=fun j r=>by
  rw[<- f,List.getElem?_take,if_pos (by omega)]
  simp
 have k:Go.Sort.HoldsK Zac.enc 3 w b 0 l.toArray:=fun j r=>by
  rw[Zqb]at r ⊢
  have B:j<l.length*3:=by simpa[m] using r
  have C:j<(l.flatMap Zac.enc).length:=by rw[m];exact B
  refine⟨?_,by simp[World.frozen?,J]⟩
  rw[Nat.zero_add,show w.cell? ⟨b,j,none⟩=a[j]? from by simp[World.cell?,J],z j B,List.getElem?_eq_getElem C,getElem!_pos _ j (by simpa using C)]
  simp
 have h:=AnyQ.slices_SortFunc_total ZsH 3 isAgg91 sizeOf91 Zac.enc Zac.len (fun x v K=>by simp[Zac.enc]at K;rcases K with rfl|rfl|rfl <;> rfl) ordE swoE 84 #[] b 0 c l.toArray w
  (enters_of func84 (by kernel_rfl) rfl) (Zwm b l w) k u (by simp;omega) totE
 refine Calls.mono h ?_
 rintro e w' ⟨rfl,n,os,rfl⟩
 rw[show(l.toArray.toList.mergeSort fun x y => !(ltOf ordE) y x)=ZcD l from rfl]
 have D:=ZfE l
 generalize ZcD l=s at D ⊢
 have M:=ZbU Zac.len s
 have p:(sortWorldK Zac.enc 3 w b 0 n s.toArray os).heap=(w.heap.modify b (Go.Sort.onCells (Go.Sort.putCells id 0 (s.flatMap Zac.enc).toArray)))++os:=by
  unfold sortWorldK Go.Sort.putRowK
  rw[Zqb]
  rfl
 have g:∀ i,i<w.heap.size->i≠b->(sortWorldK Zac.enc 3 w b 0 n s.toArray os).heap[i]?=w.heap[i]?:=fun i q P=>by
  rw[p,Array.getElem?_append_left (by simpa using q),Array.getElem?_modify,if_neg (fun e=>P e.symm)]
 have E:(sortWorldK Zac.enc 3 w b 0 n s.toArray os).heap[b]?=some (.cells (Go.Sort.putCells id 0 (s.flatMap Zac.enc).toArray a) 91 (0,0)):=by
  rw[p,Array.getElem?_append_left (by simpa using u),Array.getElem?_modify,if_pos rfl,J]
  rfl
 have d:w.heap.size<=(sortWorldK Zac.enc 3 w b 0 n s.toArray os).heap.size:=by rw[p];simp
 have t:Bel wr.heap.size wr (sortWorldK Zac.enc 3 w b 0 n s.toArray os) :=
  H.trans ⟨⟨rfl,rfl,rfl,d,fun i q=>g i (by have:=H.size;omega) (by omega)⟩⟩
 refine⟨_,[Zli (some ⟨b,0,none⟩) c s],rfl,t,?_,rfl,rfl⟩
 refine I.upd (A:=Zli (some ⟨b,0,none⟩) c l) .here H.size d (fun i q R=>g i q (fun e=>R (by rw[e];simp[It.S,Zli,Value.ownBlock]))) ?_ (fun i q => .inl q)
 refine⟨by rw[M],.inr ⟨b,c,_,rfl,Nat.zero_le _,E,by omega,L,?_,?_⟩⟩
 ·simp only[Go.Sort.putCells,Array.size_mapIdx]
  exact Q
 ·apply List.ext_getElem?
  intro j
  rw[List.getElem?_take]
  by_cases r:j<s.length*3
  ·rw[if_pos r]
   have N:j<a.size:=by omega
   have o:j<(s.flatMap Zac.enc).length:=by omega
   simp only[Array.getElem?_toList,Go.Sort.putCells,Array.getElem?_mapIdx,Array.getElem?_eq_getElem N,Option.map_some,Nat.zero_le,true_and,Nat.zero_add,List.size_toArray,if_pos o,Nat.sub_zero]
   rw[List.getElem?_eq_getElem o,getElem!_pos _ j (by simpa using o)]
   simp
  ·rw[if_neg r,List.getElem?_eq_none (by omega)]
attribute [local irreducible] W RL Does Zaq Zai retQ Calls Pu Stp RD Qy Ay Zaj
structure IG where
 k:Nat
 A:Option Addr
 c:Nat
 m:Nat
 xs:List Value
 acc:List Zac
def ZDP (l:List Zac)(v:Value)(O:List It):Prop:=∃ A c,v = .tuple #[.slice A l.length c,.int .i64 0]/\O=[Zli A c l]
theorem ZBA {f t:Int}{M:Nat}(c : -2000000000<=f/\f<=2000000000)(d:t+1=f+M)(a:0<M)(b:M<=1000):decide ((1000:Int)<IntKind.u64.wrap (IntKind.u64.wrap t - IntKind.u64.wrap f))=false:=by
 refine dF_ ?_
 simp[IntKind.wrap,IntKind.signed,IntKind.bits]
 omega
theorem ZwW (A:Option Addr)(c:Nat)(l:List DRule)(f t:Int)(M:Nat)(w:World)(R:Glob w)(Q:RdSl w A c DRule.enc 11 l)(hn:l.length<=1000000)(U:∀ r∈l,-4611686018427387904<=r.save/\r.save<=4611686018427387904)
  (Y : -2000000000<=f/\f<=2000000000) (ht:t+1=f+M) (C:0<M) (S:M<=1000) :
  Does prog 230 [.slice A l.length c,.int .i64 f,.int .i64 t] w (ZDP (ZcD (allC l (Zae l) f M))):=by
 have K:decide (t<f)=false:=dF_ (by omega)
 have L:=ZBA Y ht C S
 have D:=fun(i:Nat) r (d:l[i]?=some r) y w' (I:Bel w.heap.size w w')=>Zgi A c l i y r w' (R.up I) (Q.up I) d hn U
 generalize Zae l=least at *
 obtain⟨z,u⟩:∃ z,allC l least f M=z:=⟨_,rfl⟩
 rw[u]
 refine Zaa func230 rfl rfl rfl rfl ?_
 repeat (first|(apply RL_pu;rfl;(first|(apply Pu_sub';rfl;rfl;(constructor <;> omega))|(apply Zpl;rfl;rfl)|(apply Zav;rfl;rfl;exact L)|(apply Zau;rfl;rfl;exact K)|(apply Pu_convI;rfl)))|refine walk1 ?_)
 refine Zdy 91 3 ?_
 obtain⟨N,hN⟩:∃ N:Int,N=(M:Int):=⟨_,rfl⟩
 rw[show t - f+1=N by omega]
 refine Zah [(0,.slice A l.length c),(1,.int .i64 f),(27,.int .i64 N)] [] (fun g:IG=>[(8,.slice g.A g.m g.c),(28,.int .i64 g.k)]) (fun g=>[.row (.slice g.A g.m g.c) 91 3 g.m g.xs])
  (fun g=>g.k<=M/\g.m=g.acc.length/\g.xs=g.acc.flatMap Zac.enc/\g.m<=g.k*1000000/\g.acc=allC l least f g.k) (fun g=>M - g.k) ⟨0,none,0,0,[],[]⟩ SFA SOA ⟨Nat.zero_le _,rfl,rfl,Nat.le_refl _,rfl⟩ ?_
 rintro⟨k,A1,c1,m,xs,acc⟩ ⟨hk,hm,hx,hmk,d⟩
 dsimp only at hk hm hx hmk d ⊢
 repeat (refine walk ?_)
 refine Zaf rfl (fun j=>?_) (fun j=>?_)
 ·have Z:k<M:=by have:=of_decide_eq_true j;omega
  obtain⟨q,s⟩:∃ q,allC l least f (k+1)=q:=⟨_,rfl⟩
  have x:acc++Zb6 least (f+k) l 0=q:=by rw[<- s,allC,d]
  repeat (refine walk ?_)
  refine Zah [(0,.slice A l.length c),(1,.int .i64 f),(27,.int .i64 N),(28,.int .i64 k),(9,.int .i64 k),(31,.slice A l.length c),(32,.int .i64 l.length)] [] (fun g:IG=>[(8,.slice g.A g.m g.c),(33,.int .i64 g.k)]) (fun g=>[.row (.slice g.A g.m g.c) 91 3 g.m g.xs])
   (fun g=>g.k<=l.length/\g.m=g.acc.length/\g.xs=g.acc.flatMap Zac.enc/\g.m<=k*1000000+g.k/\g.acc++Zb6 least (f+k) (l.drop g.k) g.k=q) (fun g=>l.length - g.k) ⟨0,A1,c1,m,xs,acc⟩ SFA SOA ⟨Nat.zero_le _,hm,hx,Nat.le_trans hmk (Nat.le_add_right _ _),by dsimp only;rw[List.drop_zero];exact x⟩ ?_
  clear hm hx hmk d x j
  rintro⟨i,A1,c1,m,xs,acc⟩ ⟨hil,hm,hx,hmk,d⟩
  dsimp only at hil hm hx hmk d ⊢
  repeat (refine walk ?_)
  refine Zaf rfl (fun j=>?_) (fun j=>?_)
  ·simp only[decide_eq_true_eq,Int.ofNat_lt]at j
   have B:=D i _ (List.getElem?_eq_getElem j) (f+(k:Int))
   rw[Zag j,Zb6]at d
   generalize onR least l[i] i (f+(k:Int))=o at *
   cases o with
   | none =>
    simp only[evV,Zac.enc,dEv0,Option.isSome,Option.toList,List.nil_append]at B d
    repeat (first|(refine js ?_;(first|(refine Zab B ?_)|(refine bx ?_;intro J)))|refine walk ?_)
    exact⟨⟨i+1,A1,c1,m,xs,acc⟩,OA,⟨OA,hm,hx,OA,d⟩,SFA,SOA⟩
   | some e =>
    obtain⟨H,F,E⟩:=e
    simp only[evV,Zac.enc,Option.isSome,Option.toList]at B d
    repeat (first|(refine js ?_;(first|(refine Zab B ?_)|(apply ZaC;rfl;rfl;(intro A' c';(focus repeat' constructor));(intro w' _ T;exact Zbr (T.of cS_));rfl;rfl;(simp only[maxLen];omega);omega;intro A' c' V W X)|(refine bx ?_;intro J)))|refine walk ?_)
    exact⟨⟨i+1,A',c',m+1,xs++[.int .i64 H,.int .i64 F,.int .i64 E],acc++[⟨H,F,E⟩]⟩,OA,⟨OA,by simp[hm],by rw[hx];simp[Zac.enc],OA,by rw[<- d];simp⟩,SFA,SOA⟩
  ·simp only[decide_eq_false_iff_not,Int.ofNat_lt]at j
   rw[List.drop_eq_nil_of_le (by omega),Zb6,List.append_nil]at d
   repeat (refine walk ?_)
   exact⟨⟨k+1,A1,c1,m,xs,acc⟩,OA,⟨OA,hm,hx,OA,d.trans s.symm⟩,SFA,SOA⟩
 ·obtain rfl:k=M:=by have:=of_decide_eq_false j;omega
  rw[u]at d
  subst d hm hx
  repeat (first|(refine js ?_;((apply Zg3;rfl;exact ZsI A1 c1 acc w (by omega);exact .refl _;rintro v O' ⟨rfl,rfl⟩)))|refine walk ?_)
  exact ret_2 _ _ [Zli A1 c1 (ZcD acc)] (.tmp rfl) (.tmp rfl) SOA ⟨A1,c1,by rw[ZfE],rfl⟩
theorem ZAB (A:Option Addr)(c:Nat)(l:List DRule)(w:World)(b:Glob w)(a:RdSl w A c DRule.enc 11 l)(e:l.length<=1000000)(d:∀ r∈l,-4611686018427387904<=r.save/\r.save<=4611686018427387904) :
  Does prog 230 [.slice A l.length c,.int .i64 1850,.int .i64 2550] w (ZDP (ZcD (allC l (Zae l) 1850 701))) :=
 ZwW A c l 1850 2550 701 w b a e d (by omega) (by omega) (by omega) (by omega)
def apV:Option Zac->Value
 | none => .tuple #[.agg (Zac.enc dEv0).toArray,.int .i64 0]
 | some e => .tuple #[.agg (Zac.enc e).toArray,.int .i64 13]
theorem ZoU {l:List Zac}{k:Nat}(h:k+1<l.length):ZcM (l.drop k)=if (l[k+1]'h).nominal - (l[k]'(by omega)).nominal<259200 then some (l[k+1]'h) else ZcM (l.drop (k+1)):=by
 rw[Zag (show k<l.length by omega),Zag h,ZcM]
theorem Zr4 {l:List Zac}{k:Nat}(h:l.length<=k+1):ZcM (l.drop k)=none:=by
 by_cases a:k<l.length
 ·rw[Zag a,List.drop_eq_nil_of_le h];rfl
 ·rw[List.drop_eq_nil_of_le (by omega)];rfl
theorem ZiM {l:List Zac}{k:Nat}(h:k<l.length)(j:Nat)(v:Value)(a:(Zac.enc l[k])[j]?=some v):(l.flatMap Zac.enc)[k*3+j]?=some v:=ZaD Zac.len l k _ j v (List.getElem?_eq_getElem h) a
def ZlO (e:Zac):Prop := -200000000000000000<=e.nominal/\e.nominal<=200000000000000000
theorem ZkI (least y:Int)(c:least<=0):∀ (l:List DRule) (i:Nat),(Zb6 least y l i).length<=l.length/\∀ e∈Zb6 least y l i,ZlO e
 | [],_=>⟨Nat.le_refl _,fun _ h=>by cases h⟩
 | r::l,i=>by
  obtain⟨f,b⟩:=ZkI least y c l (i+1)
  have d:=Zp3 least c r i y
  simp only[Zb6,List.length_append,List.length_cons,List.mem_append]
  generalize onR least r i y=o at *
  cases o with
  | none=>exact⟨by simp only[Option.toList,List.length_nil];omega,fun e a=>by rcases a with h|h;cases h;exact b e h⟩
  | some x=>exact⟨by simp only[Option.toList,List.length_cons,List.length_nil];omega,fun e a=>by
    rcases a with h|h
    ·simp only[Option.toList,List.mem_singleton]at h;subst h;exact d _ rfl
    ·exact b e h⟩
theorem Zpa (l:List DRule)(least a:Int)(b:least<=0):∀ k,(allC l least a k).length<=k*l.length/\∀ e∈allC l least a k,ZlO e
 | 0=>⟨Nat.zero_le _,fun _ h=>by cases h⟩
 | k+1=>by
  obtain⟨g,c⟩:=Zpa l least a b k
  obtain⟨i,d⟩:=ZkI least (a+k) b l 0
  simp only[allC,List.length_append,List.mem_append,Nat.succ_mul]
  exact⟨by omega,fun e f=>f.elim (c e) (d e)⟩
theorem Zxe (l:List DRule)(least a:Int)(b:least<=0)(c:l.length<=1000000):(allC l least a 701).length<=701000000:=by
 have:=(Zpa l least a b 701).1
 omega
theorem ZDI {G:Prop}(h:G:=by(apply Zdz;rfl;rfl;exact hmx)):G:=h
theorem ZvW {G:Prop}(h:G:=by(first|(apply ZaG;rfl;rfl;omega;omega;(intro w' _ hO;exact(Zbc (hO.of (A := .row (.slice A1 s.length c1) 91 3 s.length (s.flatMap Zac.enc)) cS_) hg1).1))|(apply Ze3;rfl;(focus repeat' constructor);exact hg1)|(apply Ze3;rfl;(focus repeat' constructor);exact hg2)|(apply Zch;rfl;(focus repeat' constructor);exact hgn;rfl)|(apply Zau;rfl;rfl;exact hb))):G:=h
theorem ZyD {G:Prop}(h:G:=by first|(apply Qy_y;rfl;exact ZvW)|exact QyA):G:=h
theorem Zr7 (A:Option Addr)(c:Nat)(l:List DRule)(w:World)(U:Glob w)(T:RdSl w A c DRule.enc 11 l)(R:l.length<=1000000)(N:∀ r∈l,-4611686018427387904<=r.save/\r.save<=4611686018427387904) :
  Does prog 177 [.slice A l.length c] w (fun v O=>v=apV (Zen l)/\O=[]):=by
 have I:=fun w' (E:Bel w.heap.size w w')=>ZAB A c l w' (U.up E) (T.up E) R N
 have t:=(ZdM l N).2
 have hal:=Zxe l (Zae l) 1850 t R
 have hok:=(Zpa l (Zae l) 1850 t 701).2
 rw[<- Znw]
 rw[show((allC l (Zae l) 1850 701).mergeSort fun x y => !ltE y x)=ZcD (allC l (Zae l) 1850 701) from rfl]
 have J:=ZfE (allC l (Zae l) 1850 701)
 have u:∀ e∈ZcD (allC l (Zae l) 1850 701),ZlO e:=fun e W=>hok e (List.mem_mergeSort.1 W)
 generalize ZcD (allC l (Zae l) 1850 701)=s at *
 have S:s.length<=701000000:=by omega
 clear hal hok J
 obtain⟨m,g⟩:∃ m,ZcM s=m:=⟨_,rfl⟩
 rw[g]
 have hmx:(if (s.length:Int) - 1<0 then 0 else (s.length:Int) - 1)=((s.length - 1:Nat):Int):=by split <;> omega
 refine Zaa func177 rfl rfl rfl rfl ?_
 repeat (first|(apply RL_pu;rfl;exact ZDI)|refine walk1 ?_|(refine jg ?_;(try intro F);(first|(apply Zad (h:=fun w' E _=>I w' E);rfl;rintro v O' ⟨A1,c1,rfl,rfl⟩)|(refine bx ?_;intro M));first|refine⟨_,EndsA,QFEvI1,?_⟩|refine fin ?_))
 have Z:s.length - 1<=701000000:=by omega
 obtain⟨z,q⟩:∃ z,M=z:=⟨_,rfl⟩
 rw[q]
 clear q M
 refine Zah [(2,.pointer (some ⟨z,0,none⟩)),(4,.slice A1 s.length c1),(19,.int .i64 (s.length - 1:Nat))] [.row (.slice A1 s.length c1) 91 3 s.length (s.flatMap Zac.enc),.blk z [.int .i64 0,.int .i64 0,.int .i64 0] 91] (fun k:Nat=>[(20,.int .i64 k)]) (fun _=>[]) (fun k=>k<=s.length - 1/\ZcM (s.drop k)=m) (fun k=>s.length - 1 - k) 0 SFA SOA ⟨Nat.zero_le _,g⟩ ?_
 rintro k ⟨hk,f⟩
 repeat (refine walk ?_)
 refine Zaf rfl (fun H=>?_) (fun H=>?_)
 ·simp only[decide_eq_true_eq,Int.ofNat_lt]at H
  have d:k+1<s.length:=by omega
  rw[ZoU d]at f
  have hg1:=ZiM d 2 _ rfl
  have hg2:=ZiM (show k<s.length by omega) 2 _ rfl
  have hgn:∀ j v,(Zac.enc s[k+1])[j]?=some v->(s.flatMap Zac.enc)[(k+1)*3+j]?=some v:=fun j v X=>ZiM d j v X
  have o1:=u _ (List.getElem_mem d)
  have o2:=u _ (List.getElem_mem (show k<s.length by omega))
  generalize s[k+1]=e1 at *
  generalize s[k]=e2 at *
  obtain⟨y1,r1,K⟩:=e1
  obtain⟨y2,r2,L⟩:=e2
  simp only[Zac.enc,ZlO]at hg1 hg2 hgn o1 o2 f
  have Q:(s.length:Int)<=701000000:=by omega
  have Y:(k:Int)+1<s.length:=by omega
  by_cases D:K - L<259200
  ·rw[if_pos D]at f
   subst f
   have hb:decide (K - L<259200)=true:=dT_ D
   repeat (first|(apply RL_pu;rfl;exact ZvW)|(apply RD_Q;rfl;rfl;decide +kernel;rfl;rfl;exact ZyD)|refine walk1 ?_)
   exact rtC
  ·rw[if_neg D]at f
   have hb:decide (K - L<259200)=false:=dF_ D
   repeat (first|(apply RL_pu;rfl;exact ZvW)|(apply RD_Q;rfl;rfl;decide +kernel;rfl;rfl;exact ZyD)|refine walk1 ?_)
   exact⟨k+1,OA,⟨OA,f⟩,SFA,SOA⟩
 ·simp only[decide_eq_false_iff_not,Int.ofNat_lt]at H
  rw[Zr4 (show s.length<=k+1 by omega)]at f
  subst f
  repeat (refine walk ?_)
  exact rtC
def Zoy (z:DZone):Bool:=decide (60<z.eras.length)
theorem Zm7 {α:Type}(p:α->Bool):∀ (l:List α) (k:Nat),Zb8 p l k=match l.findIdx? p with|some i=>((k+i:Nat):Int)|none => -1
 | [],_=>rfl
 | x::l,k=>by
  rw[Zb8,List.findIdx?_cons]
  by_cases h:p x=true
  ·rw[if_pos h,if_pos h];rfl
  ·rw[if_neg h,if_neg h,Zm7 p l (k+1)]
   cases l.findIdx? p with
   | none=>rfl
   | some i=>simp only[Option.map_some];congr 1;omega
theorem Zn7 (n:ByteArray)(A:Option Addr)(m c:Nat)(w:World):Does prog 173 [.agg #[.string n,.slice A m c]] w (fun v O=>v = .bool (decide (60<m))/\O=[]):=by
 have a:decide ((60:Int)<(m:Int))=decide (60<m):=by rw[decide_eq_decide];omega
 refine Zaa func173 rfl rfl rfl rfl ?_
 repeat (first|(apply RL_pu;rfl;(apply Zav;rfl;rfl;exact a))|(refine js ?_;(refine bx ?_;intro b))|refine walk1 ?_)
 exact rtA
theorem ZoG (Ar Az Al As:Option Addr)(r i q cs:Nat)(a:DSource)(w:World)(t:Zam w Ar Az Al As r i q cs a)(y:a.zones.length<=1000000) :
  Does prog 172 [.slice Az a.zones.length i,.func (.func 173) #[] #[]] w (fun v O=>v = .int .i64 (Zb8 Zoy a.zones 0)/\O=[]):=by
 obtain⟨e,c⟩:∃ e,Zb8 Zoy a.zones 0=e:=⟨_,rfl⟩
 rw[c]
 refine Zaa func172 rfl rfl rfl rfl ?_
 repeat (refine walk ?_)
 refine Zah [(0,.slice Az a.zones.length i),(1,.func (.func 173) #[] #[]),(7,.int .i64 a.zones.length)] [] (fun k:Nat=>[(8,.int .i64 k)]) (fun _=>[]) (fun k=>k<=a.zones.length/\Zb8 Zoy (a.zones.drop k) k=e) (fun k=>a.zones.length - k) 0 SFA .nil ⟨Nat.zero_le _,c⟩ ?_
 rintro k ⟨x,d⟩
 repeat (refine walk ?_)
 refine Zaf rfl (fun g=>?_) (fun g=>?_)
 ·simp only[decide_eq_true_eq,Int.ofNat_lt]at g
  obtain⟨hna,s,⟨Ae,m,_,rfl⟩,hca⟩:=t.z k _ (List.getElem?_eq_getElem g)
  rw[Zag g,Zb8]at d
  generalize a.zones[k]=z at *
  have j:∀ w',Does prog 173 ([]++[.agg #[.string z.name,.slice Ae z.eras.length m]]++[]) w' (fun v O=>v = .bool (decide (60<z.eras.length))/\O=[]):=fun w'=>Zn7 z.name Ae z.eras.length m w'
  rw[show decide (60<z.eras.length)=Zoy z from rfl]at j
  generalize Zoy z=mb at *
  cases mb with
  | true =>
   rw[if_pos rfl]at d
   subst d
   repeat (first|(apply RL_pu;rfl;exact PuI)|(refine js ?_;(refine ZdT (fun w' u _=>j w') ?_))|refine walk1 ?_)
   exact rtA
  | false =>
   rw[if_neg (by decide)]at d
   repeat (first|(apply RL_pu;rfl;exact PuI)|(refine js ?_;(refine ZdT (fun w' u _=>j w') ?_))|refine walk1 ?_)
   exact⟨k+1,OA,⟨OA,d⟩,SFA,.nil⟩
 ·simp only[decide_eq_false_iff_not,Int.ofNat_lt]at g
  rw[List.drop_eq_nil_of_le (by omega),Zb8]at d
  subst d
  repeat (refine walk ?_)
  exact rtA
theorem Zwb {G:Prop}(h:G:=by(apply Zav;rfl;rfl;exact b1)):G:=h
theorem ZpA {G:Prop}(h:G:=by(first|exact Zwb|(apply Zav;rfl;rfl;exact b2))):G:=h
theorem Zwa {G:Prop}(h:G:=by(first|exact ZpA|(apply Zav;rfl;rfl;exact b3))):G:=h
theorem Zv9 {G:Prop}(h:G:=by(first|exact Zwa|(apply Zav;rfl;rfl;exact b4))):G:=h
theorem Zrb (Ar Az Al As:Option Addr)(e f d cs:Nat)(a:DSource)(w:World)(q:Zam w Ar Az Al As e f d cs a)(r:a.zones.length<=1000000) :
  Does prog 113 [srcV Ar Az Al As e f d cs a] w (fun v O=>v=ptV (Zdi a)/\O=[]):=by
 have b:=fun w' (s:Bel w.heap.size w w')=>ZoG Ar Az Al As e f d cs a w' (q.up s) r
 rw[Zm7]at b
 unfold Zdi
 rw[show(fun z:DZone=>decide (60<z.eras.length))=Zoy from rfl]
 generalize a.zones.findIdx? Zoy=fi at *
 refine Zaa func113 rfl rfl rfl rfl ?_
 by_cases g:2000<a.rules.length
 ·have b1:decide ((2000:Int)<a.rules.length)=true:=dT_ (by omega)
  rw[if_pos g]
  repeat (first|(apply RL_pu;rfl;exact Zwb)|(refine js ?_;(refine bx ?_;intro c))|refine walk1 ?_)
  exact rtC
 have b1:decide ((2000:Int)<a.rules.length)=false:=dF_ (by omega)
 rw[if_neg g]
 by_cases j:500<a.zones.length
 ·have b2:decide ((500:Int)<a.zones.length)=true:=dT_ (by omega)
  rw[if_pos j]
  repeat (first|(apply RL_pu;rfl;exact ZpA)|(refine js ?_;(refine bx ?_;intro c))|refine walk1 ?_)
  exact rtC
 have b2:decide ((500:Int)<a.zones.length)=false:=dF_ (by omega)
 rw[if_neg j]
 cases fi with
 | some i =>
  dsimp only at b ⊢
  rw[Nat.zero_add]at b
  have b3:decide ((0:Int)<=(i:Int))=true:=dT_ (by omega)
  repeat (first|(apply RL_pu;rfl;(first|exact ZpA|(apply ZbF;rfl;rfl;exact b3)))|(refine js ?_;(first|(refine Zab b ?_)|(refine bx ?_;intro c)))|refine walk1 ?_)
  exact rtC
 | none =>
  dsimp only at b ⊢
  by_cases m:1000<a.links.length
  ·have b3:decide ((1000:Int)<a.links.length)=true:=dT_ (by omega)
   rw[if_pos m]
   repeat (first|(apply RL_pu;rfl;exact Zwa)|(refine js ?_;(first|(refine Zab b ?_)|(refine bx ?_;intro c)))|refine walk1 ?_)
   exact rtC
  have b3:decide ((1000:Int)<a.links.length)=false:=dF_ (by omega)
  rw[if_neg m]
  by_cases p:2000<a.shifts.length
  ·have b4:decide ((2000:Int)<a.shifts.length)=true:=dT_ (by omega)
   rw[if_pos p]
   repeat (first|(apply RL_pu;rfl;exact Zv9)|(refine js ?_;(first|(refine Zab b ?_)|(refine bx ?_;intro c)))|refine walk1 ?_)
   exact rtC
  have b4:decide ((2000:Int)<a.shifts.length)=false:=dF_ (by omega)
  rw[if_neg p]
  repeat (first|(apply RL_pu;rfl;exact Zv9)|(refine js ?_;(first|(refine Zab b ?_)|(refine bx ?_;intro c)))|refine walk1 ?_)
  exact rtC
theorem Zoz (Ar Az Al As:Option Addr)(c d b cs:Nat)(a:DSource)(w:World)(g:Zam w Ar Az Al As c d b cs a)(i:ZcH a) :
  Does prog 116 [srcV Ar Az Al As c d b cs a] w (fun v O=>v=ptV (Zdm a)/\O=[]):=by
 have h:=fun w' (j:Bel w.heap.size w w')=>ZrF Ar Az Al As c d b cs a w' (g.up j) i
 refine Zaa func116 rfl rfl rfl rfl ?_
 generalize Zdm a=o at *
 cases o with
 | none =>
  simp only[ptV,plV,Zar.enc]at h ⊢
  repeat (first|(refine js ?_;(first|(refine Zab h ?_)|(refine bx ?_;intro f)))|refine walk ?_)
  exact rtC
 | some pe =>
  obtain⟨⟨m,p,q⟩,e⟩:=pe
  simp only[ptV,plV,Zar.enc]at h ⊢
  repeat (first|(refine js ?_;(first|(refine Zab h ?_)|(refine bx ?_;intro f)))|refine walk ?_)
  exact rtC
structure RlG where
 k:Nat
 i:Nat
theorem Zh0 (x:ByteArray)(r:DRule)(l:List DRule)(i k:Nat):Zcb x (r::l) i k=if r.name=x then (match i with|0=>⟨1,k,0⟩|i+1=>Zcb x l i (k+1)) else Zcb x l i (k+1):=by cases i <;> rfl
theorem ZjB (x:ByteArray)(i k:Nat):Zcb x [] i k=⟨0,0,0⟩:=by cases i <;> rfl
theorem Zpz {G:Prop}(h:G:=by(first|exact PuI|(apply ZcT;rfl;rfl;exact hb))):G:=h
theorem ZsN (Ar Az Al As:Option Addr)(t z y cs:Nat)(a:DSource)(x:ByteArray)(i:Nat)(w:World)(A:Zam w Ar Az Al As t z y cs a)(B:a.rules.length<=1000000)(c:i<=1000000) :
  Does prog 178 [srcV Ar Az Al As t z y cs a,.string x,.int .i64 i] w (fun v O=>v=plV (Zcb x a.rules i 0)/\O=[]):=by
 obtain⟨f,d⟩:∃ f,Zcb x a.rules i 0=f:=⟨_,rfl⟩
 rw[d]
 refine Zaa func178 rfl rfl rfl rfl ?_
 repeat (first|(refine js ?_;(refine bx ?_;intro e))|refine walk ?_)
 obtain⟨q,j⟩:∃ q,e=q:=⟨_,rfl⟩
 rw[j]
 clear j e
 refine Zah [(1,.string x),(6,.pointer (some ⟨q,0,none⟩)),(11,.slice Ar a.rules.length t),(12,.int .i64 a.rules.length)] [.blk q [.int .i64 0,.int .i64 0,.int .i64 0] 138] (fun g:RlG=>[(2,.int .i64 g.i),(13,.int .i64 g.k)]) (fun _=>[]) (fun g=>g.k<=a.rules.length/\g.i<=1000000/\Zcb x (a.rules.drop g.k) g.i g.k=f) (fun g=>a.rules.length - g.k) ⟨0,i⟩ SFA SOA ⟨Nat.zero_le _,c,d⟩ ?_
 clear c d
 rintro⟨k,i⟩ ⟨hk,hi6,c⟩
 dsimp only at hk hi6 c ⊢
 repeat (first|(refine js ?_;(refine bx ?_;intro e))|refine walk ?_)
 refine Zaf rfl (fun m=>?_) (fun m=>?_)
 ·simp only[decide_eq_true_eq,Int.ofNat_lt]at m
  obtain⟨hna,hca⟩:=A.r.rd k _ (List.getElem?_eq_getElem m)
  rw[Zag m,Zh0]at c
  generalize a.rules[k]=r at *
  by_cases s:r.name=x
  ·have hb:(!decide (r.name=x))=false:=by rw[dT_ s];rfl
   rw[if_pos s]at c
   cases i with
   | zero =>
    dsimp only at c
    subst c
    repeat (first|(apply RL_pu;rfl;exact Zpz)|(refine js ?_;(refine bx ?_;intro e))|refine walk1 ?_)
    exact ret_1 _ [] (.cellB rfl cS_ rfl rfl) .nil ⟨rfl,rfl⟩
   | succ i =>
    dsimp only at c
    have u:decide (((i+1:Nat):Int)=0)=false:=dF_ (by omega)
    repeat (first|(apply RL_pu;rfl;(first|exact Zpz|(apply Zap;rfl;rfl;exact u)))|(refine js ?_;(refine bx ?_;intro e))|refine walk1 ?_)
    rw[show((i+1:Nat):Int) - 1=(i:Int) by omega]
    exact⟨⟨k+1,i⟩,OA,⟨OA,OA,c⟩,SFA,SOA⟩
  ·have hb:(!decide (r.name=x))=true:=by rw[dF_ s];rfl
   rw[if_neg s]at c
   repeat (first|(apply RL_pu;rfl;exact Zpz)|(refine js ?_;(refine bx ?_;intro e))|refine walk1 ?_)
   exact⟨⟨k+1,i⟩,OA,⟨OA,OA,c⟩,SFA,SOA⟩
 ·simp only[decide_eq_false_iff_not,Int.ofNat_lt]at m
  rw[List.drop_eq_nil_of_le (by omega),ZjB]at c
  subst c
  repeat (first|(refine js ?_;(refine bx ?_;intro e))|refine walk ?_)
  exact ret_1 _ [] (.cellB rfl cS_ rfl rfl) .nil ⟨rfl,rfl⟩
theorem Zfd:∀ (l:List DRule) (a:List ByteArray) (x:ByteArray),x∈ZbM l a->x∈a\/∃ r∈l,r.name=x
 | [],a,x,h => .inl h
 | r::l,a,x,h=>by
  rw[ZbM]at h
  split at h
  ·rcases Zfd l a x h with h|⟨q,hq,e⟩
   ·exact .inl h
   ·exact .inr ⟨q,List.mem_cons_of_mem _ hq,e⟩
  ·rcases Zfd l _ x h with h|⟨q,hq,e⟩
   ·rcases List.mem_append.1 h with h|h
    ·exact .inl h
    ·simp only[List.mem_singleton]at h;exact .inr ⟨r,List.mem_cons_self,h.symm⟩
   ·exact .inr ⟨q,List.mem_cons_of_mem _ hq,e⟩
theorem Zfe:∀ (l:List DRule) (a:List ByteArray),(ZbM l a).length<=a.length+l.length
 | [],a=>Nat.le_refl _
 | r::l,a=>by
  rw[ZbM]
  split
  ·have:=Zfe l a;simp only[List.length_cons];omega
  ·have:=Zfe l (a++[r.name]);simp only[List.length_append,List.length_cons,List.length_nil]at this ⊢;omega
theorem Zkm:∀ (l:List Zac) (e:Zac),ZcM l=some e->e∈l
 | [],_,h=>by cases h
 | [_],_,h=>by cases h
 | a::b::l,e,h=>by
  rw[ZcM]at h
  split at h
  ·simp only[Option.some.injEq]at h;subst h;exact List.mem_cons_of_mem _ List.mem_cons_self
  ·exact List.mem_cons_of_mem _ (Zkm (b::l) e h)
theorem Zjt (least y:Int):∀ (l:List DRule) (i:Nat),∀ e∈Zb6 least y l i,∃ j:Nat,e.rule=j/\j<i+l.length
 | [],_=>fun e h=>by cases h
 | r::l,i=>fun e a=>by
  rw[Zb6]at a
  rcases List.mem_append.1 a with h|h
  ·have:onR least r i y=some e:=by
    cases ho:onR least r i y with
    | none=>rw[ho]at h;cases h
    | some x=>rw[ho]at h;simp only[Option.toList,List.mem_singleton]at h;rw[h]
   unfold onR at this
   split at this
   ·cases this
   ·split at this
    ·cases this
    ·simp only[Option.some.injEq]at this
     subst this
     exact⟨i,rfl,by simp⟩
  ·obtain⟨j,b,c⟩:=Zjt least y l (i+1) e h
   exact⟨j,b,by simp only[List.length_cons];omega⟩
theorem Znz (l:List DRule)(least a:Int):∀ k,∀ e∈allC l least a k,∃ j:Nat,e.rule=j/\j<l.length
 | 0=>fun e h=>by cases h
 | k+1=>fun e b=>by
  rw[allC]at b
  rcases List.mem_append.1 b with h|h
  ·exact Znz l least a k e h
  ·have:=Zjt _ _ _ _ e h
   simpa using this
theorem Zi7 (l:List DRule)(e:Zac)(h:Zen l=some e):∃ j:Nat,e.rule=j/\j<l.length:=by
 rw[<- Znw]at h
 exact Znz _ _ _ _ e (List.mem_mergeSort.1 (Zkm _ _ h))
def Zg4 (s:DSource):Prop:=∀ r∈s.rules,(-4611686018427387904<=r.save/\r.save<=4611686018427387904)/\r.from_<=4611686018427387904
theorem Zov {l:List DRule}{x:ByteArray}{r:DRule}(h:r∈ofB l x):r∈l:=(List.mem_filter.1 h).1
def SavI (s:DSource):Prop:=∀ r∈s.rules,-9223372036854775808<=r.save/\r.save<=9223372036854775807
theorem Zd7 (least:Int):∀ (l:List DRule) (k:Nat),ZaS least l k=none->∀ r∈l,Zbu r least=0
 | [],_,_,_,h=>by cases h
 | x::l,k,h,r,hr=>by
  rw[ZaS]at h
  by_cases a:Zbu x least=0
  ·rw[if_pos a]at h
   rcases List.mem_cons.1 hr with rfl|hr
   ·exact a
   ·exact Zd7 least l (k+1) h r hr
  ·rw[if_neg a]at h
   cases h
theorem ZsO {r:DRule}{least:Int}(h:Zbu r least=0):(-4611686018427387904<=r.save/\r.save<=4611686018427387904)/\r.from_<=4611686018427387904:=by
 unfold Zbu at h
 split at h
 ·cases h
 ·rename_i b
  split at h
  ·cases h
  ·split at h
   ·cases h
   ·split at h
    ·cases h
    ·split at h
     ·cases h
     ·rename_i d
      have c:(decide (-10800<=r.save)&&decide (r.save<=10800))=true:=by
       cases hh:(decide (-10800<=r.save)&&decide (r.save<=10800)) with
       | true=>rfl
       | false=>exact absurd hh d
      have a:ZbJ r.from_=true:=by
       cases hh:ZbJ r.from_ with
       | true=>rfl
       | false=>rw[hh]at b;exact absurd rfl b
      unfold ZbJ at a
      simp only[Bool.and_eq_true,decide_eq_true_eq]at a c
      omega
theorem Zmc {l:List DRule}(h:(ZcE l).2=0):∀ r∈l,(-4611686018427387904<=r.save/\r.save<=4611686018427387904)/\r.from_<=4611686018427387904:=by
 intro r b
 unfold ZcE at h
 cases hf:ZaS (Zae l) l 0 with
 | none=>exact ZsO (Zd7 _ l 0 hf r b)
 | some x =>
  rw[hf]at h
  exfalso
  have:∀ (l:List DRule) (k:Nat) (x:Nat × Int) (m:Int),ZaS m l k=some x->x.2≠0:=fun l=>by
   induction l with
   | nil=>intro k x m h;cases h
   | cons y l ih =>
    intro k x m h
    rw[ZaS]at h
    split at h
    ·exact ih _ _ _ h
    ·rename_i a
     simp only[Option.some.injEq]at h
     rw[<- h]
     exact a
  exact this _ _ _ _ hf h
theorem Zdl:∀ (l:List DRule) (a:List ByteArray),(∀ x∈a,x∈ZbM l a)/\∀ r∈l,r.name∈ZbM l a
 | [],a=>⟨fun _ h=>h,fun _ h=>by cases h⟩
 | y::l,a=>by
  rw[ZbM]
  by_cases d:memB y.name a=true
  ·rw[if_pos d]
   have c:=Zdl l a
   refine⟨c.1,fun r b=>?_⟩
   rcases List.mem_cons.1 b with rfl|b
   ·refine c.1 _ ?_
    have:∀ (l:List ByteArray) (x:ByteArray),memB x l=true->x∈l:=fun l=>by
     induction l with
     | nil=>intro x h;cases h
     | cons z l ih2 =>
      intro x h
      rw[memB,Bool.or_eq_true,decide_eq_true_eq]at h
      rcases h with rfl|h
      ·exact List.mem_cons_self
      ·exact List.mem_cons_of_mem _ (ih2 x h)
    exact this _ _ d
   ·exact c.2 r b
  ·rw[if_neg d]
   have c:=Zdl l (a++[y.name])
   refine⟨fun x e=>c.1 x (List.mem_append_left _ e),fun r b=>?_⟩
   rcases List.mem_cons.1 b with rfl|b
   ·exact c.1 _ (List.mem_append_right _ (List.mem_singleton.2 rfl))
   ·exact c.2 r b
theorem ZhZ (rs:List DRule):∀ l:List ByteArray,ZcJ rs l=none->∀ x∈l,(ZcE (ofB rs x)).2=0
 | [],_,_,h=>by cases h
 | y::l,h,x,hx=>by
  rw[ZcJ]at h
  cases hf:Zca rs y with
  | some z=>rw[hf]at h;cases h
  | none =>
   rw[hf]at h
   rcases List.mem_cons.1 hx with rfl|hx
   ·unfold Zca at hf
    split at hf
    ·cases hf
    ·split at hf
     ·cases hf
     ·rename_i a
      exact Decidable.of_not_not a
   ·exact ZhZ rs l h x hx
theorem Zl7 {s:DSource}(h:Zfm s=none):Zg4 s:=fun r a =>
 Zmc (ZhZ s.rules _ h r.name ((Zdl s.rules []).2 r a)) r (List.mem_filter.2 ⟨a,dT_ rfl⟩)
theorem Zii (l:List DRule)(x:ByteArray):(ofB l x).length<=l.length:=List.length_filter_le _ _
theorem ZiG (least:Int):∀ (l:List DRule) (i:Nat) (j:Nat) (e:Int),ZaS least l i=some (j,e)->j<i+l.length
 | [],_,_,_,h=>by cases h
 | r::l,i,j,e,h=>by
  rw[ZaS]at h
  split at h
  ·have:=ZiG least l (i+1) j e h;simp only[List.length_cons];omega
  ·simp only[Option.some.injEq,Prod.mk.injEq]at h;simp only[List.length_cons];omega
