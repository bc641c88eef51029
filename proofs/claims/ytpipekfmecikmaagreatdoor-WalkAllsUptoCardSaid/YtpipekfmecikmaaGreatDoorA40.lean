/- Parts of the proof. -/
import Derived.Test.YtpipekfmecikmaaGreatDoorA39
set_option maxHeartbeats 0
set_option linter.all false
namespace Go.Proofs.YtpipekfmecikmaaGreatDoor
open Go Go.RowKit Go.Wk Tryz
attribute [local irreducible] W RL Does Zaq Zai retQ Calls Pu Stp RD Qy Ay Zaj RLI WI Pre
def z27:List DEra:=[x27e,x27f]
theorem Zw3:accD ex27=none:=by decide +kernel
theorem Znb:ZbV ex27 ⟨#[90]⟩=(((0:Nat):Int),0):=by decide +kernel
theorem ZtX:(ZbV ex27 ⟨#[88]⟩).2=9:=by decide +kernel
theorem ZAG:(Zey ex27.rules z27).isSome=true:=by decide +kernel
theorem Zx1:ZaF x27e.til (Go.Wk.bsE x27e [])=0/\ZgR (endB x27e [])=true:=by decide +kernel
def ExSt (e:DEra)(x:Int × ByteArray):Prop:=((-1000000000<=x.1/\x.1<=1000000000)/\x.2.size<=1000000000)/\abE e x=0
theorem ZtW:ExSt x27e (0,ByteArray.empty)/\ExSt x27f (0,ByteArray.empty)/\∀ r∈ofB ex27.rules x27f.set,ExSt x27f (r.save,r.letter):=by
 unfold ExSt
 decide +kernel
theorem Zqe:(∀ r∈ofB ex27.rules x27f.set,(-1000000000<=r.save/\r.save<=1000000000)/\r.from_<=4611686018427387904/\-4611686018427387904<=r.to)/\(ofB ex27.rules x27f.set).length<=1000000:=by decide +kernel
theorem ZoQ:MnOk ex27:=by
 have d:∀ z∈ex27.zones,z.eras=z27:=fun z d=>by rw[List.mem_singleton.1 d];rfl
 have f:∀ e∈z27,e=x27e\/e=x27f:=fun e f=>by simpa[z27] using f
 refine⟨Zw3,fun z a k e g l=>?_,fun z a=>by rw[d z a];decide,fun z a=>?_,fun z a e b=>?_,fun z a e b t=>?_⟩
 ·rw[d z a]at g l
  have i:k=0:=by simp only[z27,List.length_cons,List.length_nil]at l;omega
  subst i
  simp only[z27,List.getElem?_cons_zero,Option.some.injEq]at g
  subst g
  exact⟨⟨by decide,(fun r c=>by cases c),(fun r c=>by cases c),(fun r c=>by cases c)⟩,by decide,by decide,by decide,Zx1.1,Zx1.2⟩
 ·rw[d z a]
  exact Option.isSome_iff_exists.1 ZAG
 ·rw[d z a]at b
  rcases f e b with rfl|rfl
  ·exact⟨by decide,by decide,by decide,(fun h=>by cases h),by decide⟩
  ·exact⟨by decide,by decide,by decide,fun _=>⟨Zqe.2,fun r c=>(Zqe.1 r c).1,fun r c=>(Zqe.1 r c).2.1,fun r c=>(Zqe.1 r c).2.2⟩,by decide⟩
 ·rw[d z a]at b
  have j:ExSt e (ZaU ex27.rules e t):=by
   rcases f e b with rfl|rfl
   ·exact ZpR (P:=ExSt x27e) ZtW.1 (fun h=>by cases h) (fun h=>absurd rfl h) t
   ·exact ZpR (P:=ExSt x27f) ZtW.2.1 (fun h=>by cases h) (fun _ _=>ZtW.2.2) t
  exact⟨j.1.1,j.1.2,j.2⟩
def w27:List (Int × Int):=[(0,57715200+7200),(57715200+7200,69811200+7200),(57715200+7200 - 1,57715200+7200),(-36028797018963968,-37238400)]
def Zmu (x:Int × Int):List Value:=[.int .i64 x.1,.int .i64 x.2]
theorem Zmu.len (x:Int × Int):(Zmu x).length=2:=rfl
theorem ZBz:∀ x∈w27,tOk x.1=true/\nxD ex27.rules z27 x.1=some x.2/\(evtD (ruEr ex27.rules (eAt ex27.rules z27 x.1)) (eAt ex27.rules z27 x.1).off x.1).isSome=true:=by decide +kernel
def g27:List Int:=[-36028797018963968,-37238400,57722400,69818400,89168400]
theorem ZtO:∀ t∈g27,(-1000000000000000000<=t/\t<=1000000000000000000)/\((evtD (ruEr ex27.rules (eAt ex27.rules z27 t)) (eAt ex27.rules z27 t).off t).any fun o=>o.all fun u=>decide (t<u))=true/\((nxD ex27.rules z27 t).all fun u=>decide (94694400<u)||decide (u∈g27))=true:=by decide +kernel
def o27:List (Int × Nat):=[(-37238400,1),(57722400,2),(69818400,1),(89168400,2)]
def t27:List Zak:=[⟨0,false,x27G⟩,⟨3600,false,x27I⟩,⟨0,true,x27G⟩]
theorem Zw2:allD ex27.rules z27 (-36028797018963968) 94694400=some (o27,t27):=by decide +kernel
def y27:List (Int × Nat):=[(-37238400,1),(57715200+7200,2),(69811200+7200,1),(89164800+3600,2)]
theorem ZbP.len (x:Int × Nat):(ZbP x).length=2:=rfl
theorem Zak.len (x:Zak):(Zak.enc x).length=3:=rfl
theorem ZDY (A:Option Addr)(b c:Nat)(w:World)(a:RdSl w A c ZbP 2 o27)(d:RdSl w (some ⟨b,0,none⟩) 4 ZbP 2 y27):Does prog 29 [.slice A o27.length c,.slice (some ⟨b,0,none⟩) 4 4] w (fun v O=>v = .bool true/\O=[]):=by
 have:=ZeW A (some ⟨b,0,none⟩) c 4 o27 y27 w a d
 rwa[show decide (o27=y27)=true by decide]at this
theorem ZDZ (A:Option Addr)(b c:Nat)(w:World)(a:RdSl w A c Zak.enc 3 t27)(d:RdSl w (some ⟨b,0,none⟩) 3 Zak.enc 3 t27):Does prog 30 [.slice A t27.length c,.slice (some ⟨b,0,none⟩) 3 3] w (fun v O=>v = .bool true/\O=[]):=by
 have:=ZeX A (some ⟨b,0,none⟩) c 3 t27 t27 w a d
 rwa[show decide (t27=t27)=true from dT_ rfl]at this
section
variable (br bz bl:Nat)(w:World)(hL:LibW w)(hG:Glob w)(hA:Zam w (some ⟨br,0,none⟩) (some ⟨bz,0,none⟩) (some ⟨bl,0,none⟩) none 3 1 1 0 ex27)
include hL hG hA
theorem Zt0:Zdc w (some ⟨br,0,none⟩) (some ⟨bz,0,none⟩) (some ⟨bl,0,none⟩) none 3 1 1 0 ex27:=ZD1 hL hG (Bel.refl _ w) (show okD ex27=true by decide +kernel) hA
theorem ZtY (x:Int × Int)(e:x∈w27):Does prog 24 [srcV (some ⟨br,0,none⟩) (some ⟨bz,0,none⟩) (some ⟨bl,0,none⟩) none 3 1 1 0 ex27,.string ⟨#[90]⟩,.int .i64 x.1] w (fun v O=>v = .tuple #[.int .i64 x.2,.bool true,.int .i64 0]/\O=[]):=by
 obtain⟨a,b,c⟩:=ZBz x e
 obtain⟨o,d⟩:=Option.isSome_iff_exists.1 c
 have:=Ztm (some ⟨br,0,none⟩) (some ⟨bz,0,none⟩) (some ⟨bl,0,none⟩) none 3 1 1 0 ex27 ⟨#[90]⟩ x.1 0 ⟨⟨#[90]⟩,z27⟩ o w (Zt0 br bz bl w hL hG hA) (by decide) ZoQ a Znb rfl (ZoQ.wk List.mem_cons_self) d
 dsimp only at this
 rw[b]at this
 exact this
theorem ZrQ:Does prog 24 [srcV (some ⟨br,0,none⟩) (some ⟨bz,0,none⟩) (some ⟨bl,0,none⟩) none 3 1 1 0 ex27,.string ⟨#[88]⟩,.int .i64 0] w (fun v O=>v = .tuple #[.int .i64 0,.bool false,.int .i64 9]/\O=[]):=by
 have:=Ztn (some ⟨br,0,none⟩) (some ⟨bz,0,none⟩) (some ⟨bl,0,none⟩) none 3 1 1 0 ex27 ⟨#[88]⟩ 0 w (Zt0 br bz bl w hL hG hA) (by decide) (by decide) (by rw[ZtX];decide)
 rwa[ZtX]at this
theorem ZtZ:Does prog 27 [srcV (some ⟨br,0,none⟩) (some ⟨bz,0,none⟩) (some ⟨bl,0,none⟩) none 3 1 1 0 ex27,.string ⟨#[90]⟩,.int .i64 (-36028797018963968),.int .i64 94694400] w (alO o27 t27):=by
 refine Zuy (some ⟨br,0,none⟩) (some ⟨bz,0,none⟩) (some ⟨bl,0,none⟩) none 3 1 1 0 ex27 ⟨#[90]⟩ w (Zt0 br bz bl w hL hG hA) (by decide) ZoQ (i:=0) (z:=⟨⟨#[90]⟩,z27⟩) Znb rfl (-36028797018963968) 94694400 (fun t=>t∈g27) (by decide) (fun t u a _ b c=>?_) (fun t a=>(ZtO t a).1) (fun t a=>?_) (by decide) (by decide) Zw2
 ·have h:=(ZtO t a).2.2
  rw[show nxD ex27.rules z27 t=some u from b,Option.all_some,Bool.or_eq_true,decide_eq_true_eq,decide_eq_true_eq]at h
  rcases h with h|h
  ·omega
  ·exact h
 ·have h:=(ZtO t a).2.1
  cases he:evtD (ruEr ex27.rules (eAt ex27.rules z27 t)) (eAt ex27.rules z27 t).off t with
  | none=>rw[he]at h;cases h
  | some o =>
   rw[he]at h
   refine⟨o,rfl,fun u b=>?_⟩
   subst b
   simpa using h
end
theorem ZCU {G:Prop}(h:G:=by(apply ZfQ;rfl;rfl;(focus repeat (first|exact Nf.nil|apply Nf.cons)))):G:=h
theorem ZCT {G:Prop}(h:G:=by(first|(apply Pu_indexAddr;rfl;rfl;omega;omega;simp)|(apply Zbz;rfl;rfl;decide;decide)|(apply ZgA (cs:=[.int .i64 x1,.int .i64 x2]);rfl;rfl;(intro w' _ hO;exact((ZoB (c:=4) (l:=w27) (enc:=Zmu) (t:=114) Zmu.len (Nat.le_refl 4) (by decide) (hO.of (A := .blk bq _ _) cS_)).rd i _ hx).2))|(apply Zal;rfl;rfl;first|exact e3|exact e1))):G:=h
theorem ZCS {G:Prop}(h:G:=by(apply Zap;rfl;rfl;exact dT_ rfl)):G:=h
set_option maxHeartbeats 0 in
set_option maxRecDepth 20000 in
theorem ZlT (w:World)(s:LibW w)(g:Glob w):Does prog 23 [] w (fun v O=>v = .bool true/\O=[]):=by
 have I:=fun w' (d:Bel w.heap.size w w')=>ZdR 1968 10 27 (-431) (-37238400) w' (g.up d) (by decide +kernel) (by decide +kernel) rfl (by decide)
 have J:=fun w' (d:Bel w.heap.size w w')=>ZdR 1971 10 31 668 57715200 w' (g.up d) (by decide +kernel) (by decide +kernel) rfl (by decide)
 have K:=fun w' (d:Bel w.heap.size w w')=>ZdR 1972 3 19 808 69811200 w' (g.up d) (by decide +kernel) (by decide +kernel) rfl (by decide)
 have L:=fun w' (d:Bel w.heap.size w w')=>ZdR 1972 10 29 1032 89164800 w' (g.up d) (by decide +kernel) (by decide +kernel) rfl (by decide)
 have N:=fun w' (d:Bel w.heap.size w w')=>ZdR 1973 1 1 1096 94694400 w' (g.up d) (by decide +kernel) (by decide +kernel) rfl (by decide)
 have e3:(!decide ((0:Int)=0))=false:=rfl
 have r:=fun(f bz e:Nat) w' (d:Bel w.heap.size w w') p=>ZtY f bz e w' (s.up d) (g.up d) p
 refine Zaa func23 rfl rfl rfl rfl ?_
 repeat (first|(apply RL_pu;rfl;exact ZCU)|refine walk1 ?_|(refine jg ?_;(try intro F);(first|(apply Zad (h:=fun w' _ _=>Zjo w');rfl;rintro v O' ⟨f,bz,e,S,rfl,rfl⟩)|(refine Zab I ?_)|(refine Zab J ?_)|(refine Zab K ?_)|(refine Zab L ?_)|(refine bx ?_;intro m));first|refine⟨_,EndsA,QFWaI0,?_⟩|refine fin ?_))
 generalize m=bq
 rename_i D
 refine Zah [(1,.pointer (some ⟨D,0,none⟩)),(2,.int .i64 (-37238400)),(3,.int .i64 (57715200+7200)),(4,.int .i64 (69811200+7200)),(5,.int .i64 (89164800+3600)),(39,.slice (some ⟨bq,0,none⟩) 4 4),(40,.int .i64 4)] [.blk D [.slice (some ⟨f,0,none⟩) 3 3,.slice (some ⟨bz,0,none⟩) 1 1,.slice (some ⟨e,0,none⟩) 1 1,.slice none 0 0] 27,.blk bq (w27.flatMap Zmu) 114,.fact S (fun w=>Zam w (some ⟨f,0,none⟩) (some ⟨bz,0,none⟩) (some ⟨e,0,none⟩) none 3 1 1 0 ex27)]
  (fun i:Nat=>[(41,.int .i64 i)]) (fun _=>[]) (fun i=>i<=4) (fun i=>4 - i) 0 SFA SOA (Nat.zero_le 4) ?_
 intro i Q
 repeat (refine walk ?_)
 refine Zaf rfl (fun M=>?_) (fun M=>?_)
 ·have y:i<4:=by
   have:=of_decide_eq_true M
   omega
  obtain⟨x,hx⟩:∃ x,w27[i]?=some x:=⟨_,List.getElem?_eq_getElem y⟩
  have j:=List.mem_of_getElem? hx
  have q:=fun w' d p=>r f bz e w' d p x j
  clear j
  obtain⟨x1,x2⟩:=x
  dsimp only at q
  have e1:(!decide (x2=x2))=false:=by rw[dT_ rfl];rfl
  repeat (first|(apply RL_pu;rfl;exact ZCT)|refine walk1 ?_|(refine jg ?_;(try intro F);(first|(refine ZaH (fun w' d hO=>q w' d (Zbj (hO.of (A := .fact S _) cS_))) ?_)|(refine bx ?_;intro m));first|refine⟨_,EndsA,QFWaI1,?_⟩|refine fin ?_))
  exact⟨i+1,by omega,by omega,SFA,SOA⟩
 ·have hal:=fun w' (d:Bel w.heap.size w w') p=>ZtZ f bz e w' (s.up d) (g.up d) p
  have z:=fun w' (d:Bel w.heap.size w w') p=>ZrQ f bz e w' (s.up d) (g.up d) p
  have u:=fun w'=>ZrB (some ⟨f,0,none⟩) (some ⟨bz,0,none⟩) (some ⟨e,0,none⟩) none 3 1 1 0 ex27 ⟨#[90]⟩ 36028797018963969 w' (by decide)
  clear r I J K L
  repeat (first|refine walk ?_|(refine jg ?_;(try intro F);(first|(apply Zad (h:=fun w' d hO=>hal w' d (Zbj (hO.of (A := .fact S _) cS_)));rfl;rintro v O' ⟨Ao,E,At,H,rfl,rfl⟩)|(refine Zab N ?_)|(refine Zab (fun w' _=>u w') ?_)|(refine ZaH (fun w' d hO=>z w' d (Zbj (hO.of (A := .fact S _) cS_))) ?_)|(refine bx ?_;intro m));refine fin ?_)|(refine jn ?_;(try intro F);((apply Zan;exact PuA));refine fin ?_))
  generalize m=bT
  repeat (first|refine walk ?_|(refine jg ?_;(try intro F);(first|(refine ZaH (fun w' _ hO=>ZDY Ao bT E w' (ZaJ ZbP.len (hO.of (A := .row (.slice Ao o27.length E) _ _ _ _) cS_)) (ZoB (c:=4) (l:=y27) (enc:=ZbP) (t:=59) ZbP.len (Nat.le_refl 4) (by decide) (hO.of (A := .blk bT _ _) cS_))) ?_)|(refine bx ?_;intro m));refine fin ?_))
  generalize m=bL
  repeat (first|(apply RL_pu;rfl;exact ZCS)|refine walk1 ?_|(refine jg ?_;(try intro F);(first|(refine ZaH (fun w' _ hO=>ZDZ At bL H w' (ZaJ Zak.len (hO.of (A := .row (.slice At t27.length H) _ _ _ _) cS_)) (ZoB (c:=3) (l:=t27) (enc:=Zak.enc) (t:=42) Zak.len (Nat.le_refl 3) (by decide) (hO.of (A := .blk bL _ _) cS_))) ?_)|(refine bx ?_;intro m));first|refine⟨_,EndsA,QFWaI2,?_⟩|refine fin ?_))
  exact rtA
end Go.Proofs.YtpipekfmecikmaaGreatDoor
namespace Go.Proofs.YtpipekfmecikmaaGreatDoor
open Go Go.RowKit Go.Wk Tryz
attribute [local irreducible] W RL Does Zaq Zai retQ Calls Pu Stp RD Qy Ay Zaj
def ixV:Option Nat->Int
 | some i=>i
 | none => -1
theorem ZC5 {G:Prop}(h:G:=by(first|exact PuI|(apply Zvb (i:=(⟨y1,y2,y3⟩:Zak)) (j:=⟨x1,x2,x3⟩) (enc:=Zak.enc);rfl;rfl;exact n0))):G:=h
theorem Zye {G:Prop}(h:G:=by first|(apply Qy_y;rfl;exact ZC5)|exact QyA):G:=h
theorem ZkX (A:Option Addr)(c:Nat)(l:List Zak)(x:Zak)(w:World)(m:RdSl w A c Zak.enc 3 l)(u:l.length<=1000000) :
  Does prog 71 [.slice A l.length c,.agg x.enc.toArray] w (fun v O=>v = .int .i64 (ixV (ixL x l 0))/\O=[]):=by
 obtain⟨R,q⟩:∃ R,ixL x l 0=R:=⟨_,rfl⟩
 rw[q]
 have s:=m.le
 have r:=m.cap
 simp only[maxLen]at r
 obtain⟨x1,x2,x3⟩:=x
 simp only[Zak.enc]
 refine Zaa func71 rfl rfl rfl rfl ?_
 repeat (first|refine walk ?_|(refine jn ?_;(try intro F);((refine bx ?_;intro f));refine fin ?_))
 refine Zah [(0,.slice A l.length c),(3,.pointer (some ⟨f,0,none⟩))] [.blk f [.int .i64 x1,.bool x2,.string x3] 42] (fun k:Nat=>[(5,.int .i64 k)]) (fun _=>[]) (fun k=>k<=l.length/\ixL ⟨x1,x2,x3⟩ (l.drop k) k=R) (fun k=>l.length - k) 0 SFA SOA ⟨Nat.zero_le _,q⟩ ?_
 clear q
 rintro k ⟨t,d⟩
 repeat (first|refine walk ?_|(refine jn ?_;(try intro F);((refine bx ?_;intro f));refine fin ?_))
 refine Zaf rfl (fun e=>?_) (fun e=>?_)
 ·simp only[decide_eq_true_eq,Int.ofNat_lt]at e
  obtain⟨hna,hca⟩:=m.rd k _ (List.getElem?_eq_getElem e)
  rw[Zag e,ixL]at d
  generalize l[k]=y at *
  obtain⟨y1,y2,y3⟩:=y
  simp only[Zak.enc]at hca
  by_cases g:(⟨y1,y2,y3⟩:Zak)=⟨x1,x2,x3⟩
  ·rw[if_pos g]at d
   subst d
   have n0:decide ((⟨y1,y2,y3⟩:Zak)=⟨x1,x2,x3⟩)=true:=dT_ g
   repeat (first|(apply RD_Q;rfl;rfl;decide +kernel;rfl;rfl;exact Zye)|refine walk1 ?_)
   exact rtA
  ·rw[if_neg g]at d
   have n0:decide ((⟨y1,y2,y3⟩:Zak)=⟨x1,x2,x3⟩)=false:=dF_ g
   repeat (first|(apply RD_Q;rfl;rfl;decide +kernel;rfl;rfl;exact Zye)|refine walk1 ?_)
   exact⟨k+1,OA,⟨OA,d⟩,SFA,SOA⟩
 ·simp only[decide_eq_false_iff_not,Int.ofNat_lt]at e
  rw[List.drop_eq_nil_of_le (by omega),ixL]at d
  subst d
  repeat (first|refine walk ?_|(refine jn ?_;(try intro F);((refine bx ?_;intro f));refine fin ?_))
  exact rtA
def rAll (rs:List DRule)(l:List DEra)(to:Int):Nat->Int->Nat->List Zak->List (Int × Nat)->Option (List (Int × Nat) × List Zak)
 | 0,_,_,_,_=>none
 | k+1,t,now,ty,out=>match nxD rs l t with
  | none=>some (out,ty)
  | some u=>if to<u then some (out,ty)
   else if (Zck ty (Zbw rs l u)).1=now then rAll rs l to k u now (Zck ty (Zbw rs l u)).2 out
   else rAll rs l to k u (Zck ty (Zbw rs l u)).1 (Zck ty (Zbw rs l u)).2 (out++[(u,(Zck ty (Zbw rs l u)).1)])
theorem ZwH {α:Type}{l:List α}(h:l.Nodup){i j:Nat}{x:α}(d:l[i]?=some x)(e:l[j]?=some x):i=j:=by
 obtain⟨a,a2⟩:=List.getElem?_eq_some_iff.1 d
 obtain⟨b,c⟩:=List.getElem?_eq_some_iff.1 e
 rcases Nat.lt_trichotomy i j with h1|h1|h1
 ·exact absurd (a2.trans c.symm) (List.pairwise_iff_getElem.1 h i j a b h1)
 ·exact h1
 ·exact absurd (c.trans a2.symm) (List.pairwise_iff_getElem.1 h j i b a h1)
theorem Zom (rs:List DRule)(l:List DEra)(g:Int):∀ (k:Nat) (t:Int) (a:Nat) (x:Zak) (ty:List Zak) (b:List (Int × Nat)),ty.Nodup->ty[a]?=some x->rAll rs l g k t a ty b=Zjq rs l g k t x ty b
 | 0,_,_,_,_,_,_,_=>rfl
 | k+1,t,a,x,ty,b,hn,hx=>by
  rw[rAll,Zjq]
  cases nxD rs l t with
  | none=>rfl
  | some u =>
   dsimp only
   by_cases h:g<u
   ·rw[if_pos h,if_pos h]
   rw[if_neg h,if_neg h]
   obtain⟨j,d,f⟩:=Zr9 ty (Zbw rs l u) hn
   have e:=(List.getElem?_eq_some_iff.1 hx).1
   by_cases c:Zbw rs l u=x
   ·rw[if_pos c]
    have o:x∈ty:=List.mem_of_getElem? hx
    have key:(Zck ty (Zbw rs l u)).1=a/\(Zck ty (Zbw rs l u)).2=ty:=by
     rcases f with⟨f,n4⟩|⟨f,n4⟩
     ·refine⟨?_,n4⟩
      rw[n4,c]at d
      rw[c]at f ⊢
      exact ZwH hn d hx
     ·rw[n4,c]at j
      exact absurd rfl ((List.nodup_append.1 j).2.2 x o x (List.mem_singleton.2 rfl))
    rw[if_pos key.1,key.2]
    exact Zom rs l g k u a x ty b hn hx
   ·rw[if_neg c]
    have i:(Zck ty (Zbw rs l u)).1≠a:=fun n=>by
     rw[n]at d
     have m:(Zck ty (Zbw rs l u)).2[a]?=ty[a]?:=by
      rcases f with⟨_,n4⟩|⟨_,n4⟩
      ·rw[n4]
      ·rw[n4,List.getElem?_append_left e]
     rw[m,hx]at d
     exact c (Option.some.inj d).symm
    rw[if_neg i]
    exact Zom rs l g k u _ _ _ _ j d
theorem Zrs (Ar Az Al As:Option Addr)(i j g cs:Nat)(a:DSource)(d:ByteArray)(x y:Int)(w:World)(m:(tOk x&&tOk y)=false) :
  Does prog 28 [srcV Ar Az Al As i j g cs a,.string d,.int .i64 x,.int .i64 y] w (alN 3):=by
 have b:=fun w'=>ZbE x w'
 have c:=fun w'=>ZbE y w'
 generalize tOk x=p at *
 generalize tOk y=q at *
 refine Zaa func28 rfl rfl rfl rfl ?_
 cases p with
 | false =>
  repeat (first|(refine js ?_;(first|(refine Zab (fun w' _=>b w') ?_)|(refine Zab (fun w' _=>c w') ?_)|(refine bx ?_;intro f)))|refine walk ?_)
  exact Zcj _ _ _ [] (.tmp rfl) (.tmp rfl) (.tmp rfl) .nil ⟨rfl,rfl⟩
 | true =>
  have e:q=false:=by simpa using m
  subst e
  repeat (first|(refine js ?_;(first|(refine Zab (fun w' _=>b w') ?_)|(refine Zab (fun w' _=>c w') ?_)|(refine bx ?_;intro f)))|refine walk ?_)
  exact Zcj _ _ _ [] (.tmp rfl) (.tmp rfl) (.tmp rfl) .nil ⟨rfl,rfl⟩
theorem Zs6 (Ar Az Al As:Option Addr)(g i f cs:Nat)(a:DSource)(b:ByteArray)(x y:Int)(w:World)(h:Zdc w Ar Az Al As g i f cs a)(m:tOk x=true)(p:tOk y=true)(q:(ZbV a b).2≠0) :
  Does prog 28 [srcV Ar Az Al As g i f cs a,.string b,.int .i64 x,.int .i64 y] w (alN (ZbV a b).2):=by
 have d:=fun w'=>ZbE x w'
 have e:=fun w'=>ZbE y w'
 have c:=fun w' (r:Bel w.heap.size w w')=>Zf4 Ar Az Al As g i f cs a b w' (h.up r)
 rw[m]at d
 rw[p]at e
 have j:(!decide ((ZbV a b).2=0))=true:=by rw[dF_ q];rfl
 generalize ZbV a b=Z at *
 obtain⟨t,z2⟩:=Z
 dsimp only at c j ⊢
 refine Zaa func28 rfl rfl rfl rfl ?_
 repeat (first|(apply RL_pu;rfl;(apply Zal;rfl;rfl;exact j))|(refine js ?_;(first|(refine Zab (fun w' _=>d w') ?_)|(refine Zab (fun w' _=>e w') ?_)|(refine Zab c ?_)|(refine bx ?_;intro s)))|refine walk1 ?_)
 exact Zcj _ _ _ [] (.tmp rfl) (.tmp rfl) (.tmp rfl) .nil ⟨rfl,rfl⟩
structure R7G where
 k:Nat
 t:Int
 n:Int
 now:Nat
 ty:List Zak
 out:List (Int × Nat)
 At:Option Addr
 ct:Nat
 mt:Nat
 xt:List Value
 Ao:Option Addr
 co:Nat
 mo:Nat
 xo:List Value
theorem Zzi {G:Prop}(h:G:=by(apply Zav;rfl;rfl;first|exact d4|exact d5)):G:=h
theorem Zvk {G:Prop}(h:G:=by(first|exact Zzi|(apply Zau;rfl;rfl;exact d6)|(apply Zal;rfl;rfl;exact d7))):G:=h
set_option maxHeartbeats 0 in
theorem Zs5 (Ar Az Al As:Option Addr)(F H E cs:Nat)(a:DSource)(f:ByteArray)(x y:Int)(i:Nat)(z:DZone)(OUT:List (Int × Nat))(TY:List Zak)(w:World)(h:Zdc w Ar Az Al As F H E cs a)(e:accD a=none)(Z:tOk x=true)(h2:tOk y=true)
  (hz:ZbV a f=((i:Int),0)) (U:a.zones[i]?=some z) (s:allD a.rules z.eras x y=some (OUT,TY)) :
  Does prog 28 [srcV Ar Az Al As F H E cs a,.string f,.int .i64 x,.int .i64 y] w (alO OUT TY):=by
 have R:=fun w'=>ZbE x w'
 have S:=fun w'=>ZbE y w'
 have D:=fun w' (C:Bel w.heap.size w w')=>Zf4 Ar Az Al As F H E cs a f w' (h.up C)
 rw[Z]at R
 rw[h2]at S
 rw[hz]at D
 dsimp only at D
 have hx:=ZdX.1 Z
 have hy:=ZdX.1 h2
 have Q:=fun(t:Int) (B : -37000000000000000<=t/\t<=37000000000000000) w' (C:Bel w.heap.size w w')=>Zmo Ar Az Al As F H E cs a i z t w' (h.up C) e U B
 have r:=fun(t:Int) (B : -37000000000000000<=t/\t<=37000000000000000) w' (C:Bel w.heap.size w w')=>ZkW Ar Az Al As F H E cs a i z t w' (h.up C) e U B
 have L:=r x (by omega)
 have ad:=fun(t u:Int) (B : -37000000000000000<=t/\t<=37000000000000000) (hu:nxD a.rules z.eras t=some u)=>(ZCg e (ZAt h e) (List.mem_of_getElem? U) B.1 B.2 hu).1
 have N:rAll a.rules z.eras y 50001 x 0 [Zbw a.rules z.eras x] []=some (OUT,TY):=(Zom _ _ _ _ _ 0 _ _ _ (by simp) rfl).trans s
 clear s h e U hz Z h2
 generalize Zbw a.rules z.eras x=l0 at *
 obtain⟨l1,l2,l3⟩:=l0
 simp only[Zak.enc]at L
 refine Zaa func28 rfl rfl rfl rfl ?_
 refine Zdy 59 2 ?_
 repeat (first|(apply RL_pu;rfl;(apply Zal;rfl;rfl;rfl))|(refine js ?_;(first|(refine Zab (fun w' _=>R w') ?_)|(refine Zab (fun w' _=>S w') ?_)|(refine Zab D ?_)|(refine Zab L ?_)|(refine bx ?_;intro J)))|refine walkB1 ?_)
 refine Zpe (b:=J) (m:=1) 3 cS_ rfl (by decide) ?_
 rename_i b4
 generalize J=b13
 repeat (refine walk ?_)
 refine Zah [(3,.int .i64 y),(4,.pointer (some ⟨b4,0,none⟩)),(11,.int .i64 i)] [.blk b4 [.slice Ar a.rules.length F,.slice Az a.zones.length H,.slice Al a.links.length E,.slice As a.shifts.length cs] 27] (fun g:R7G=>[(2,.int .i64 g.t),(13,.slice g.At g.mt g.ct),(14,.slice g.Ao g.mo g.co),(15,.int .i64 g.now),(16,.int .i64 g.n)])
  (fun g=>[.row (.slice g.At g.mt g.ct) 42 3 g.mt g.xt,.row (.slice g.Ao g.mo g.co) 59 2 g.mo g.xo])
  (fun g=>(-37000000000000000<=g.t/\g.t<=36028797018963968)/\rAll a.rules z.eras y g.k g.t g.now g.ty g.out=some (OUT,TY)/\g.n+g.k=50001/\g.out.length+g.k<=50001/\g.ty.length+g.k<=50002/\g.now<g.ty.length/\(g.mt=g.ty.length/\g.xt=g.ty.flatMap Zak.enc)/\g.mo=g.out.length/\g.xo=g.out.flatMap ZbP) (fun g=>g.k)
  ⟨50001,x,0,0,[⟨l1,l2,l3⟩],[],some ⟨b13,0,none⟩,1,1,[.int .i64 l1,.bool l2,.string l3],none,0,0,[]⟩ SFA SOA ⟨by dsimp only;omega,N,by dsimp only;omega,by dsimp only[List.length];omega,by dsimp only[List.length];omega,by dsimp only[List.length];omega,⟨rfl,rfl⟩,rfl,rfl⟩ ?_
 clear N
 rintro⟨k,t,n,now,ty,out,At,ct,mt,xt,Ao,co,mo,xo⟩ ⟨B,hr,hnk,hok,htk,hnow,⟨e1,e2⟩,e3,e4⟩
 dsimp only at B hr hnk hok htk hnow e1 e2 e3 e4 ⊢
 subst e1 e2 e3 e4
 rcases k with _|k
 ·cases hr
 rw[rAll]at hr
 have c:=Q t (by omega)
 have M:=ad t
 cases hq:nxD a.rules z.eras t with
 | none =>
  rw[hq]at hr c
  cases hr
  simp only[optV,Option.getD,Option.isSome]at c
  repeat (first|(refine js ?_;((refine Zab c ?_)))|refine walk ?_)
  exact Zcj _ _ _ [.row (.slice Ao OUT.length co) 59 2 OUT.length (OUT.flatMap ZbP),.row (.slice At TY.length ct) 42 3 TY.length (TY.flatMap Zak.enc)] (.tmp rfl) (.tmp rfl) (.tmp rfl) SOA ⟨Ao,co,At,ct,rfl,rfl⟩
 | some u =>
  rw[hq]at hr c
  have af:=M u (by omega) hq
  simp only[optV,Option.getD,Option.isSome]at c
  clear M hq
  dsimp only at hr
  by_cases T:y<u
  ·rw[if_pos T]at hr
   cases hr
   have d4:decide (y<u)=true:=dT_ T
   have d5:=d4
   repeat (first|(apply RL_pu;rfl;exact Zzi)|(refine js ?_;((refine Zab c ?_)))|refine walk1 ?_)
   exact Zcj _ _ _ [.row (.slice Ao OUT.length co) 59 2 OUT.length (OUT.flatMap ZbP),.row (.slice At TY.length ct) 42 3 TY.length (TY.flatMap Zak.enc)] (.tmp rfl) (.tmp rfl) (.tmp rfl) SOA ⟨Ao,co,At,ct,rfl,rfl⟩
  rw[if_neg T]at hr
  have d4:decide (y<u)=false:=dF_ T
  have ae:1<=k:=by
   rcases k with _|k
   ·split at hr <;> cases hr
   ·omega
  have d5:decide (50000<n+1)=false:=dF_ (by omega)
  have I:=r u (by omega)
  generalize Zbw a.rules z.eras u=X at hr I
  have d:=fun w' hR=>ZkX At ct ty X w' hR (by omega)
  unfold Zck at hr
  cases hX:ixL X ty 0 with
  | some j =>
   rw[hX]at hr d
   have hj:=(List.getElem?_eq_some_iff.1 (Zk9 ty 0 j hX).2).1
   rw[Nat.sub_zero]at hj
   dsimp only at hr
   obtain⟨V,W,Y⟩:=X
   simp only[Zak.enc,ixV]at I d
   have d6:decide ((j:Int)<0)=false:=dF_ (by omega)
   by_cases K:j=now
   ·rw[if_pos K]at hr
    have d7:(!decide ((j:Int)=(now:Int)))=false:=by rw[dT_ (by omega)];rfl
    repeat (first|(apply RL_pu;rfl;exact Zvk)|(refine js ?_;(first|(refine Zab c ?_)|(refine Zab I ?_)|(refine ZaH (fun w' C q=>d w' (ZaJ Zak.len (q.of (A := .row (.slice At ty.length ct) 42 3 ty.length (ty.flatMap Zak.enc)) cS_))) ?_)|(refine bx ?_;intro J)))|refine walk1 ?_)
    exact⟨⟨k,u,n+1,now,ty,out,At,ct,_,_,Ao,co,_,_⟩,OA,⟨⟨by dsimp only;omega,by dsimp only;omega⟩,hr,by dsimp only;omega,by dsimp only;omega,by dsimp only;omega,hnow,⟨rfl,rfl⟩,rfl,rfl⟩,SFA,SOA⟩
   ·rw[if_neg K]at hr
    have d7:(!decide ((j:Int)=(now:Int)))=true:=by rw[dF_ (by omega)];rfl
    repeat (first|(apply RL_pu;rfl;exact Zvk)|(refine js ?_;(first|(refine Zab c ?_)|(refine Zab I ?_)|(refine ZaH (fun w' C q=>d w' (ZaJ Zak.len (q.of (A := .row (.slice At ty.length ct) 42 3 ty.length (ty.flatMap Zak.enc)) cS_))) ?_)|(apply ZaC;rfl;rfl;(intro A' c';(focus repeat' constructor));(intro w' _ q;exact Zbr (q.of cS_));rfl;rfl;(simp only[maxLen];omega);omega;intro A' c' aa ab ac)|(refine bx ?_;intro J)))|refine walk1 ?_)
    exact⟨⟨k,u,n+1,j,ty,out++[(u,j)],At,ct,_,_,A',c',out.length+1,out.flatMap ZbP++ZbP (u,j)⟩,OA,⟨⟨by dsimp only;omega,by dsimp only;omega⟩,hr,by dsimp only;omega,by simp;omega,by dsimp only;omega,hj,⟨rfl,rfl⟩,by simp,(ZbB out (u,j))⟩,SFA,SOA⟩
  | none =>
   rw[hX]at hr d
   dsimp only at hr
   obtain⟨V,W,Y⟩:=X
   simp only[Zak.enc,ixV]at I d
   have d6:decide ((-1:Int)<0)=true:=rfl
   rw[if_neg (by omega)]at hr
   have d7:(!decide ((ty.length:Int)=(now:Int)))=true:=by rw[dF_ (by omega)];rfl
   repeat (first|(apply RL_pu;rfl;(first|exact Zvk|(apply ZfO (m:=(ty.length:Int));rfl;rfl;omega;(constructor <;> omega))))|(refine js ?_;(first|(refine Zab c ?_)|(refine Zab I ?_)|(refine ZaH (fun w' C q=>d w' (ZaJ Zak.len (q.of (A := .row (.slice At ty.length ct) 42 3 ty.length (ty.flatMap Zak.enc)) cS_))) ?_)|(apply ZaC;rfl;rfl;(intro A' c';(focus repeat' constructor));(intro w' _ q;exact Zbr (q.of cS_));rfl;rfl;(simp only[maxLen];omega);omega;intro A' c' aa ab ac)|(refine bx ?_;intro J)))|refine walk1 ?_)
   rename_i A5 c5 g1 g2 g3
   exact⟨⟨k,u,n+1,ty.length,ty++[⟨V,W,Y⟩],out++[(u,ty.length)],A5,c5,ty.length+1,ty.flatMap Zak.enc++Zak.enc ⟨V,W,Y⟩,A',c',out.length+1,out.flatMap ZbP++ZbP (u,ty.length)⟩,OA,⟨⟨by dsimp only;omega,by dsimp only;omega⟩,hr,by dsimp only;omega,by simp;omega,by simp;omega,by simp,⟨by simp,ZbB ty ⟨V,W,Y⟩⟩,by simp,ZbB out (u,ty.length)⟩,SFA,SOA⟩
end Go.Proofs.YtpipekfmecikmaaGreatDoor
namespace Go.Proofs.YtpipekfmecikmaaGreatDoor
open Go Go.RowKit Go.Wk Go.ChangeShapes Go.WideShapes Go.ChangeAt Tryz
section
variable {H:Type}{enc:TypeId × Value->H}{w:World}{sp:Nat->Bool}{held:Bool}
def _root_.Go.Wk.DZone.ok (z:DZone):Prop:=z.name.size<=maxLen/\∀ e∈z.eras,e.ok
def _root_.Go.Wk.DSource.ok (s:DSource):Prop:=(∀ r∈s.rules,r.ok)/\(∀ z∈s.zones,z.ok)/\(∀ l∈s.links,l.ok)/\∀ x∈s.shifts,x.size<=maxLen
theorem ZxO {n:Nat}{cs:List Value}{y:DataW H × List MemPlace}(h:DataW.trod enc prog w 0 sp held n 9 cs=some y):∃ d:ByteArray,cs=ZaR d/\d.size<=maxLen:=by
 obtain⟨x,e,_,b⟩:=DataW.trod_string underlying9 h
 exact⟨x,e,b⟩
end
open Go Go.RowKit Go.Wk
attribute [local irreducible] W RL Does Zaq Zai retQ Calls Pu Stp RD Qy Ay Zaj
def fewW (a:DSource):Bool:=a.zones.all (fun z=>decide (z.eras.length<=5))&&(decide (a.rules.length<=16)&&(decide (a.zones.length<=3)&&decide (a.links.length<=5)))
theorem Zvd {G:Prop}(h:G:=by(first|(apply Pu_indexAddr;rfl;rfl;omega;omega;exact hnz)|(apply Pu_loadON;rfl;exact hcell;rfl)|(apply Zav;rfl;rfl;exact b1))):G:=h
theorem ZrO (Ar Az Al As:Option Addr)(m g j cs:Nat)(a:DSource)(w:World)(r:Zam w Ar Az Al As m g j cs a) :
  Does prog 22 [srcV Ar Az Al As m g j cs a] w (fun v O=>v = .bool (fewW a)/\O=[]):=by
 have D:=r.zle
 have u:=r.zcap
 simp only[maxLen]at u
 obtain⟨R,i⟩:∃ R,fewW a=R:=⟨_,rfl⟩
 rw[i]
 unfold fewW at i
 refine Zaa func22 rfl rfl rfl rfl ?_
 repeat (first|(refine js ?_;(refine bx ?_;intro d))|refine walk ?_)
 refine Zah [(1,.pointer (some ⟨d,0,none⟩)),(6,.slice Az a.zones.length g),(7,.int .i64 a.zones.length)] [.blk d [.slice Ar a.rules.length m,.slice Az a.zones.length g,.slice Al a.links.length j,.slice As a.shifts.length cs] 27] (fun k:Nat=>[(8,.int .i64 k)]) (fun _=>[])
  (fun k=>k<=a.zones.length/\((a.zones.drop k).all (fun z=>decide (z.eras.length<=5))&&(decide (a.rules.length<=16)&&(decide (a.zones.length<=3)&&decide (a.links.length<=5))))=R) (fun k=>a.zones.length - k) 0 SFA SOA ⟨Nat.zero_le _,i⟩ ?_
 clear i
 rintro k ⟨F,c⟩
 repeat (first|(refine js ?_;(refine bx ?_;intro d))|refine walk ?_)
 refine Zaf rfl (fun f=>?_) (fun f=>?_)
 ·simp only[decide_eq_true_eq,Int.ofNat_lt]at f
  have t:=List.getElem?_eq_getElem f
  obtain⟨hnz,A,⟨Ae,E,e,rfl⟩,hcell⟩:=r.z k _ t
  rw[Zag f,List.all_cons]at c
  generalize a.zones[k]=z at *
  have C:=e.le
  have s:=e.cap
  simp only[maxLen]at s
  by_cases y:z.eras.length<=5
  ·have b1:decide ((5:Int)<(z.eras.length:Int))=false:=dF_ (by omega)
   rw[dT_ y,Bool.true_and]at c
   repeat (first|(apply RL_pu;rfl;exact Zvd)|(refine js ?_;(refine bx ?_;intro d))|refine walk1 ?_)
   exact⟨k+1,OA,⟨OA,c⟩,SFA,SOA⟩
  ·have b1:decide ((5:Int)<(z.eras.length:Int))=true:=dT_ (by omega)
   rw[dF_ y,Bool.false_and,Bool.false_and]at c
   subst c
   repeat (first|(apply RL_pu;rfl;exact Zvd)|(refine js ?_;(refine bx ?_;intro d))|refine walk1 ?_)
   exact rtA
 ·simp only[decide_eq_false_iff_not,Int.ofNat_lt]at f
  rw[List.drop_eq_nil_of_le (by omega),List.all_nil,Bool.true_and]at c
  have q:decide ((a.rules.length:Int)<=16)=decide (a.rules.length<=16):=decide_eq_decide.2 (by omega)
  have x:decide ((a.zones.length:Int)<=3)=decide (a.zones.length<=3):=decide_eq_decide.2 (by omega)
  have B:decide ((a.links.length:Int)<=5)=decide (a.links.length<=5):=decide_eq_decide.2 (by omega)
  generalize decide (a.rules.length<=16)=q1 at *
  generalize decide (a.zones.length<=3)=q2 at *
  generalize decide (a.links.length<=5)=q3 at *
  subst c
  cases q1 with
  | false =>
   repeat (first|(apply RL_pu;rfl;(apply Zbl;rfl;rfl;exact q))|refine walk1 ?_)
   exact rtA
  | true =>
   cases q2 with
   | false =>
    repeat (first|(apply RL_pu;rfl;(apply Zbl;rfl;rfl;first|exact q|exact x))|refine walk1 ?_)
    exact rtA
   | true =>
    repeat (first|(apply RL_pu;rfl;(apply Zbl;rfl;rfl;first|exact q|exact x|exact B))|refine walk1 ?_)
    exact rtA
theorem ZwZ {a:DSource}(h:fewW a=true):(∀ z∈a.zones,z.eras.length<=5)/\a.rules.length<=16/\a.zones.length<=3/\a.links.length<=5:=by
 unfold fewW at h
 simp only[Bool.and_eq_true,decide_eq_true_eq,List.all_eq_true]at h
 exact h
theorem ZCb {w:World}{Ar Az Al As:Option Addr}{g i f cs:Nat}{a:DSource}(l:LibW w)(k:Glob w)(j:Zam w Ar Az Al As g i f cs a)(b:a.ok)(h:ZcH a):Zdc w Ar Az Al As g i f cs a where
 L:=l
 G:=k
 A:=j
 S:=h
 V:=fun r m=>Zlc.1 (b.1 r m).2.2.2.2.2.2.1
 Z:=fun z d e c=>⟨Zlc.1 ((b.2.1 z d).2 e c).1,Zlc.1 ((b.2.1 z d).2 e c).2.2.1,Zlc.1 ((b.2.1 z d).2 e c).2.1,((h.zs z d).2.2 e c).2⟩
theorem Zvi {G:Prop}(h:G:=by(first|(apply ZbF;rfl;rfl;exact b1)|(apply Zbl;rfl;rfl;exact b2))):G:=h
theorem ZmV (t:Int)(w:World):Does prog 26 [.int .i64 t] w (fun v O=>v = .bool (tOk t)/\O=[]):=by
 obtain⟨p,b1⟩:∃ p,decide (-36028797018963968<=t)=p:=⟨_,rfl⟩
 obtain⟨q,b2⟩:∃ q,decide (t<=36028797018963968)=q:=⟨_,rfl⟩
 have a:tOk t=(p&&q):=by unfold tOk;rw[b1,b2]
 rw[a]
 refine Zaa func26 rfl rfl rfl rfl ?_
 cases p with
 | false =>
  repeat (first|(apply RL_pu;rfl;exact Zvi)|refine walk1 ?_)
  exact rtA
 | true =>
  repeat (first|(apply RL_pu;rfl;exact Zvi)|refine walk1 ?_)
  exact rtA
def alR2 (o:Option (List (Int × Nat) × List Zak))(e:Int)(v:Value)(O:List It):Prop:=match o with
 | some (out,ty)=>alO out ty v O
 | none=>alN e v O
theorem Zxc (Ar Az Al As:Option Addr)(f g d cs:Nat)(a:DSource)(b:ByteArray)(x y:Int)(w:World)(h:Zdc w Ar Az Al As f g d cs a)(C:a.zones.length+a.links.length<=1000000)(F:∀ z∈a.zones,z.eras.length<=5)(A:(tOk x&&tOk y)=true->y - x<=946708560) :
  ∃ o e,(∀ w',Bel w.heap.size w w'->Does prog 27 [srcV Ar Az Al As f g d cs a,.string b,.int .i64 x,.int .i64 y] w' (alR2 o e))/\∀ w',Bel w.heap.size w w'->Does prog 28 [srcV Ar Az Al As f g d cs a,.string b,.int .i64 x,.int .i64 y] w' (alR2 o e):=by
 cases ht:(tOk x&&tOk y) with
 | false=>exact⟨none,3,fun w' k=>Zux Ar Az Al As f g d cs a b x y w' ht,fun w' k=>Zrs Ar Az Al As f g d cs a b x y w' ht⟩
 | true =>
  have n:=A ht
  rw[Bool.and_eq_true]at ht
  have J:=ZdX.1 ht.1
  have K:=ZdX.1 ht.2
  by_cases r:(ZbV a b).2≠0
  ·exact⟨none,(ZbV a b).2,fun w' k=>Zxg Ar Az Al As f g d cs a b x y w' (h.up k) C ht.1 ht.2 r,fun w' k=>Zs6 Ar Az Al As f g d cs a b x y w' (h.up k) ht.1 ht.2 r⟩
  obtain⟨j,i,E,G,_⟩:=Zwe (Decidable.not_not.1 r)
  have m:=List.getElem?_eq_getElem G
  have c:=List.mem_of_getElem? m
  have s:=ZAt h j
  obtain⟨q,ty,l⟩:=ZCh j s c (x:=x) (y:=y) (by omega) (by omega) (by omega) n (F _ c)
  refine⟨some (q,ty),0,fun w' k=>?_,fun w' k=>Zs5 Ar Az Al As f g d cs a b x y i _ q ty w' (h.up k) j ht.1 ht.2 E m l⟩
  refine Zuy Ar Az Al As f g d cs a b w' (h.up k) C s E m x y (fun t=>t=x\/(x<=t/\t<=y)) (.inl rfl) (fun t u B H D v => .inr ⟨by omega,v⟩) (fun t B=>by omega) (fun t B=>?_) ht.1 ht.2 l
  obtain⟨o,I,p⟩:=Zx6 j s c (t:=t) (by omega) (by omega)
  refine⟨o,I,fun u D=>?_⟩
  subst D
  rcases p with⟨_,p⟩|⟨_,p⟩
  ·exact p.1
  ·cases p
theorem Zvh {G:Prop}(h:G:=by(apply Zav;rfl;rfl;first|exact b1|exact b2)):G:=h
theorem Zvg {G:Prop}(h:G:=by(first|exact Zvh|(apply Pu_sub';rfl;rfl;first|exact hsu|(constructor <;> omega)))):G:=h
theorem Zvf {G:Prop}(h:G:=by(first|exact Zvg|(apply Zap;rfl;rfl;exact dT_ rfl))):G:=h
set_option maxHeartbeats 0 in
theorem ZkN (Ar Az Al As:Option Addr)(K L J cs:Nat)(a:DSource)(c:ByteArray)(x y:Int)(w:World)(hL:LibW w)(hG:Glob w)(z:Zam w Ar Az Al As K L J cs a)(H:a.ok)(hS:ZcH a) :
  Does prog 6 [srcV Ar Az Al As K L J cs a,.string c,.int .i64 x,.int .i64 y] w (fun v O=>v = .bool true/\O=[]):=by
 have g:=fun w' (u:Bel w.heap.size w w')=>ZrO Ar Az Al As K L J cs a w' (z.up u)
 have t:=fun w' (u:Bel w.heap.size w w')=>ZlT w' (hL.up u) (hG.up u)
 have m:∀ w',Does prog 26 ([]++[.int .i64 x]++[]) w' (fun v O=>v = .bool (tOk x)/\O=[]):=fun w'=>ZmV x w'
 have r:∀ w',Does prog 26 ([]++[.int .i64 y]++[]) w' (fun v O=>v = .bool (tOk y)/\O=[]):=fun w'=>ZmV y w'
 obtain⟨b,T⟩:∃ b,fewW a=b:=⟨_,rfl⟩
 rw[T]at g
 cases b with
 | false =>
  refine Zaa func6 rfl rfl rfl rfl ?_
  repeat (first|refine und ?_|(refine js ?_;(first|(refine Zab g ?_)|(refine Zab t ?_)|(refine bx ?_;intro I)))|refine walk ?_)
  exact rtA
 | true =>
  have D:=ZCb hL hG z H hS
  have F:=ZwZ T
  by_cases C:60<(c.size:Int)
  ·have b1:decide ((60:Int)<(c.size:Int))=true:=dT_ C
   have b2:=b1
   refine Zaa func6 rfl rfl rfl rfl ?_
   repeat (first|refine und ?_|(apply RL_pu;rfl;exact Zvh)|(refine js ?_;(first|(refine Zab g ?_)|(refine Zab t ?_)|(refine bx ?_;intro I)))|refine walk1 ?_)
   exact rtA
  have b1:decide ((60:Int)<(c.size:Int))=false:=dF_ C
  by_cases d:(tOk x&&tOk y)=true/\946708560<y - x
  ·obtain⟨s,hf⟩:=d
   rw[Bool.and_eq_true]at s
   rw[s.1]at m
   rw[s.2]at r
   have Z:=ZdX.1 s.1
   have aa:=ZdX.1 s.2
   have b2:decide (946708560<y - x)=true:=dT_ hf
   refine Zaa func6 rfl rfl rfl rfl ?_
   repeat (first|(apply RL_pu;rfl;exact Zvg)|(refine js ?_;(first|(refine Zab g ?_)|(refine Zab t ?_)|(refine ZdT (fun w' _ _=>m w') ?_)|(refine ZdT (fun w' _ _=>r w') ?_)|(refine bx ?_;intro I)))|refine walk1 ?_)
   exact rtA
  obtain⟨o,e,M,N⟩:=Zxc Ar Az Al As K L J cs a c x y w D (by omega) F.1 (fun Y=>Int.not_lt.1 fun U=>d ⟨Y,U⟩)
  have b2:(tOk x&&tOk y)=true->decide (946708560<y - x)=false:=fun Y=>dF_ fun U=>d ⟨Y,U⟩
  obtain⟨p,V⟩:∃ p,tOk x=p:=⟨_,rfl⟩
  obtain⟨q,W⟩:∃ q,tOk y=q:=⟨_,rfl⟩
  have hsu:p=true->q=true -> -9223372036854775808<=y - x/\y - x<=9223372036854775807:=fun k1 k2=>by
   have Z:=ZdX.1 (V.trans k1)
   have aa:=ZdX.1 (W.trans k2)
   omega
  rw[V]at m b2
  rw[W]at r b2
  clear T D F hS H d V W
  cases o with
  | none =>
   change ∀ w',Bel w.heap.size w w'->Does _ _ _ w' (fun v O=>v = .tuple #[.slice none 0 0,.slice none 0 0,.int .i64 e]/\O=[]) at M
   change ∀ w',Bel w.heap.size w w'->Does _ _ _ w' (fun v O=>v = .tuple #[.slice none 0 0,.slice none 0 0,.int .i64 e]/\O=[]) at N
   have j:=fun w'=>ZeW none none 0 0 [] [] w' (Ztl _ _ _) (Ztl _ _ _)
   have i:=fun w'=>ZeX none none 0 0 [] [] w' (Ztl _ _ _) (Ztl _ _ _)
   rw[show decide (([]:List (Int × Nat))=[])=true from rfl]at j
   rw[show decide (([]:List Zak)=[])=true from rfl]at i
   refine Zaa func6 rfl rfl rfl rfl ?_
   rcases(by cases p <;> cases q <;> simp:p=false\/(p=true/\q=false)\/p=true/\q=true) with rfl|⟨rfl,rfl⟩|⟨rfl,rfl⟩
   rotate_left 2
   replace b2:=b2 rfl
   replace hsu:=hsu rfl rfl
   all_goals
    repeat (first|refine und ?_|(apply RL_pu;rfl;exact Zvf)|(refine js ?_;(first|(refine Zab g ?_)|(refine Zab t ?_)|(refine ZdT (fun w' _ _=>m w') ?_)|(refine ZdT (fun w' _ _=>r w') ?_)|(refine Zab M ?_)|(refine Zab N ?_)|(refine Zab (fun w' _=>j w') ?_)|(refine Zab (fun w' _=>i w') ?_)|(refine bx ?_;intro I)))|refine walk1 ?_)
    exact rtA
  | some X =>
   obtain⟨out,ty⟩:=X
   change ∀ w',Bel w.heap.size w w'->Does _ _ _ w' (alO out ty) at M
   change ∀ w',Bel w.heap.size w w'->Does _ _ _ w' (alO out ty) at N
   have j:=fun A B Q R w' z S=>ZeW A B Q R out out w' z S
   have i:=fun A B Q R w' z S=>ZeX A B Q R ty ty w' z S
   rw[dT_ (rfl:out=out)]at j
   rw[dT_ (rfl:ty=ty)]at i
   refine Zaa func6 rfl rfl rfl rfl ?_
   rcases(by cases p <;> cases q <;> simp:p=false\/(p=true/\q=false)\/p=true/\q=true) with rfl|⟨rfl,rfl⟩|⟨rfl,rfl⟩
   rotate_left 2
   replace b2:=b2 rfl
   replace hsu:=hsu rfl rfl
   all_goals
    repeat (first|refine und ?_|(apply RL_pu;rfl;exact Zvf)|(refine js ?_;(first|(refine Zab g ?_)|(refine Zab t ?_)|(refine ZdT (fun w' _ _=>m w') ?_)|(refine ZdT (fun w' _ _=>r w') ?_)|(apply Zad (h:=fun w' u _=>M w' u);rfl;rintro v O' ⟨A1,c1,A2,c2,rfl,rfl⟩)|(apply Zad (h:=fun w' u _=>N w' u);rfl;rintro v O' ⟨A3,c3,A4,c4,rfl,rfl⟩)|(refine ZaH (fun w' _ E=>j A1 A3 c1 c3 w' (ZaJ ZbP.len (E.of (A := .row (.slice A1 out.length c1) 59 2 out.length (out.flatMap ZbP)) cS_)) (ZaJ ZbP.len (E.of (A := .row (.slice A3 out.length c3) 59 2 out.length (out.flatMap ZbP)) cS_))) ?_)|(refine ZaH (fun w' _ E=>i A2 A4 c2 c4 w' (ZaJ Zak.len (E.of (A := .row (.slice A2 ty.length c2) 42 3 ty.length (ty.flatMap Zak.enc)) cS_)) (ZaJ Zak.len (E.of (A := .row (.slice A4 ty.length c4) 42 3 ty.length (ty.flatMap Zak.enc)) cS_))) ?_)|(refine bx ?_;intro I)))|refine walk1 ?_)
    exact rtA
