/- Parts of the proof. -/
import Derived.Test.YtpipekfmecikmaaGreatDoorR39
set_option maxHeartbeats 4000000
set_option linter.all false
namespace Go.Proofs.YtpipekfmecikmaaGreatDoor
open Go Go.RowKit Go.Wk
attribute [local irreducible] W RL Does Zaq Zai retQ Calls Pu Stp RD Qy Ay Zaj RLI WI Pre
def z27:List DEra:=[x27e,x27f]
theorem Zwz:accD ex27=none:=by decide +kernel
theorem ZmX:Zcd ex27 ⟨#[90]⟩=(((0:Nat):Int),0):=by decide +kernel
theorem ZtA:(Zcd ex27 ⟨#[88]⟩).2=9:=by decide +kernel
theorem Zz1:(ZfH ex27.rules z27).isSome=true:=by decide +kernel
theorem Zxu:ZaE x27e.til (Go.Wk.bsE x27e [])=0/\ZgE (endB x27e [])=true:=by decide +kernel
def ExSt (e:DEra)(x:Int × ByteArray):Prop:=((-1000000000<=x.1/\x.1<=1000000000)/\x.2.size<=1000000000)/\abE e x=0
theorem Ztz:ExSt x27e (0,ByteArray.empty)/\ExSt x27f (0,ByteArray.empty)/\∀ r∈ofB ex27.rules x27f.set,ExSt x27f (r.save,r.letter):=by
 unfold ExSt
 decide +kernel
theorem Zp1:(∀ r∈ofB ex27.rules x27f.set,(-1000000000<=r.save/\r.save<=1000000000)/\r.from_<=4611686018427387904/\-4611686018427387904<=r.to)/\(ofB ex27.rules x27f.set).length<=1000000:=by decide +kernel
theorem ZoE:MnOk ex27:=by
 have d:∀ z∈ex27.zones,z.eras=z27:=fun z d=>by rw[List.mem_singleton.1 d];rfl
 have f:∀ e∈z27,e=x27e\/e=x27f:=fun e f=>by simpa[z27] using f
 refine⟨Zwz,fun z a k e g l=>?_,fun z a=>by rw[d z a];decide,fun z a=>?_,fun z a e b=>?_,fun z a e b t=>?_⟩
 ·rw[d z a]at g l
  have i:k=0:=by simp only[z27,List.length_cons,List.length_nil]at l;omega
  subst i
  simp only[z27,List.getElem?_cons_zero,Option.some.injEq]at g
  subst g
  exact⟨⟨by decide,(fun r c=>by cases c),(fun r c=>by cases c),(fun r c=>by cases c)⟩,by decide,by decide,by decide,Zxu.1,Zxu.2⟩
 ·rw[d z a]
  exact Option.isSome_iff_exists.1 Zz1
 ·rw[d z a]at b
  rcases f e b with rfl|rfl
  ·exact⟨by decide,by decide,by decide,(fun h=>by cases h),by decide⟩
  ·exact⟨by decide,by decide,by decide,fun _=>⟨Zp1.2,fun r c=>(Zp1.1 r c).1,fun r c=>(Zp1.1 r c).2.1,fun r c=>(Zp1.1 r c).2.2⟩,by decide⟩
 ·rw[d z a]at b
  have j:ExSt e (Zbz ex27.rules e t):=by
   rcases f e b with rfl|rfl
   ·exact ZpF (P:=ExSt x27e) Ztz.1 (fun h=>by cases h) (fun h=>absurd rfl h) t
   ·exact ZpF (P:=ExSt x27f) Ztz.2.1 (fun h=>by cases h) (fun _ _=>Ztz.2.2) t
  exact⟨j.1.1,j.1.2,j.2⟩
def w27:List (Int × Int):=[(0,57715200+7200),(57715200+7200,69811200+7200),(57715200+7200 - 1,57715200+7200),(-36028797018963968,-37238400)]
def Zmf (x:Int × Int):List Value:=[.int .i64 x.1,.int .i64 x.2]
theorem Zmf.len (x:Int × Int):(Zmf x).length=2:=rfl
theorem ZAW:∀ x∈w27,tOk x.1=true/\nxD ex27.rules z27 x.1=some x.2/\(evtD (ruEr ex27.rules (eAt ex27.rules z27 x.1)) (eAt ex27.rules z27 x.1).off x.1).isSome=true:=by decide +kernel
def g27:List Int:=[-36028797018963968,-37238400,57722400,69818400,89168400]
theorem Ztr:∀ t∈g27,(-1000000000000000000<=t/\t<=1000000000000000000)/\((evtD (ruEr ex27.rules (eAt ex27.rules z27 t)) (eAt ex27.rules z27 t).off t).any fun o=>o.all fun u=>decide (t<u))=true/\((nxD ex27.rules z27 t).all fun u=>decide (94694400<u)||decide (u∈g27))=true:=by decide +kernel
def o27:List (Int × Nat):=[(-37238400,1),(57722400,2),(69818400,1),(89168400,2)]
def t27:List Zaw:=[⟨0,false,x27G⟩,⟨3600,false,x27I⟩,⟨0,true,x27G⟩]
theorem Zwy:allD ex27.rules z27 (-36028797018963968) 94694400=some (o27,t27):=by decide +kernel
def y27:List (Int × Nat):=[(-37238400,1),(57715200+7200,2),(69811200+7200,1),(89164800+3600,2)]
theorem Zdm.len (x:Int × Nat):(Zdm x).length=2:=rfl
theorem Zaw.len (x:Zaw):(Zaw.enc x).length=3:=rfl
theorem ZDk (A:Option Addr)(b c:Nat)(w:World)(a:RdSl w A c Zdm 2 o27)(d:RdSl w (some ⟨b,0,none⟩) 4 Zdm 2 y27):Does Tryz.prog 29 [.slice A o27.length c,.slice (some ⟨b,0,none⟩) 4 4] w (fun v O=>v = .bool true/\O=[]):=by
 have:=Zm2 A (some ⟨b,0,none⟩) c 4 o27 y27 w a d
 rwa[show decide (o27=y27)=true by decide]at this
theorem ZDl (A:Option Addr)(b c:Nat)(w:World)(a:RdSl w A c Zaw.enc 3 t27)(d:RdSl w (some ⟨b,0,none⟩) 3 Zaw.enc 3 t27):Does Tryz.prog 30 [.slice A t27.length c,.slice (some ⟨b,0,none⟩) 3 3] w (fun v O=>v = .bool true/\O=[]):=by
 have:=Zm3 A (some ⟨b,0,none⟩) c 3 t27 t27 w a d
 rwa[show decide (t27=t27)=true from decide_eq_true rfl]at this
section
variable (br bz bl:Nat)(w:World)(hL:LibW w)(hG:Glob w)(hA:Zak w (some ⟨br,0,none⟩) (some ⟨bz,0,none⟩) (some ⟨bl,0,none⟩) none 3 1 1 0 ex27)
include hL hG hA
theorem ZtD:ZdQ w (some ⟨br,0,none⟩) (some ⟨bz,0,none⟩) (some ⟨bl,0,none⟩) none 3 1 1 0 ex27:=ZDn hL hG (Bel.refl _ w) (show okD ex27=true by decide +kernel) hA
theorem ZtB (x:Int × Int)(e:x∈w27):Does Tryz.prog 24 [srcV (some ⟨br,0,none⟩) (some ⟨bz,0,none⟩) (some ⟨bl,0,none⟩) none 3 1 1 0 ex27,.string ⟨#[90]⟩,.int .i64 x.1] w (fun v O=>v = .tuple #[.int .i64 x.2,.bool true,.int .i64 0]/\O=[]):=by
 obtain⟨a,b,c⟩:=ZAW x e
 obtain⟨o,d⟩:=Option.isSome_iff_exists.1 c
 have:=Zmk (some ⟨br,0,none⟩) (some ⟨bz,0,none⟩) (some ⟨bl,0,none⟩) none 3 1 1 0 ex27 ⟨#[90]⟩ x.1 0 ⟨⟨#[90]⟩,z27⟩ o w (ZtD br bz bl w hL hG hA) (by decide) ZoE a ZmX rfl (ZoE.wk List.mem_cons_self) d
 dsimp only at this
 rw[b]at this
 exact this
theorem ZrA:Does Tryz.prog 24 [srcV (some ⟨br,0,none⟩) (some ⟨bz,0,none⟩) (some ⟨bl,0,none⟩) none 3 1 1 0 ex27,.string ⟨#[88]⟩,.int .i64 0] w (fun v O=>v = .tuple #[.int .i64 0,.bool false,.int .i64 9]/\O=[]):=by
 have:=Zml (some ⟨br,0,none⟩) (some ⟨bz,0,none⟩) (some ⟨bl,0,none⟩) none 3 1 1 0 ex27 ⟨#[88]⟩ 0 w (ZtD br bz bl w hL hG hA) (by decide) (by decide) (by rw[ZtA];decide)
 rwa[ZtA]at this
theorem ZtC:Does Tryz.prog 27 [srcV (some ⟨br,0,none⟩) (some ⟨bz,0,none⟩) (some ⟨bl,0,none⟩) none 3 1 1 0 ex27,.string ⟨#[90]⟩,.int .i64 (-36028797018963968),.int .i64 94694400] w (alO o27 t27):=by
 refine ZAh (some ⟨br,0,none⟩) (some ⟨bz,0,none⟩) (some ⟨bl,0,none⟩) none 3 1 1 0 ex27 ⟨#[90]⟩ w (ZtD br bz bl w hL hG hA) (by decide) ZoE (i:=0) (z:=⟨⟨#[90]⟩,z27⟩) ZmX rfl (-36028797018963968) 94694400 (fun t=>t∈g27) (by decide) (fun t u a _ b c=>?_) (fun t a=>(Ztr t a).1) (fun t a=>?_) (by decide) (by decide) Zwy
 ·have h:=(Ztr t a).2.2
  rw[show nxD ex27.rules z27 t=some u from b,Option.all_some,Bool.or_eq_true,decide_eq_true_eq,decide_eq_true_eq]at h
  rcases h with h|h
  ·omega
  ·exact h
 ·have h:=(Ztr t a).2.1
  cases he:evtD (ruEr ex27.rules (eAt ex27.rules z27 t)) (eAt ex27.rules z27 t).off t with
  | none=>rw[he]at h;cases h
  | some o =>
   rw[he]at h
   refine⟨o,rfl,fun u b=>?_⟩
   subst b
   simpa using h
end
theorem ZCi {G:Prop}(h:G:=by(apply ZfC;rfl;rfl;(focus repeat (first|exact Nf.nil|apply Nf.cons)))):G:=h
theorem ZCh {G:Prop}(h:G:=by(first|(apply Pu_indexAddr;rfl;rfl;omega;omega;simp)|(apply Zbv;rfl;rfl;decide;decide)|(apply Zgn (cs:=[.int .i64 x1,.int .i64 x2]);rfl;rfl;(intro w' _ hO;exact((Zop (c:=4) (l:=w27) (enc:=Zmf) (t:=114) Zmf.len (Nat.le_refl 4) (by decide) (hO.of (A := .blk bq _ _) (by repeat' constructor))).rd i _ hx).2))|(apply Zal;rfl;rfl;first|exact e3|exact e1))):G:=h
theorem ZCg {G:Prop}(h:G:=by(apply Zao;rfl;rfl;exact decide_eq_true rfl)):G:=h
set_option maxHeartbeats 4000000 in
set_option maxRecDepth 20000 in
theorem ZlC (w:World)(s:LibW w)(g:Glob w):Does Tryz.prog 23 [] w (fun v O=>v = .bool true/\O=[]):=by
 have I:=fun w' (d:Bel w.heap.size w w')=>ZdL 1968 10 27 (-431) (-37238400) w' (g.up d) (by decide +kernel) (by decide +kernel) rfl (by decide)
 have J:=fun w' (d:Bel w.heap.size w w')=>ZdL 1971 10 31 668 57715200 w' (g.up d) (by decide +kernel) (by decide +kernel) rfl (by decide)
 have K:=fun w' (d:Bel w.heap.size w w')=>ZdL 1972 3 19 808 69811200 w' (g.up d) (by decide +kernel) (by decide +kernel) rfl (by decide)
 have L:=fun w' (d:Bel w.heap.size w w')=>ZdL 1972 10 29 1032 89164800 w' (g.up d) (by decide +kernel) (by decide +kernel) rfl (by decide)
 have N:=fun w' (d:Bel w.heap.size w w')=>ZdL 1973 1 1 1096 94694400 w' (g.up d) (by decide +kernel) (by decide +kernel) rfl (by decide)
 have e3:(!decide ((0:Int)=0))=false:=rfl
 have r:=fun(f bz e:Nat) w' (d:Bel w.heap.size w w') p=>ZtB f bz e w' (s.up d) (g.up d) p
 refine Zaa Tryz.func23 rfl rfl rfl rfl ?_
 repeat (first|(apply RL_pu;rfl;exact ZCi)|refine walk1 ?_|(refine jg ?_;(try intro F);(first|(apply Zad (h:=fun w' _ _=>Zje w');rfl;rintro v O' ⟨f,bz,e,S,rfl,rfl⟩)|(refine Zac I ?_)|(refine Zac J ?_)|(refine Zac K ?_)|(refine Zac L ?_)|(refine bx ?_;intro m));first|refine⟨_,EndsA,QFWaI0,?_⟩|refine fin ?_))
 generalize m=bq
 rename_i D
 refine Zah [(1,.pointer (some ⟨D,0,none⟩)),(2,.int .i64 (-37238400)),(3,.int .i64 (57715200+7200)),(4,.int .i64 (69811200+7200)),(5,.int .i64 (89164800+3600)),(39,.slice (some ⟨bq,0,none⟩) 4 4),(40,.int .i64 4)] [.blk D [.slice (some ⟨f,0,none⟩) 3 3,.slice (some ⟨bz,0,none⟩) 1 1,.slice (some ⟨e,0,none⟩) 1 1,.slice none 0 0] 27,.blk bq (w27.flatMap Zmf) 114,.fact S (fun w=>Zak w (some ⟨f,0,none⟩) (some ⟨bz,0,none⟩) (some ⟨e,0,none⟩) none 3 1 1 0 ex27)]
  (fun i:Nat=>[(41,.int .i64 i)]) (fun _=>[]) (fun i=>i<=4) (fun i=>4 - i) 0 SFA SOA (Nat.zero_le 4) ?_
 intro i Q
 repeat (refine walk ?_)
 refine Zaf rfl (fun M=>?_) (fun M=>?_)
 ·have y:i<4:=by
   have:=of_decide_eq_true M
   omega
  obtain⟨x,hx⟩:∃ x,w27[i]?=some x:=⟨_,List.getElem?_eq_getElem y⟩
  have j:=List.mem_of_getElem? hx
  have q:=fun w' d p=>r f bz e w' d p x j
  clear j
  obtain⟨x1,x2⟩:=x
  dsimp only at q
  have e1:(!decide (x2=x2))=false:=by rw[decide_eq_true rfl];rfl
  repeat (first|(apply RL_pu;rfl;exact ZCh)|refine walk1 ?_|(refine jg ?_;(try intro F);(first|(refine ZaJ (fun w' d hO=>q w' d (Zbh (hO.of (A := .fact S _) (by repeat' constructor)))) ?_)|(refine bx ?_;intro m));first|refine⟨_,EndsA,QFWaI1,?_⟩|refine fin ?_))
  exact⟨i+1,by omega,by omega,SFA,SOA⟩
 ·have hal:=fun w' (d:Bel w.heap.size w w') p=>ZtC f bz e w' (s.up d) (g.up d) p
  have z:=fun w' (d:Bel w.heap.size w w') p=>ZrA f bz e w' (s.up d) (g.up d) p
  have u:=fun w'=>ZjK (some ⟨f,0,none⟩) (some ⟨bz,0,none⟩) (some ⟨e,0,none⟩) none 3 1 1 0 ex27 ⟨#[90]⟩ 36028797018963969 w' (by decide)
  clear r I J K L
  repeat (first|refine walk ?_|(refine jg ?_;(try intro F);(first|(apply Zad (h:=fun w' d hO=>hal w' d (Zbh (hO.of (A := .fact S _) (by repeat' constructor))));rfl;rintro v O' ⟨Ao,E,At,H,rfl,rfl⟩)|(refine Zac N ?_)|(refine Zac (fun w' _=>u w') ?_)|(refine ZaJ (fun w' d hO=>z w' d (Zbh (hO.of (A := .fact S _) (by repeat' constructor)))) ?_)|(refine bx ?_;intro m));refine fin ?_)|(refine jn ?_;(try intro F);((apply Zam;exact PuA));refine fin ?_))
  generalize m=bT
  repeat (first|refine walk ?_|(refine jg ?_;(try intro F);(first|(refine ZaJ (fun w' _ hO=>ZDk Ao bT E w' (ZaO Zdm.len (hO.of (A := .row (.slice Ao o27.length E) _ _ _ _) (by repeat' constructor))) (Zop (c:=4) (l:=y27) (enc:=Zdm) (t:=59) Zdm.len (Nat.le_refl 4) (by decide) (hO.of (A := .blk bT _ _) (by repeat' constructor)))) ?_)|(refine bx ?_;intro m));refine fin ?_))
  generalize m=bL
  repeat (first|(apply RL_pu;rfl;exact ZCg)|refine walk1 ?_|(refine jg ?_;(try intro F);(first|(refine ZaJ (fun w' _ hO=>ZDl At bL H w' (ZaO Zaw.len (hO.of (A := .row (.slice At t27.length H) _ _ _ _) (by repeat' constructor))) (Zop (c:=3) (l:=t27) (enc:=Zaw.enc) (t:=42) Zaw.len (Nat.le_refl 3) (by decide) (hO.of (A := .blk bL _ _) (by repeat' constructor)))) ?_)|(refine bx ?_;intro m));first|refine⟨_,EndsA,QFWaI2,?_⟩|refine fin ?_))
  exact rtA
end Go.Proofs.YtpipekfmecikmaaGreatDoor
namespace Go.Proofs.YtpipekfmecikmaaGreatDoor
open Go Go.RowKit Go.Wk Go.ChangeShapes Go.WideShapes Go.ChangeAt
section
variable {H:Type}{enc:TypeId × Value->H}{w:World}{sp:Nat->Bool}{held:Bool}
def _root_.Go.Wk.DZone.ok (z:DZone):Prop:=z.name.size<=maxLen/\∀ e∈z.eras,e.ok
def _root_.Go.Wk.DSource.ok (s:DSource):Prop:=(∀ r∈s.rules,r.ok)/\(∀ z∈s.zones,z.ok)/\(∀ l∈s.links,l.ok)/\∀ x∈s.shifts,x.size<=maxLen
theorem Zxh {n:Nat}{cs:List Value}{y:DataW H × List MemPlace}(h:DataW.trod enc Tryz.prog w 0 sp held n 9 cs=some y):∃ d:ByteArray,cs=ZaR d/\d.size<=maxLen:=by
 obtain⟨x,e,_,b⟩:=DataW.trod_string Tryz.underlying9 h
 exact⟨x,e,b⟩
end
open Go Go.RowKit Go.Wk
attribute [local irreducible] W RL Does Zaq Zai retQ Calls Pu Stp RD Qy Ay Zaj
def fewW (a:DSource):Bool:=a.zones.all (fun z=>decide (z.eras.length<=5))&&(decide (a.rules.length<=16)&&(decide (a.zones.length<=3)&&decide (a.links.length<=5)))
theorem ZuN {G:Prop}(h:G:=by(first|(apply Pu_indexAddr;rfl;rfl;omega;omega;exact hnz)|(apply Pu_loadON;rfl;exact hcell;rfl)|(apply Zat;rfl;rfl;exact b1))):G:=h
theorem Zry (Ar Az Al As:Option Addr)(m g j cs:Nat)(a:DSource)(w:World)(r:Zak w Ar Az Al As m g j cs a) :
  Does Tryz.prog 22 [srcV Ar Az Al As m g j cs a] w (fun v O=>v = .bool (fewW a)/\O=[]):=by
 have D:=r.zle
 have u:=r.zcap
 simp only[maxLen]at u
 obtain⟨R,i⟩:∃ R,fewW a=R:=⟨_,rfl⟩
 rw[i]
 unfold fewW at i
 refine Zaa Tryz.func22 rfl rfl rfl rfl ?_
 repeat (first|(refine js ?_;(refine bx ?_;intro d))|refine walk ?_)
 refine Zah [(1,.pointer (some ⟨d,0,none⟩)),(6,.slice Az a.zones.length g),(7,.int .i64 a.zones.length)] [.blk d [.slice Ar a.rules.length m,.slice Az a.zones.length g,.slice Al a.links.length j,.slice As a.shifts.length cs] 27] (fun k:Nat=>[(8,.int .i64 k)]) (fun _=>[])
  (fun k=>k<=a.zones.length/\((a.zones.drop k).all (fun z=>decide (z.eras.length<=5))&&(decide (a.rules.length<=16)&&(decide (a.zones.length<=3)&&decide (a.links.length<=5))))=R) (fun k=>a.zones.length - k) 0 SFA SOA ⟨Nat.zero_le _,i⟩ ?_
 clear i
 rintro k ⟨F,c⟩
 repeat (first|(refine js ?_;(refine bx ?_;intro d))|refine walk ?_)
 refine Zaf rfl (fun f=>?_) (fun f=>?_)
 ·simp only[decide_eq_true_eq,Int.ofNat_lt]at f
  have t:=List.getElem?_eq_getElem f
  obtain⟨hnz,A,⟨Ae,E,e,rfl⟩,hcell⟩:=r.z k _ t
  rw[Zag f,List.all_cons]at c
  generalize a.zones[k]=z at *
  have C:=e.le
  have s:=e.cap
  simp only[maxLen]at s
  by_cases y:z.eras.length<=5
  ·have b1:decide ((5:Int)<(z.eras.length:Int))=false:=decide_eq_false (by omega)
   rw[decide_eq_true y,Bool.true_and]at c
   repeat (first|(apply RL_pu;rfl;exact ZuN)|(refine js ?_;(refine bx ?_;intro d))|refine walk1 ?_)
   exact⟨k+1,OA,⟨OA,c⟩,SFA,SOA⟩
  ·have b1:decide ((5:Int)<(z.eras.length:Int))=true:=decide_eq_true (by omega)
   rw[decide_eq_false y,Bool.false_and,Bool.false_and]at c
   subst c
   repeat (first|(apply RL_pu;rfl;exact ZuN)|(refine js ?_;(refine bx ?_;intro d))|refine walk1 ?_)
   exact rtA
 ·simp only[decide_eq_false_iff_not,Int.ofNat_lt]at f
  rw[List.drop_eq_nil_of_le (by omega),List.all_nil,Bool.true_and]at c
  have q:decide ((a.rules.length:Int)<=16)=decide (a.rules.length<=16):=decide_eq_decide.2 (by omega)
  have x:decide ((a.zones.length:Int)<=3)=decide (a.zones.length<=3):=decide_eq_decide.2 (by omega)
  have B:decide ((a.links.length:Int)<=5)=decide (a.links.length<=5):=decide_eq_decide.2 (by omega)
  generalize decide (a.rules.length<=16)=q1 at *
  generalize decide (a.zones.length<=3)=q2 at *
  generalize decide (a.links.length<=5)=q3 at *
  subst c
  cases q1 with
  | false =>
   repeat (first|(apply RL_pu;rfl;(apply Zbu;rfl;rfl;exact q))|refine walk1 ?_)
   exact rtA
  | true =>
   cases q2 with
   | false =>
    repeat (first|(apply RL_pu;rfl;(apply Zbu;rfl;rfl;first|exact q|exact x))|refine walk1 ?_)
    exact rtA
   | true =>
    repeat (first|(apply RL_pu;rfl;(apply Zbu;rfl;rfl;first|exact q|exact x|exact B))|refine walk1 ?_)
    exact rtA
theorem Zwv {a:DSource}(h:fewW a=true):(∀ z∈a.zones,z.eras.length<=5)/\a.rules.length<=16/\a.zones.length<=3/\a.links.length<=5:=by
 unfold fewW at h
 simp only[Bool.and_eq_true,decide_eq_true_eq,List.all_eq_true]at h
 exact h
theorem Zrk (Ar Az Al As:Option Addr)(m n l cs:Nat)(a:DSource)(b:ByteArray)(t:Int)(w:World)(h:ZdQ w Ar Az Al As m n l cs a)(z:a.zones.length+a.links.length<=1000000) :
  Does Tryz.prog 24 [srcV Ar Az Al As m n l cs a,.string b,.int .i64 t] w (fun v O=>v = .tuple #[.int .i64 ((nxR a b t).1.getD 0),.bool (nxR a b t).1.isSome,.int .i64 (nxR a b t).2]/\O=[]):=by
 unfold nxR
 by_cases q:tOk t=false
 ·rw[if_pos q]
  exact ZjK Ar Az Al As m n l cs a b t w q
 rw[if_neg q]
 have j:tOk t=true:=by simpa using q
 have D:=ZnQ.1 j
 by_cases p:(Zcd a b).2≠0
 ·rw[if_pos p]
  exact Zml Ar Az Al As m n l cs a b t w h z j p
 rw[if_neg p]
 obtain⟨d,i,B,C,_⟩:=Zpr (Decidable.not_not.1 p)
 have g:=List.getElem?_eq_getElem C
 rw[ZrZ B g]
 have c:=List.mem_of_getElem? g
 obtain⟨r,x,e,o,A⟩:=Zsk h d c (t:=t) (by omega)
 have s:eAt a.rules a.zones[i].eras t=e:=by
  unfold eAt
  rw[List.getD_eq_getElem?_getD,A.at_]
  rfl
 refine Zmk Ar Az Al As m n l cs a b t i _ o w h z (ZA9 h d) j B g ⟨fun f u=>?_,fun f u=>?_⟩ (by rw[s];exact A.ev)
 ·obtain⟨k,y⟩:=List.mem_iff_getElem?.1 u
  exact(Zi0 d c y).rsm h.S.nr
 ·obtain⟨k,y⟩:=List.mem_iff_getElem?.1 u
  have:=(Zi0 d c y).off
  omega
theorem ZBz {w:World}{Ar Az Al As:Option Addr}{g i f cs:Nat}{a:DSource}(l:LibW w)(k:Glob w)(j:Zak w Ar Az Al As g i f cs a)(b:a.ok)(h:ZcA a):ZdQ w Ar Az Al As g i f cs a where
 L:=l
 G:=k
 A:=j
 S:=h
 V:=fun r m=>ZkW.1 (b.1 r m).2.2.2.2.2.2.1
 Z:=fun z d e c=>⟨ZkW.1 ((b.2.1 z d).2 e c).1,ZkW.1 ((b.2.1 z d).2 e c).2.2.1,ZkW.1 ((b.2.1 z d).2 e c).2.1,((h.zs z d).2.2 e c).2⟩
theorem ZuM {G:Prop}(h:G:=by(first|(apply Zao;rfl;rfl;exact decide_eq_true rfl)|(apply Zat;rfl;rfl;exact b1))):G:=h
theorem Zjc (Ar Az Al As:Option Addr)(m p j cs:Nat)(a:DSource)(c:ByteArray)(t:Int)(w:World)(D:LibW w)(C:Glob w)(B:Zak w Ar Az Al As m p j cs a)(s:a.ok)(E:ZcA a) :
  Does Tryz.prog 5 [srcV Ar Az Al As m p j cs a,.string c,.int .i64 t] w (fun v O=>v = .bool true/\O=[]):=by
 have d:=fun w' (g:Bel w.heap.size w w')=>Zry Ar Az Al As m p j cs a w' (B.up g)
 have f:=fun w' (g:Bel w.heap.size w w')=>ZlC w' (D.up g) (C.up g)
 obtain⟨b,z⟩:∃ b,fewW a=b:=⟨_,rfl⟩
 rw[z]at d
 cases b with
 | false =>
  refine Zaa Tryz.func5 rfl rfl rfl rfl ?_
  repeat (first|(refine js ?_;(first|(refine Zac d ?_)|(refine Zac f ?_)|(refine bx ?_;intro u)))|refine walk ?_)
  exact rtA
 | true =>
  have i:=ZBz D C B s E
  have A:=Zwv z
  have x:=fun w' (g:Bel w.heap.size w w')=>Zrk Ar Az Al As m p j cs a c t w' (i.up g) (by omega)
  have y:=fun w' (g:Bel w.heap.size w w')=>Zl7 Ar Az Al As m p j cs a c t w' (i.up g)
  clear z i A E s
  generalize nxR a c t=X at *
  obtain⟨o,e⟩:=X
  dsimp only at x y
  generalize o.getD 0=n at *
  generalize o.isSome=q at *
  refine Zaa Tryz.func5 rfl rfl rfl rfl ?_
  by_cases r:60<(c.size:Int)
  ·have b1:decide ((60:Int)<(c.size:Int))=true:=decide_eq_true r
   repeat (first|(apply RL_pu;rfl;(apply Zat;rfl;rfl;exact b1))|(refine js ?_;(first|(refine Zac d ?_)|(refine Zac f ?_)|(refine bx ?_;intro u)))|refine walk1 ?_)
   exact rtA
  ·have b1:decide ((60:Int)<(c.size:Int))=false:=decide_eq_false r
   cases q with
   | false =>
    repeat (first|(apply RL_pu;rfl;exact ZuM)|(refine js ?_;(first|(refine Zac d ?_)|(refine Zac x ?_)|(refine Zac y ?_)|(refine Zac f ?_)|(refine bx ?_;intro u)))|refine walk1 ?_)
    exact rtA
   | true =>
    repeat (first|(apply RL_pu;rfl;exact ZuM)|(refine js ?_;(first|(refine Zac d ?_)|(refine Zac x ?_)|(refine Zac y ?_)|(refine Zac f ?_)|(refine bx ?_;intro u)))|refine walk1 ?_)
    exact rtA
end Go.Proofs.YtpipekfmecikmaaGreatDoor
