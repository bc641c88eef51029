/- Parts of the proof. -/
import Derived.Test.YtdlmhmmhdbbliaaGreatDoorV53
import Derived.Test.YtdlmhmmhdbbliaaGreatDoorV09
import Derived.Maps.RangeRun
import Derived.ChangeMaps4
import Derived.Test.YtdlmhmmhdbbliaaGreatDoorV15
import Derived.Test.YtdlmhmmhdbbliaaGreatDoorV14
import Derived.Test.YtdlmhmmhdbbliaaGreatDoorV16
import Derived.OrdersIn
set_option maxHeartbeats 4000000
set_option linter.unusedVariables false
set_option linter.unusedSimpArgs false
namespace Go.Proofs.YtdlmhmmhdbbliaaGreatDoor
open Go Go.RowKit Go.Wk
attribute [local irreducible] W RL Does Zau Zak retQ Calls Pu Stp RD Qy Ay Zaj
theorem ZpP {l:List Zab}{e:Zad}{r:Zab}(h:l[e.rule.toNat]?=some r):ruE l e=r:=by
 unfold ruE
 rw[List.getD_eq_getElem?_getD,h];rfl
def stV (x:Int × ByteArray):Value := .agg #[.int .i64 x.1,.string x.2]
theorem Zvb {G:Prop}(h:G:=by(first|exact PuI|(apply Pu_loadO1;rfl;first|exact hca 9 _ rfl|exact hca 10 _ rfl))):G:=h
theorem ZxP {G:Prop}(h:G:=by first|(apply Qy_y;rfl;exact Zvb)|exact QyA):G:=h
theorem ZA1 {G:Prop}(h:G:=by repeat (first|exact QF.nil|(apply QF.mk;rfl;rfl;decide +kernel;exact ZxP))):G:=h
theorem ZcV (A:Option Addr)(c:Nat)(l:List Zab)(e:Zad)(w:World)(hA:RdSl w A c Zab.enc 11 l)(he:0<=e.rule/\e.rule<l.length) :
  Does Tryz.prog 220 [.slice A l.length c,.agg e.enc.toArray] w (fun v O=>v=stV (behS l e)/\O=[]):=by
 obtain⟨r,hr⟩:∃ r,l[e.rule.toNat]?=some r:=⟨_,List.getElem?_eq_getElem (by omega)⟩
 have hle:=hA.le
 have hcp:=hA.cap
 simp only[maxLen]at hcp
 unfold behS
 rw[ZpP hr]
 obtain⟨hna,hca⟩:=hA.rd _ _ hr
 obtain⟨y,q,n⟩:=e
 dsimp only at he hr hca
 show Does _ _ [_,.agg #[.int .i64 y,.int .i64 q,.int .i64 n]] w _
 refine Zaa Tryz.func220 rfl rfl rfl rfl ?_
 repeat (first|(apply RL_pu;rfl;exact Zvb)|(apply RD_Q;rfl;rfl;decide +kernel;rfl;rfl;exact ZxP)|refine walk1 ?_|(refine jn ?_;(try intro F);(first|(refine bx ?_;intro bk)|(refine stA ?_)|(apply Zae;first|exact Zvb|exact PuA));first|refine⟨_,EndsA,ZA1,?_⟩|refine fin ?_)|(apply RD_W;rfl;intro bk))
 exact ret_1 _ [] (.cellB rfl (by repeat' constructor) rfl rfl) .nil ⟨rfl,rfl⟩
theorem ZoW (A:Option Addr)(c:Nat)(l:List Zab)(w:World)(hA:RdSl w A c Zab.enc 11 l):Does Tryz.prog 294 [.slice A l.length c] w (fun v O=>v = .int .i64 (max (Zah l) (-10800))/\O=[]):=by
 have hle:=hA.le
 have hcp:=hA.cap
 unfold maxLen at hcp
 generalize hres:Zah l=res
 unfold Zah at hres
 have hmx:(if res < -10800 then -10800 else res)=max res (-10800):=by split <;> omega
 refine Zaa Tryz.func294 rfl rfl rfl rfl ?_
 repeat (first|(refine js ?_;(refine bx ?_;intro bk))|refine walk ?_)
 refine Zao [(6,_),(7,_)] [] (fun g:Nat × Int=>[(3,.int .i64 g.2),(8,.int .i64 g.1)]) (fun _=>[]) (fun g=>g.1<=l.length/\(l.drop g.1).foldl (fun m r=>min m r.save) g.2=res) (fun g=>l.length - g.1) (0,0) SFA SOA ⟨Nat.zero_le _,hres⟩ ?_
 rintro⟨k,m⟩ ⟨hk,hi⟩
 dsimp only at hk hi ⊢
 repeat (first|(refine js ?_;(refine bx ?_;intro bk))|refine walk ?_)
 refine Zaf rfl (fun h=>?_) (fun h=>?_)
 ·have hlt:k<l.length:=by simpa using h
  obtain⟨hna,hca⟩:=hA.rd k _ (List.getElem?_eq_getElem hlt)
  rw[Zap hlt]at hi
  generalize l[k]=r at *
  obtain⟨nm,fr,to,mo,⟨dk,dw,dd⟩,⟨cs,cb⟩,sv,le⟩:=r
  simp only[Zab.enc,List.foldl_cons]at hca hi
  repeat (first|(apply RL_pu;rfl;(first|exact PuI|(apply Ze2;rfl;rfl)))|(refine js ?_;(refine bx ?_;intro bk))|refine walk1 ?_)
  rw[show(if sv<m then sv else m)=min m sv by split <;> omega]
  exact⟨(k+1,min m sv),OA,⟨OA,hi⟩,SFA,.nil⟩
 ·have hkl:k=l.length:=by
   have:=of_decide_eq_false h
   omega
  subst hkl
  rw[List.drop_length]at hi
  obtain rfl:m=res:=hi
  repeat (first|(apply RL_pu;rfl;(apply Zf9;rfl;rfl;exact hmx))|(refine js ?_;(refine bx ?_;intro bk))|refine walk1 ?_)
  exact rtA
theorem Zyk {G:Prop}(h:G:=by(first|(apply ZaS;rfl;rfl;exact b1)|(apply ZaC;rfl;rfl;exact b2))):G:=h
theorem Zv7 (a b:Int)(ha : -4000000000000000000<=a/\a<=4000000000000000000)(hb : -4000000000000000000<=b/\b<=4000000000000000000)(w:World):Does Tryz.prog 293 [.int .i64 a,.int .i64 b] w (fun v O=>v = .tuple #[.int .i64 (a - b),.bool true]/\O=[]):=by
 refine Zaa Tryz.func293 rfl rfl rfl rfl ?_
 by_cases h:0<b
 ·have b1:decide (a - b<a)=true:=decide_eq_true (by omega)
  have b2:decide (0<b)=true:=decide_eq_true h
  repeat (first|refine und ?_|(apply RL_pu;rfl;exact Zyk)|refine walk1 ?_)
  exact rtB
 ·have b1:decide (a - b<a)=false:=decide_eq_false (by omega)
  have b2:decide (0<b)=false:=decide_eq_false h
  repeat (first|refine und ?_|(apply RL_pu;rfl;exact Zyk)|refine walk1 ?_)
  exact rtB
theorem Zfi (Z:It)(x t:Int)(b7 b8:Nat)(wr:World)(hx : -2000000000000000000<=x/\x<=2000000000000000000)(ht : -2000000000000000000<=t/\t<=2000000000000000000) :
  Zaj Tryz.prog 292 [.int .i64 x,.pointer (some ⟨b7,0,none⟩),.pointer (some ⟨b8,0,none⟩)] wr [Z,.blk b7 [.int .i64 t] 2,.blk b8 [.bool true] 4] (fun v O'=>v = .tuple #[]/\O'=[Z,.blk b7 [.int .i64 (t - x)] 2,.blk b8 [.bool true] 4]):=by
 have hs:=fun w'=>Zv7 t x (by omega) (by omega) w'
 refine ZaG Tryz.func292 rfl rfl rfl rfl ?_
 repeat (first|(refine js ?_;(refine Zac (fun w' _=>hs w') ?_))|refine walk ?_)
 exact Zwf [Z,.blk b7 [.int .i64 (t - x)] 2,.blk b8 [.bool true] 4] SOA ⟨rfl,rfl⟩
end Go.Proofs.YtdlmhmmhdbbliaaGreatDoor
namespace Go.Wk
open Go Go.RowKit Go.ChangeMaps
def Rng (b r:Nat)(m left:List (ByteArray × Value))(cur:Option (ByteArray × Value))(w:World):Prop :=
 ∃ (es:Array MapEntry) (clock since:Nat) (seen:Array Nat) (c0:Nat),w.heap[b]?=some (.map es clock)/\ZcG m es/\stOk es clock/\(∀ x∈es.toList,x.born<since)/\since<=c0/\since<=clock/\w.heap[r]?=some (.mapIter (some b) since seen c0)/\ZcG left (leftOf es seen) /\
  ∀ kv,cur=some kv->∃ e∈es.toList,∃ s0:Array Nat,seen=s0.push e.born/\c0=clock/\e.key = .string kv.1/\e.val=kv.2
theorem Rng.congr {b r:Nat}{m left:List (ByteArray × Value)}{cur:Option (ByteArray × Value)}{w w':World}(h:Rng b r m left cur w)(h1:w'.heap[b]?=w.heap[b]?)(h2:w'.heap[r]?=w.heap[r]?):Rng b r m left cur w':=by
 obtain⟨es,clock,since,seen,c0,a1,a2,a3,a4,a5,a5',a6,a7,a8⟩:=h
 exact⟨es,clock,since,seen,c0,h1.trans a1,a2,a3,a4,a5,a5',h2.trans a6,a7,a8⟩
section
variable {P:Program}{n:Nat}{wr:World}{fr:Fr}{O:List It}{ty:TypeId}{pos:String}{af:Array Edge}{dst:Option Tmp}{g:Option (Nat × Bool)}{Kp:Value->List It->Prop}
end
end Go.Wk
namespace Go.Proofs.YtdlmhmmhdbbliaaGreatDoor
open Go Go.RowKit Go.Wk
attribute [local irreducible] W RL Does Zau Zak retQ Calls Pu Stp RD Qy Ay Zaj
end Go.Proofs.YtdlmhmmhdbbliaaGreatDoor
set_option maxHeartbeats 2000000
namespace Go.Wk
open Go Go.RowKit
theorem ZnR {P:Program}{n:Nat}{f:FuncId}{fn:Func}{c:Code}{args:List Value}{wr w:World}{O:List It}{R:Ending->World->Prop}(hf:P.funcs[f]?=some fn)(hb:fn.body=some c)(hn:fn.ntmps=n)(ha:Nat.ble args.length n=true)
  (hB:Bel wr.heap.size wr w) (hH:Zay wr.heap.size O w) (h:∀ a,St n wr (ZfL 0 args) O a w->c.wp P (bodyPostM Fence.wide 0 P fn R) a w):Calls P f args.toArray w R:=by
 refine(callsIn_wide (n:=0)).1 (callsIn_of_wp_marks hf hb trivial ?_)
 refine(wpIn_wide (n:=0)).2 (h _ ?_)
 have ha':args.length<=n:=Nat.le_of_ble_eq_true ha
 refine⟨⟨rfl,by simp;omega,fun t v hv=>?_⟩,hB,hH⟩
 have:=(Zde args 0 t v hv).2
 simp only[Nat.sub_zero]at this
 have hlt:t<args.length:=(List.getElem?_eq_some_iff.1 this).1
 rw[Array.getElem?_append_left (by simpa using hlt)]
 simpa using this
end Go.Wk
namespace Go.Proofs.YtdlmhmmhdbbliaaGreatDoor
open Go Go.RowKit Go.Wk
attribute [local irreducible] W RL Does Zau Zak retQ Calls Pu Stp RD Qy Ay Zaj RLI WI
def Zzk (A:Option Addr)(n c:Nat)(v:Value)(O:List It):Prop:=∃ bl,v = .func (.func 260) #[] #[.pointer (some ⟨bl,0,none⟩)]/\O=[.blk bl [.slice A n c] 27]
theorem ZoC (A:Option Addr)(n c:Nat)(w:World):Does Tryz.prog 250 [.slice A n c] w (Zzk A n c):=by
 refine Zaa Tryz.func250 rfl rfl rfl rfl ?_
 repeat (first|(refine js ?_;(refine bx ?_;intro bk))|refine walk ?_)
 exact ret_1 _ [.blk bk [.slice A n c] 27] (.tmp rfl) SOA ⟨bk,rfl,rfl⟩
structure FiG (σ:Type) where
 k:Nat
 d:List Zad
 s:σ
set_option maxRecDepth 20000
theorem Zyj {G:Prop}(h:G:=by(apply Pu_loadB1;rfl;(focus repeat' constructor);rfl)):G:=h
set_option maxHeartbeats 4000000 in
theorem ZmT {σ:Type}(L bl:Nat)(A:Option Addr)(c:Nat)(l:List Zab)(OC:σ->List It)(Inv:List Zad->σ->Prop)(wr:World)(s0:σ)(h0:Inv [] s0)(hG:Glob wr)(hA:RdSl wr A c Zab.enc 11 l)(hn:l.length<=1000000)(hR:∀ r∈l,-4611686018427387904<=r.save/\r.save<=4611686018427387904)(hF:∀ r∈l,r.from_<=4611686018427387904)
  (hY:∀ (d:List Zad) (e:Zad) (s:σ) (X Y:It),(∃ (k:Nat) (r:Zab),l[k]?=some r/\e.rule=k)->Inv d s->Zfr Tryz.prog L (.agg e.enc.toArray) wr (X::Y::OC s) fun bb O'=>bb=true/\∃ s',Inv (d++[e]) s'/\SubO (X::Y::OC s') O') :
  Zaj Tryz.prog 260 [.func (.yield L) #[] #[],.pointer (some ⟨bl,0,none⟩)] wr (.blk bl [.slice A l.length c] 27::OC s0)
   (fun v O'=>v = .tuple #[]/\∃ s',Inv (firL (Zah l) l 0) s'/\SubO (.blk bl [.slice A l.length c] 27::OC s') O'):=by
 have hon:=fun(i:Nat) r (hi:l[i]?=some r) y w' (hw:Bel wr.heap.size wr w')=>Zgv A c l i y r w' (hG.up hw) (hA.up hw) hi hn hR
 have hru:∀ (r:Zab) (i y:Int) e,onR (Zah l) r i y=some e->e.rule=i:=fun r i y e h=>by
  unfold onR at h
  split at h
  ·cases h
  ·split at h
   ·cases h
   ·cases h;rfl
 generalize Zah l=least at *
 obtain⟨res,hres⟩:∃ res,firL least l 0=res:=⟨_,rfl⟩
 rw[hres]
 have hle:=hA.le
 have hcp:=hA.cap
 simp only[maxLen]at hcp
 refine ZaG Tryz.func260 rfl rfl rfl rfl ?_
 repeat (first|(refine js ?_;(refine bx ?_;intro bk))|refine walk ?_)
 refine Zao [(0,.func (.yield L) #[] #[]),(1,.pointer (some ⟨bl,0,none⟩)),(9,.slice A l.length c),(10,.int .i64 l.length)] [] (fun g:FiG σ=>[(11,.int .i64 g.k)]) (fun g => .blk bl [.slice A l.length c] 27::OC g.s) (fun g=>g.k<=l.length/\Inv g.d g.s/\g.d++firL least (l.drop g.k) g.k=res) (fun g=>l.length - g.k) ⟨0,[],s0⟩ SFA ?_ ⟨Nat.zero_le _,h0,by dsimp only;rw[List.drop_zero,List.nil_append];exact hres⟩ ?_
 ·rw[List.append_nil];exact .refl _
 clear hres
 rintro⟨k,d,s⟩ ⟨hk,hi,hd⟩
 dsimp only at hk hi hd ⊢
 rw[List.append_nil]
 repeat (first|(refine js ?_;(refine bx ?_;intro bk))|refine walk ?_)
 refine Zaf rfl (fun hc=>?_) (fun hc=>?_)
 ·have hkl:k<l.length:=by simpa using hc
  have hge:=List.getElem?_eq_getElem hkl
  obtain⟨hna,hca⟩:=hA.rd k _ hge
  have hfr:=hF _ (List.getElem_mem hkl)
  rw[Zap hkl,firL]at hd
  generalize l[k]=r at *
  obtain⟨f0,hf0⟩:∃ f0,max r.from_ (-2000000000)=f0:=⟨_,rfl⟩
  have hmx:(if r.from_ < -2000000000 then -2000000000 else r.from_)=f0:=by rw[<- hf0];split <;> omega
  have hfb : -2000000000<=f0/\f0<=4611686018427387904:=by omega
  rw[hf0]at hd
  have hon1:=hon k r hge
  obtain⟨r1,hr1⟩:∃ r1,fiIn least r k f0 9=r1:=⟨_,rfl⟩
  rw[hr1]at hd
  obtain⟨nm,fr,to,mo,⟨dk,dw,dd⟩,⟨cs,cb⟩,sv,le⟩:=r
  change Zal wr _ [.string nm,.int .i64 fr,.int .i64 to,.int .i64 mo,.int .i64 dk,.int .i64 dw,.int .i64 dd,.int .i64 cs,.int .i64 cb,.int .i64 sv,.string le]at hca
  dsimp only at hmx
  repeat (first|(refine js ?_;(refine bx ?_;intro bk))|refine ZhQ ?_)
  refine W_block ?_
  repeat (first|(apply RL_pu;rfl;(first|exact PuI|(apply Zf9;rfl;rfl;exact hmx)))|(refine js ?_;(refine bx ?_;intro bk))|refine walkB1 ?_)
  refine Zbx (fun fr' O'=>∃ s',Inv (d++r1.toList) s'/\Sub [(0,.func (.yield L) #[] #[]),(1,.pointer (some ⟨bl,0,none⟩)),(9,.slice A l.length c),(10,.int .i64 l.length),(11,.int .i64 k)] fr'/\SubO (.blk bl [.slice A l.length c] 27::OC s') O') ?_ ?_
  ·repeat (first|(refine js ?_;(refine bx ?_;intro bk))|refine walk ?_)
   refine Zao [(0,.func (.yield L) #[] #[]),(1,.pointer (some ⟨bl,0,none⟩)),(3,.int .i64 k),(5,.int .i64 f0),(9,.slice A l.length c),(10,.int .i64 l.length),(11,.int .i64 k)] [] (fun g:Nat × Int=>[(6,.int .i64 g.2)]) (fun _ => .blk bl [.slice A l.length c] 27::OC s) (fun g=>g.1<=9/\g.2=f0+g.1/\fiIn least ⟨nm,fr,to,mo,⟨dk,dw,dd⟩,⟨cs,cb⟩,sv,le⟩ k g.2 (9 - g.1)=r1) (fun g=>9 - g.1) (0,f0) SFA ?_ ⟨Nat.zero_le _,by simp,hr1⟩ ?_
   ·rw[List.append_nil]
    exact .drop (.refl _)
   clear hr1
   rintro⟨j,y⟩ ⟨hj,hy,hf⟩
   dsimp only at hj hy hf ⊢
   rw[List.append_nil]
   repeat (first|(refine js ?_;(refine bx ?_;intro bk))|refine walk ?_)
   refine Zaf rfl (fun hc2=>?_) (fun hc2=>?_)
   ·have hj9:j<9:=by have:=of_decide_eq_true hc2;omega
    rw[show 9 - j=(8 - j)+1 by omega,fiIn]at hf
    have ho:=hon1 y
    have hro:=hru ⟨nm,fr,to,mo,⟨dk,dw,dd⟩,⟨cs,cb⟩,sv,le⟩ k y
    generalize onR least _ k y=o at *
    cases o with
    | none =>
     simp only[evV,Zad.enc,dEv0,Option.isSome]at ho hf
     repeat (first|(apply RL_pu;rfl;exact Zyj)|(refine js ?_;(first|(refine Zac ho ?_)|(refine bx ?_;intro bk)))|refine walk1 ?_)
     refine⟨(j+1,y+1),OA,⟨OA,by dsimp only;omega,by dsimp only;rw[show 9 - (j+1)=8 - j by omega];exact hf⟩,SFA,?_⟩
     exact .drop (.refl _)
    | some e =>
     have her:=hro e rfl
     obtain⟨ey,er,en⟩:=e
     simp only[evV,Zad.enc,Option.isSome]at ho hf her
     subst hf
     repeat (first|(apply Zjp;rfl;rfl;rfl;(intro c h;cases h);rfl;(apply Pu_loadNf;rfl;(focus repeat' constructor);exact NfA;rfl);rfl;rfl;exact hY d ⟨ey,er,en⟩ s _ _ ⟨k,_,hge,her⟩ hi;rintro bb O' ⟨rfl,s',hi',hO'⟩)|(apply RL_pu;rfl;exact Zyj)|(refine js ?_;(first|(refine Zac ho ?_)|(refine bx ?_;intro bk)))|refine walk1 ?_)
     apply Zdx (.inl rfl);rfl;(intro c h;cases h);(apply Pu_not;rfl)
     refine Zbt ?_
     apply thenQ_n
     refine Zaf rfl (fun h=>(by cases h)) (fun h=>?_)
     repeat (first|(refine js ?_;(refine bx ?_;intro bk))|refine walk ?_)
     exact⟨rfl,s',hi',SFA,SubO.trans (.drop (.refl _)) hO'⟩
   ·obtain rfl:j=9:=by have:=of_decide_eq_false hc2;omega
    obtain rfl:none=r1:=hf
    repeat (first|(refine js ?_;(refine bx ?_;intro bk))|refine walk ?_)
    exact⟨rfl,s,by rw[Option.toList,List.append_nil];exact hi,SFA,.refl _⟩
  ·rintro fr' O' ⟨s',hi',hf',hO'⟩
   apply blockQ_n
   apply thenQ_n
   refine Zb0 hf' hO' ?_
   repeat (first|(refine js ?_;(refine bx ?_;intro bk))|refine walk ?_)
   exact⟨⟨k+1,d++r1.toList,s'⟩,OA,⟨OA,hi',by dsimp only;rw[List.append_assoc];exact hd⟩,SFA,by rw[List.append_nil];exact .refl _⟩
 ·obtain rfl:k=l.length:=by simp only[decide_eq_false_iff_not,Int.ofNat_lt]at hc;omega
  rw[List.drop_length,firL,List.append_nil]at hd
  subst hd
  repeat (first|(refine js ?_;(refine bx ?_;intro bk))|refine walk ?_)
  exact Zwf _ (.refl _) ⟨rfl,s,hi,.refl _⟩
end Go.Proofs.YtdlmhmmhdbbliaaGreatDoor
namespace Go.Wk
open Go Go.RowKit
def Znm:Op->Bool
 | .move _ | .assign _ | .pick .. | .alloc _ | .box .. | .build .. | .load .. | .store .. | .binOp .. | .unOp .. | .convert .. | .fieldAddr .. | .field .. | .indexAddr .. | .index .. => true
 | _=>false
theorem ZAK {P:Program}(s:Sem Value)(w:World):calm ((do pure (.value (<- s)):Sem Next).run P w):=by
 simp only[Sem.run_bind]
 generalize s.run P w=r
 cases r <;> simp[calm,Result.andThen]
theorem ZAL {P:Program}(s:Sem Unit)(w:World):calm ((do s;pure .skip:Sem Next).run P w):=by
 simp only[Sem.run_bind]
 generalize s.run P w=r
 cases r <;> simp[calm,Result.andThen]
theorem Zdm {P:Program}{ρ:Operand->Value}{o:Oper}(h:Znm o.op=true)(w:World):calm ((execOp ρ o).run P w):=by
 obtain⟨dst,op,ty,pos,af,g⟩:=o
 cases op <;> first|(cases h;done)|exact ZAK _ w|exact ZAL _ w|skip
 case move x=>simp[execOp,calm]
 case assign x=>simp[execOp,calm]
 case pick c a b =>
  simp only[execOp,Sem.run_bind]
  generalize (asBool _).run P w=r
  cases r <;> simp[calm,Result.andThen]
theorem Znl {o:Oper}(h:Znm o.op=true):∀ c,o.op ≠ .defer c:=by
 intro c hc
 rw[hc]at h
 cases h
theorem Zv0 {F:Fence}(hF:WF F){n:Nat}{P:Program}{o:Oper}{a a2:Act}{w:World}{K K2:Act->World->Prop}{Q Q2:Exit->Act->World->Prop}(he:a2.eval=a.eval)(hd:∀ c,o.op ≠ .defer c)(hc:calm ((execOp a.eval o).run P w))(h:o.wp P a w K Q)(hQ:∀ e a w,Q e a w->e = .normal)
  (hK:∀ v w',K (a.put o.dst v) w'->K2 (a2.put o.dst v) w'):o.wpIn F n P a2 w K2 Q2:=by
 refine⟨fun f _=>hF.fn f,?_⟩
 rw[Oper.semAt_eq _ _ _ hd,he]
 unfold Oper.wp at h
 generalize (execOp a.eval o).run P w=r at *
 cases r with
 | ok nx w' =>
  cases nx with
  | value v=>exact hK _ _ h
  | skip=>exact hK _ _ h
  | enter f args =>
   rw[Oper.upon_enter]at h
   rw[Oper.uponIn_enter]
   refine⟨fun hh=>(by rw[hF.depth]at hh;cases hh),(hF.calls h).mono ?_⟩
   intro e w'' he
   cases e with
   | returned v=>exact hK _ _ he
   | panicked c=>cases hQ _ _ _ he
   | outgrown=>exact he.elim fun a h=>h.elim fun w h=>(by cases hQ _ _ _ h)
  | _=>exact hc.elim
 | halt x w' =>
  cases x with
  | panic v=>cases hQ _ _ _ h
  | _=>exact h.elim
section
variable {F:Fence}{P:Program}{n:Nat}{wr:World}{ops:Array Oper}{K:Fr->List It->Prop}{fr:Fr}{O:List It}{D:List Deferred}
theorem Zw5 (hF:WF F)(hc:∀ o∈ops.toList,Znm o.op=true){Q Q2:Exit->Act->World->Prop}(hQ:∀ e a w,Q e a w->e = .normal)(hK:∀ a w,Q .normal a w->Q2 .normal (actD D a) w) :
  ∀ (m:Nat) (listed:Array Bool) (a:Act) (w:World),wpAny P .any ops Q m listed a w->wpAnyIn F 0 P .any ops Q2 m listed (actD D a) w:=by
 intro m
 induction m with
 | zero=>intro listed a w h;exact⟨h.1,hK _ _ h.2⟩
 | succ m ih =>
  intro listed a w h
  refine⟨fun hr=>hK _ _ (h.1 hr),fun i hi=>?_⟩
  have h1:=h.2 i hi
  unfold wpOp at h1
  unfold wpOpIn
  cases ho:ops[i]? with
  | none=>rw[ho]at h1;exact ih _ _ _ h1
  | some o =>
   rw[ho]at h1
   have hco:Znm o.op=true:=hc o (by
    rw[Array.mem_toList_iff]
    exact Array.mem_of_getElem? ho)
   dsimp only at h1 ⊢
   rw[show(actD D a).tmps=a.tmps from rfl]
   by_cases hw:Region.wanted o (yielded ops a.tmps)=true
   ·rw[if_pos hw]at h1 ⊢
    rcases h1 with h1|⟨_,h1⟩
    ·exact Zv0 (a:=a) hF rfl (Znl hco) (Zdm hco w) h1 hQ fun v w' hk=>by
      rw[Zfq]
      exact ih _ _ _ hk
    ·obtain⟨_,_,h2⟩:=h1
     cases hQ _ _ _ h2
   ·rw[if_neg hw]at h1 ⊢
    refine⟨fun f _=>hF.fn f,?_⟩
    rw[Zfq]
    exact ih _ _ _ h1
theorem Zuu {l:List Oper}(hac:acyc l.toArray=true)(h:RD P n wr l.toArray (enum 0 l) [] [] K fr O){a:Act}{w:World}(hs:St n wr fr O a w) :
  wpAny P .any l.toArray (ZjN n wr [] K) l.toArray.size (Array.replicate l.toArray.size false) a { w with drawn:=w.drawn+1 }:=by
 have h1:=h ⟨by simp[Zeh,List.nodup_range'],by simp,trivial,trivial,fun p hp=>by simpa using(Zgx l 0 p hp).2⟩ l.length [] [] [] [] a { w with drawn:=w.drawn+1 } (List.Sublist.refl _) (by simp)
  (by have h:=hs.drawn (m:=w.drawn+1) (Nat.le_succ _);rw[show O++(Zet []++[])=O from by simp[Zet]];exact h) (by simp[Zll]) (fun k o hk hn=>absurd (by
   have hlt:k<l.length:=by have:=(Array.getElem?_eq_some_iff.1 hk).1;simpa using this
   have:k∈(enum 0 l).map (·.1):=by rw[Zeh];simp;exact hlt
   obtain⟨p,hp,rfl⟩:=List.mem_map.1 this
   exact .inl ⟨p,hp,rfl⟩) hn)
 refine ZjV hac _ _ _ _ _ (by simp) ?_ (by simpa using h1)
 intro j
 unfold Tof
 constructor
 ·rintro(⟨p,hp,rfl⟩|⟨_,hh,_⟩|⟨_,hh,_⟩)
  ·have:=(List.getElem?_eq_some_iff.1 (Zgx l 0 p hp).2).1
   have h2:p.1<l.length:=by omega
   simp[Array.getD_eq_getD_getElem?,h2]
  ·cases hh
  ·cases hh
 ·intro hj
  have hlt:j<l.length:=by
   rcases Nat.lt_or_ge j l.length with h0|h0
   ·exact h0
   ·rw[Array.getD_eq_getD_getElem?,Array.getElem?_eq_none (by simpa using h0)]at hj
    simp at hj
  have:j∈(enum 0 l).map (·.1):=by rw[Zeh];simp;exact hlt
  obtain⟨p,hp,rfl⟩:=List.mem_map.1 this
  exact .inl ⟨p,hp,rfl⟩
theorem ZuF {Q:Exit->Fr->List It->Prop}{id:Nat}{l:List Oper}(hF:WF F)(hm:P.follows .mixedOrders=true)(hac:acyc l.toArray=true)(hc:l.all (fun o=>Znm o.op)=true)(h:RD P n wr l.toArray (enum 0 l) [] [] (Q .normal) fr O):WI F D P n wr (.region id l.toArray true) Q fr O:=by
 intro a w hs
 have h1:=Zuu hac h hs
 refine wpIn_region_any hm (Zw5 hF (fun o ho=>List.all_eq_true.1 hc o (by simpa using ho)) (fun e a w he=>he.1) ?_ _ _ _ _ h1)
 rintro a' w' ⟨_,fr',O',hs',hq⟩
 refine⟨rfl,fr',O',?_,hq⟩
 have hs2:St n wr fr' O' a' w':=by simpa using hs'
 rw[ZgI hs2]
 exact hs2
theorem ZkT {l p:Nat}{r:Loop}{v:Value}{a0:Act}{R:Bool->List It->Prop}(hp:r.params = #[p])(hr:r.state = .ready)(ht:r.tmps=a0.tmps)(hsim:Sim n fr a0)(hpn:Nat.ble (p+1) n=true)
  (hmem:Za3 l r∈O) {id:Nat} {la:List Oper} (hass:r.assign = .region id la.toArray false)
  (hb:RLI (Fence.wide.inRound l) [] P n wr la.toArray la (fun fr' O'=>∃ O1,Upd O' (Za3 l r) (Za3 l { r with state := .busy }) O1/\WI (Fence.wide.inRound l) [] P n wr r.body (Zxr l r R) fr' O1) ((p,v)::fr) O):Zfr P l v wr O R:=by
 intro w hB hH
 have hl:=Za3.at (hH.sat _ hmem)
 have hy:=run_yield (P:=P) (args := #[v]) hl (by rw[hp];rfl)
 rw[hp,ht]at hy
 refine⟨r.fn,_,r.assign,r.body,hy,roundIn_of_wpIn trivial ?_⟩
 have hst:St n wr ((p,v)::fr) O { tmps:=a0.tmps.setIfInBounds p v,defers:=[] } w:=by
  have:=hsim.put hpn v
  refine⟨?_,hB,hH⟩
  have e:({ tmps:=a0.tmps.setIfInBounds p v,defers:=[] }:Act)=a0.put (some p) v:=by
   have:=hsim.defers
   simp[Act.put,this]
  rw[e]
  exact this
 rw[hass,show Array.foldl (fun tmps (x:Tmp × Value)=>match x with|(t,a)=>tmps.setIfInBounds t a) a0.tmps (#[p].zip #[v])=a0.tmps.setIfInBounds p v by simp]
 refine wpIn_mono (wpIn_region_lit (hb _ w hst)) ?_
 rintro e a' w' ⟨rfl,hd,fr',O',hs',O1,hu,hW⟩
 have hl':=Za3.at (hs'.own.sat _ hu.mem)
 refine⟨_,run_beginRound hl' hr,?_⟩
 have hs2:=Zc4 hs' hu
 have h3:=hW _ _ hs2
 rw[ZeZ hd]at h3
 refine wpIn_mono h3 ?_
 rintro e2 a2 w2 ⟨hd2,fr2,O2,hs3,hq⟩
 cases e2 with
 | normal =>
  obtain⟨O3,hu3,hR⟩:=hq
  have hl3:=Za3.at (hs3.own.sat _ hu3.mem)
  have hs4:=Zc4 hs3 hu3
  exact⟨_,_,run_endRound none hl3,true,O3,rfl,hs4.old,hs4.own,hR⟩
 | ret =>
  obtain⟨O3,hu3,hR⟩:=hq
  have hl3:=Za3.at (hs3.own.sat _ hu3.mem)
  have hs4:=Zc4 hs3 hu3
  exact⟨_,_,run_endRound (some .ret) hl3,false,O3,rfl,hs4.old,hs4.own,hR⟩
 | exit id=>exact hq.elim
 | goto t=>exact hq.elim
 | panic ch=>exact hq.elim
 | outgrown=>exact hq.elim
theorem Zlx {Q:Exit->Fr->List It->Prop}{id:Nat}(h:Q (.exit id) fr O):WI F D P n wr (.exit id) Q fr O:=fun a _ hs=>wpIn_exit ⟨rfl,fr,O,by rw[ZgI hs];exact hs,h⟩
end
end Go.Wk
