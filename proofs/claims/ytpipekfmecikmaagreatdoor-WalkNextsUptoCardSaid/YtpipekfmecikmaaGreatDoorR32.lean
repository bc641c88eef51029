/- Parts of the proof. -/
import Derived.Test.YtpipekfmecikmaaGreatDoorR31
import Derived.Test.YtpipekfmecikmaaGreatDoorR26
set_option maxHeartbeats 4000000
set_option linter.all false
namespace Go.Proofs.YtpipekfmecikmaaGreatDoor
open Go Go.RowKit Go.Wk
attribute [local irreducible] W RL Does Zaq Zai retQ Calls Pu Stp RD Qy Ay Zaj
theorem ZqA {G:Prop}(h:G:=by(first|(apply Zao;rfl;rfl;first|exact k0|exact k3|exact k5)|(apply Zal;rfl;rfl;exact x0)|(apply Zau;rfl;rfl;exact k4)|(apply ZcL;rfl;rfl;exact f0))):G:=h
theorem Zpw {G G':Prop}(k:G')(h:Hold G'->G:=by intro k9;(first|refine und ?_|(apply RL_pu;rfl;exact ZqA)|refine walk1 ?_|(refine jg ?_;(try intro F);(refine Zac hex ?_);refine fin ?_));exact k9.out):G:=h ⟨k⟩
theorem ZuY {G:Prop}(h:G:=by(first|exact PuI|(apply Zal;rfl;rfl;exact e0)|(apply Zau;rfl;rfl;exact k4))):G:=h
theorem Zuo {G:Prop}(h:G:=by first|(apply Qy_y;rfl;exact ZuY)|exact QyA):G:=h
theorem Zqq {G:Prop}(h:G:=by repeat (first|exact QF.nil|(apply QF.mk;rfl;rfl;decide +kernel;exact Zuo))):G:=h
theorem ZCC {G:Prop}(h:G:=by(apply Zal;rfl;rfl;exact n2)):G:=h
theorem ZyS {G:Prop}(h:G:=by(apply Zao;rfl;rfl;first|exact k0|exact k3)):G:=h
set_option maxHeartbeats 4000000 in
theorem Zoc (e:DEra)(A:Option Addr)(c:Nat)(l:List DRule)(w:World)(hA:RdSl w A c DRule.enc 11 l)(ho:I64 e.off)(hs:I64 e.save)(hr:∀ r∈l,I64 r.save)(hn:l.length<=1000000)(y:e.format.size<=1000000000)(aa:∀ r∈l,r.letter.size<=1000000000) :
  Does Tryz.prog 254 [.agg (DEra.enc e).toArray,.slice A l.length c] w (fun v O=>v = .int .i64 (Zeg e l)/\O=[]):=by
 have J:=fun w'=>Zgv e.format y w'
 have Z:=ZkT e.format.data.toList
 have hex:=fun w' (hw:Bel w.heap.size w w')=>ZsA e A c l w' (hA.up hw) ho hs hr hn
 have j:=fun w'=>Zgx e.format ByteArray.empty 0 0 w' y (Nat.zero_le _) ⟨by decide,by decide⟩ ⟨by decide,by decide⟩
 rw[show ByteArray.empty.data.toList=[] from rfl]at j
 have z:=fun(r:DRule) (ab:r∈l) w'=>Zgx e.format r.letter 0 0 w' y (aa r ab) ⟨by decide,by decide⟩ ⟨by decide,by decide⟩
 unfold Zeg
 dsimp only
 have E:=Zb8 (Zd4 e l).1 e.format
 generalize Zd4 e l=X at *
 obtain⟨xs,U⟩:=X
 have W:∀ F:List UInt8,ZbA F [[]]=(Zds F 0 0 []).2:=fun F=>by
  unfold ZbA ZbA
  split
  ·rename_i h;exact h.symm
  ·rfl
 rw[show(if e.kind=2 then l.map (fun r=>r.letter.data.toList) else [[]])=(if e.kind=2 then l.map (fun r=>r.letter.data.toList) else [[]]) from rfl]
 obtain⟨off,kind,save,set,format,⟨m,f,d,⟨L,M,dd⟩,⟨us,Q⟩⟩⟩:=e
 dsimp only at J Z j z E y ⊢
 replace hex:∀ w',Bel w.heap.size w w'->Does Tryz.prog 283 [.agg #[.int .i64 off,.int .i64 kind,.int .i64 save,.string set,.string format,.bool m,.int .i64 f,.int .i64 d,.int .i64 L,.int .i64 M,.int .i64 dd,.int .i64 us,.int .i64 Q],.slice A l.length c] w' (fun v O=>v = .tuple #[.string ⟨xs.toArray⟩,.int .i64 U]/\O=[]):=hex
 generalize hK:ZaP format.data.toList=K at *
 show Does _ _ [.agg #[.int .i64 off,.int .i64 kind,.int .i64 save,.string set,.string format,.bool m,.int .i64 f,.int .i64 d,.int .i64 L,.int .i64 M,.int .i64 dd,.int .i64 us,.int .i64 Q],.slice A l.length c] w _
 refine Zaa Tryz.func254 rfl rfl rfl rfl ?_
 by_cases q:K=0
 ·have k0:decide (K=0)=true:=decide_eq_true q
  rw[if_pos q]
  repeat (first|(apply RL_pu;rfl;exact ZqA)|refine walk1 ?_|(refine jg ?_;(try intro F);(first|(refine Zac (fun w' _=>J w') ?_)|(refine bx ?_;intro g));first|refine⟨_,EndsA,QFRfY0,?_⟩|refine fin ?_))
  exact rtA
 have k0:decide (K=0)=false:=decide_eq_false q
 rw[if_neg q]
 by_cases s:K=3
 ·rw[if_pos s]
  clear k0
  subst s
  by_cases H:kind=2
  ·subst H
   rw[if_pos rfl]
   repeat (first|refine walk ?_|(refine jg ?_;(try intro F);(first|(refine Zac (fun w' _=>J w') ?_)|(refine bx ?_;intro g));refine fin ?_))
   obtain⟨R,Y⟩:∃ R,ZbA format.data.toList (l.map fun r=>r.letter.data.toList)=R:=⟨_,rfl⟩
   rw[Y]
   refine Zah [(1,.slice A l.length c),(2,.pointer (some ⟨g,0,none⟩)),(5,.int .i64 3)] [.blk g [.int .i64 off,.int .i64 2,.int .i64 save,.string set,.string format,.bool m,.int .i64 f,.int .i64 d,.int .i64 L,.int .i64 M,.int .i64 dd,.int .i64 us,.int .i64 Q] 75] (fun k:Nat=>[(8,.int .i64 k)]) (fun _=>[])
    (fun k=>k<=l.length/\ZbA format.data.toList ((l.drop k).map fun r=>r.letter.data.toList)=R) (fun k=>l.length - k) 0 SFA SOA ⟨Nat.zero_le _,Y⟩ ?_
   clear Y
   rintro k ⟨ac,D⟩
   by_cases I:k<l.length
   ·have k4:decide ((k:Int)<(l.length:Int))=true:=decide_eq_true (by omega)
    obtain⟨hna,hca⟩:=hA.rd k _ (List.getElem?_eq_getElem I)
    have x:=z l[k] (List.getElem_mem I)
    rw[Zag I,List.map_cons,ZbA]at D
    generalize l[k]=r at *
    simp only[DRule.enc]at hca
    generalize Zds format.data.toList 0 0 r.letter.data.toList=ax at *
    obtain⟨az,S⟩:=ax
    dsimp only at D
    by_cases u:S=0
    ·have e0:(!decide (S=0))=false:=by rw[decide_eq_true u];rfl
     rw[if_pos u]at D
     repeat (first|(apply RL_pu;rfl;exact ZuY)|(apply RD_Q;rfl;rfl;decide +kernel;rfl;rfl;exact Zuo)|refine walk1 ?_|(refine jg ?_;(try intro F);((refine Zac (fun w' _=>x w') ?_));refine⟨_,EndsA,Zqq,?_⟩)|(refine jn ?_;(try intro F);(first|(refine bx ?_;intro g)|(apply Zam;exact PuA));first|refine⟨_,EndsA,Zqq,?_⟩|refine fin ?_))
     exact⟨k+1,OA,⟨OA,D⟩,SFA,SOA⟩
    ·have e0:(!decide (S=0))=true:=by rw[decide_eq_false u];rfl
     rw[if_neg u]at D
     subst D
     repeat (first|(apply RL_pu;rfl;exact ZuY)|(apply RD_Q;rfl;rfl;decide +kernel;rfl;rfl;exact Zuo)|refine walk1 ?_|(refine jg ?_;(try intro F);((refine Zac (fun w' _=>x w') ?_));refine⟨_,EndsA,Zqq,?_⟩)|(refine jn ?_;(try intro F);(first|(refine bx ?_;intro g)|(apply Zam;exact PuA));first|refine⟨_,EndsA,Zqq,?_⟩|refine fin ?_))
     exact rtA
   ·have k4:decide ((k:Int)<(l.length:Int))=false:=decide_eq_false (by omega)
    rw[List.drop_eq_nil_of_le (by omega),List.map_nil,ZbA]at D
    subst D
    repeat (first|(apply RL_pu;rfl;exact ZqA)|refine walk1 ?_)
    exact rtA
  ·have n2:(!decide (kind=2))=true:=by rw[decide_eq_false H];rfl
   rw[if_neg H,W]
   have x:=j
   generalize Zds format.data.toList 0 0 []=ax at *
   obtain⟨az,S⟩:=ax
   repeat (first|(apply RL_pu;rfl;exact ZCC)|refine walk1 ?_|(refine jg ?_;(try intro F);(first|(refine Zac (fun w' _=>J w') ?_)|(refine Zac (fun w' _=>x w') ?_)|(refine bx ?_;intro g));first|refine⟨_,EndsA,QFRfY2,?_⟩|refine fin ?_))
   exact rtA
 have k3:decide (K=3)=false:=decide_eq_false s
 rw[if_neg s]
 by_cases N:K=4\/K=5
 ·rw[if_pos N]
  have k4:decide (K<4)=false:=decide_eq_false (by omega)
  repeat (first|(apply RL_pu;rfl;exact ZyS)|refine walk1 ?_|(refine jg ?_;(try intro F);(first|(refine Zac (fun w' _=>J w') ?_)|(refine bx ?_;intro g));first|refine⟨_,EndsA,QFRfY3,?_⟩|refine fin ?_))
  refine Zah [(1,.slice A l.length c),(2,.pointer (some ⟨g,0,none⟩)),(5,.int .i64 K)] [.blk g [.int .i64 off,.int .i64 kind,.int .i64 save,.string set,.string format,.bool m,.int .i64 f,.int .i64 d,.int .i64 L,.int .i64 M,.int .i64 dd,.int .i64 us,.int .i64 Q] 75] (fun k:Nat=>[(8,.int .i64 k)]) (fun _=>[])
   (fun k=>k=0) (fun k=>k) 0 SFA SOA rfl ?_
  rintro k rfl
  by_cases hx:U=0
  ·have x0:(!decide (U=0))=false:=by rw[decide_eq_true hx];rfl
   by_cases t:K=5
   ·have k5:decide (K=5)=true:=decide_eq_true t
    by_cases T:xs=format.data.toList
    ·have f0:(!decide ((⟨xs.toArray⟩:ByteArray)=format))=false:=by rw[decide_eq_true (E.2 T)];rfl
     rw[if_neg (by rintro(h|h);exact h hx;exact h.2 T)]
     repeat (refine Zpw ?_)
     exact rtA
    ·have f0:(!decide ((⟨xs.toArray⟩:ByteArray)=format))=true:=by rw[decide_eq_false (fun h=>T (E.1 h))];rfl
     rw[if_pos (.inr ⟨t,T⟩)]
     repeat (refine Zpw ?_)
     exact rtA
   ·have k5:decide (K=5)=false:=decide_eq_false t
    rw[if_neg (by rintro(h|h);exact h hx;exact t h.1)]
    repeat (refine Zpw ?_)
    exact rtA
  ·have x0:(!decide (U=0))=true:=by rw[decide_eq_false hx];rfl
   rw[if_pos (.inl hx)]
   repeat (refine Zpw ?_)
   exact rtA
 ·rw[if_neg N]
  have k4:decide (K<4)=true:=decide_eq_true (by omega)
  repeat (first|(apply RL_pu;rfl;exact ZyS)|refine walk1 ?_|(refine jg ?_;(try intro F);(first|(refine Zac (fun w' _=>J w') ?_)|(refine bx ?_;intro g));first|refine⟨_,EndsA,QFRfY3,?_⟩|refine fin ?_))
  refine Zah [(1,.slice A l.length c),(2,.pointer (some ⟨g,0,none⟩)),(5,.int .i64 K)] [.blk g [.int .i64 off,.int .i64 kind,.int .i64 save,.string set,.string format,.bool m,.int .i64 f,.int .i64 d,.int .i64 L,.int .i64 M,.int .i64 dd,.int .i64 us,.int .i64 Q] 75] (fun k:Nat=>[(8,.int .i64 k)]) (fun _=>[])
   (fun k=>k=0) (fun k=>k) 0 SFA SOA rfl ?_
  rintro k rfl
  repeat (first|(apply RL_pu;rfl;exact ZqA)|refine walk1 ?_)
  exact rtA
theorem ZhS (Ar Az Al As:Option Addr)(m p j cs:Nat)(a:DSource)(e:DEra)(w:World)(x:Zak w Ar Az Al As m p j cs a)(z:a.rules.length<=1000000) :
  Does Tryz.prog 255 [srcV Ar Az Al As m p j cs a,.agg e.enc.toArray] w (fun v O=>v = .int .i64 (Zan e.til (Zae (ZaA a.rules e))).1/\O=[]):=by
 have c:=fun w' (g:Bel w.heap.size w w')=>ZdV Ar Az Al As m p j cs a e w' (x.up g) z
 have q:=fun A3 d w' h=>Zch A3 d (ZaA a.rules e) w' h
 have b:=fun w'=>Zh0 e.til (Zae (ZaA a.rules e)) w'
 generalize ZaA a.rules e=R at *
 generalize Zae R=L at *
 generalize Zan e.til L=nm at *
 obtain⟨n,ne⟩:=nm
 obtain⟨D,s,t,set,f,⟨J,u,r,⟨H,I,dd⟩,⟨us,K⟩⟩⟩:=e
 dsimp only at c b ⊢
 simp only[DEra.enc]at c ⊢
 simp only[DUntil.enc]at b
 refine Zaa Tryz.func255 rfl rfl rfl rfl ?_
 repeat (first|refine walk ?_|(refine jg ?_;(try intro F);(first|(apply Zad (h:=fun w' g _=>c w' g);rfl;rintro v O' ⟨A3,d,rfl,rfl⟩)|(refine ZaJ (fun w' g y=>q A3 d w' (ZaO DRule.len (y.of (A := .row (.slice A3 R.length d) 68 11 R.length (R.flatMap DRule.enc)) (by repeat' constructor)))) ?_)|(refine Zac (fun w' _=>b w') ?_)|(refine bx ?_;intro E));refine fin ?_)|(refine jn ?_;(try intro F);((apply Zam;exact PuA));refine fin ?_))
 exact rtA
def FarS:Prop:=∀ (l:List DRule) (n:Int),(-1000000000000<=n/\n<=1000000000000)->farD l n=farR l n
theorem ZjJ (u:DUntil)(least:Int) : -1000000000000<=(Zan u least).1/\(Zan u least).1<=1000000000000:=by
 unfold Zan
 split
 ·exact⟨by dsimp only;omega,by dsimp only;omega⟩
 ·rename_i h
  have a:ZaE u least=0:=Decidable.not_not.1 h
  have e:=a
  unfold ZaE at a
  dsimp only at a ⊢
  have f : -500000<=(onD u.year u.month u.day).1/\(onD u.year u.month u.day).1<=500000\/¬ (1850<=u.year/\u.year<=2149):=by
   by_cases d:1850<=u.year/\u.year<=2149
   ·left
    unfold onD
    split
    ·exact⟨by decide,by decide⟩
    ·rename_i c
     split
     ·exact⟨by decide,by decide⟩
     ·rename_i b
      split
      ·exact⟨by decide,by decide⟩
      ·simp only[Bool.not_eq_false]at c b
       have j:=ZeG u.year u.month
       have g:=ZeO b
       have i : -100000<=ZaV u.year u.month 1/\ZaV u.year u.month 1<=200000:=by
        unfold ZaV ZbW
        split
        ·have:=ZbX (u.month+12 - 3).toNat;omega
        ·have:=ZbX (u.month - 3).toNat;omega
       unfold Zd3 Zbs ZaW
       dsimp only
       repeat' split
       all_goals omega
   ·right;exact d
  repeat' split at a
  all_goals first|(exfalso;omega)|(split <;> omega)
end Go.Proofs.YtpipekfmecikmaaGreatDoor
namespace Go.Proofs.YtpipekfmecikmaaGreatDoor
open Go Go.RowKit Go.Wk
def Zsi (s:DSource)(x:ByteArray):Option ByteArray :=
 match ZaI x s.zones 0 with
 | some _=>none
 | none=>match ZaN x s.links 0 with
  | none=>none
  | some i=>some ((s.links[i]?).map (·.target) |>.getD ByteArray.empty)
def Zek (s:DSource):Nat->ByteArray->Option ByteArray
 | 0,x=>some x
 | n+1,x=>(Zsi s x).bind (Zek s n)
theorem Zf1 (s:DSource)(b:Nat):∀ (a:Nat) (x:ByteArray),Zek s (a+b) x=(Zek s a x).bind (Zek s b)
 | 0,x=>by rw[Nat.zero_add];rfl
 | a+1,x=>by
  rw[show a+1+b=(a+b)+1 by omega,Zek,Zek,Option.bind_assoc]
  congr 1
  funext y
  exact Zf1 s b a y
theorem Zrt {s:DSource}{x:ByteArray}{j:Nat}(h:Zek s (j+1) x=some x)(n:Nat):Zek s n x≠none:=by
 have c:∀ k,Zek s ((j+1)*k) x=some x:=fun k=>by
  induction k with
  | zero=>rfl
  | succ k ih=>rw[Nat.mul_succ,Zf1,ih];exact h
 intro d
 have a:=c n
 have b:(j+1)*n=n+j*n:=by rw[Nat.add_mul];omega
 rw[b,Zf1,d]at a
 cases a
theorem ZjW (s:DSource):∀ (f:Nat) (x:ByteArray),(ZeK s f x).2=11↔Zek s f x≠none
 | 0,x=>⟨fun _ h=>(by cases h),fun _=>rfl⟩
 | f+1,x=>by
  rw[ZeK,Zek,Zsi]
  cases ZaI x s.zones 0 with
  | some i=>exact⟨fun h=>(by cases h),fun h=>absurd rfl h⟩
  | none =>
   cases ZaN x s.links 0 with
   | none=>exact⟨fun h=>(by cases h),fun h=>absurd rfl h⟩
   | some i=>exact ZjW s f _
theorem Zmj {α:Type}[DecidableEq α]:∀ (a b:List α),a.Nodup->(∀ x∈a,x∈b)->a.length<=b.length
 | [],_,_,_=>Nat.zero_le _
 | x::a,b,hn,hs=>by
  have c:=hs x List.mem_cons_self
  rw[List.nodup_cons]at hn
  have f:=Zmj a (b.erase x) hn.2 fun y d=>(List.mem_erase_of_ne (fun e=>hn.1 (by rw[<- e];exact d))).2 (hs y (List.mem_cons_of_mem _ d))
  rw[List.length_erase_of_mem c]at f
  have:0<b.length:=List.length_pos_of_mem c
  simp only[List.length_cons]
  omega
theorem ZkQ (x:ByteArray):∀ l:List ByteArray,memB x l=true↔x∈l
 | []=>⟨fun h=>(by cases h),fun h=>(by cases h)⟩
 | y::l=>by
  rw[Zia,Bool.or_eq_true,decide_eq_true_eq,ZkQ x l,List.mem_cons]
  exact⟨fun h=>h.elim (fun h => .inl h.symm) .inr,fun h=>h.elim (fun h => .inl h.symm) .inr⟩
theorem Zis {x:ByteArray}:∀ (l:List DLink) (k i:Nat),ZaN x l k=some i->∃ z∈l,z.name=x
 | [],_,_,h=>by cases h
 | y::l,k,i,h=>by
  rw[ZaN]at h
  by_cases a:y.name=x
  ·exact⟨y,List.mem_cons_self,a⟩
  ·rw[if_neg a]at h
   obtain⟨z,b,e⟩:=Zis l (k+1) i h
   exact⟨z,List.mem_cons_of_mem _ b,e⟩
theorem Zhf (s:DSource):∀ (f:Nat) (a:List ByteArray) (x:ByteArray),f+a.length=s.links.length+1->a.Nodup->(∀ y∈a,y∈s.links.map (·.name))->(∀ y∈a,∃ j,Zek s (j+1) y=some x) ->
  (ZaH s f a x).2=11->∀ n,Zek s n x≠none
 | 0,a,x,hf,hn,hm,_,_=>by
  have:=Zmj _ _ hn hm
  rw[List.length_map]at this
  omega
 | f+1,a,x,hf,hn,hm,d,h=>by
  rw[ZaH]at h
  cases g:ZaI x s.zones 0 with
  | some i=>rw[g]at h;cases h
  | none =>
   rw[g]at h
   dsimp only at h
   cases hl:ZaN x s.links 0 with
   | none=>rw[hl]at h;cases h
   | some i =>
    rw[hl]at h
    dsimp only at h
    by_cases k:memB x a=true
    ·obtain⟨j,d⟩:=d x ((ZkQ x a).1 k)
     exact Zrt d
    ·rw[if_neg k]at h
     have l:x ∉ a:=fun e=>k ((ZkQ x a).2 e)
     have b:Zsi s x=some ((s.links[i]?).map (·.target) |>.getD ByteArray.empty):=by unfold Zsi;rw[g,hl]
     have m:=Zhf s f (x::a) _ (by simp only[List.length_cons];omega) (List.nodup_cons.2 ⟨l,hn⟩) (fun y c=>by
      rcases List.mem_cons.1 c with rfl|c
      ·obtain⟨z,g,e⟩:=Zis _ _ _ hl
       exact List.mem_map.2 ⟨z,g,e⟩
      ·exact hm y c) (fun y c=>by
      rcases List.mem_cons.1 c with rfl|c
      ·exact⟨0,by rw[Zek,b];rfl⟩
      ·obtain⟨j,d⟩:=d y c
       exact⟨j+1,by rw[show j+1+1=(j+1)+1 from rfl,Zf1,d,Option.bind_some,Zek,b];rfl⟩) h
     intro n
     cases n with
     | zero=>exact fun e=>by cases e
     | succ n=>rw[Zek,b];exact m n
theorem Zin (s:DSource):∀ (f:Nat) (a:List ByteArray) (x:ByteArray),(ZaH s f a x).2≠11->Zek s f x=none
 | 0,_,_,h=>absurd rfl h
 | f+1,a,x,h=>by
  rw[ZaH]at h
  rw[Zek,Zsi]
  cases hz:ZaI x s.zones 0 with
  | some i=>rfl
  | none =>
   rw[hz]at h
   dsimp only at h ⊢
   cases hl:ZaN x s.links 0 with
   | none=>rfl
   | some i =>
    rw[hl]at h
    dsimp only at h ⊢
    by_cases b:memB x a=true
    ·rw[if_pos b]at h;exact absurd rfl h
    ·rw[if_neg b]at h
     exact Zin s f _ _ h
theorem Zim (s:DSource)(x:ByteArray):(ZaH s (s.links.length+1) [] x).2=11↔(ZeK s (s.links.length+1) x).2=11:=by
 rw[ZjW]
 constructor
 ·intro h
  exact Zhf s _ [] x (by simp) List.nodup_nil (fun _ h=>by cases h) (fun _ h=>by cases h) h _
 ·intro h
  exact Decidable.of_not_not fun a=>h (Zin s _ [] x a)
attribute [local irreducible] W RL Does Zaq Zai retQ Calls Pu Stp RD Qy Ay Zaj
theorem ZhB {G G':Prop}(k:G')(h:Hold G'->G:=by intro k9;(refine walk ?_);exact k9.out):G:=h ⟨k⟩
theorem ZqH {G:Prop}(h:G:=by(first|exact PuI|(apply Zau;rfl;rfl;exact b1))):G:=h
theorem Zur {G:Prop}(h:G:=by first|(apply Qy_y;rfl;exact ZqH)|exact QyA):G:=h
theorem Zyj {G:Prop}(h:G:=by repeat (first|exact QF.nil|(apply QF.mk;rfl;rfl;decide +kernel;exact Zur))):G:=h
theorem Zy6 {G:Prop}(h:G:=by(first|exact PuI|(apply ZbF;rfl;rfl;exact bz))):G:=h
theorem ZxZ {G:Prop}(h:G:=by first|(apply Qy_y;rfl;exact Zy6)|exact QyA):G:=h
theorem ZCa {G:Prop}(h:G:=by repeat (first|exact QF.nil|(apply QF.mk;rfl;rfl;decide +kernel;exact ZxZ))):G:=h
theorem ZqG {G:Prop}(h:G:=by(first|exact ZqH|(apply ZbF;rfl;rfl;exact bz))):G:=h
theorem Zqk {G:Prop}(h:G:=by first|(apply Qy_y;rfl;exact ZqG)|exact QyA):G:=h
theorem ZuC {G:Prop}(h:G:=by repeat (first|exact QF.nil|(apply QF.mk;rfl;rfl;decide +kernel;exact Zqk))):G:=h
theorem Zu8 {G:Prop}(h:G:=by(first|exact PuI|(apply Zao;rfl;rfl;exact b1))):G:=h
theorem Zuq {G:Prop}(h:G:=by first|(apply Qy_y;rfl;exact Zu8)|exact QyA):G:=h
theorem Zqt {G:Prop}(h:G:=by repeat (first|exact QF.nil|(apply QF.mk;rfl;rfl;decide +kernel;exact Zuq))):G:=h
set_option maxHeartbeats 2000000 in
theorem Zoe (Ar Az Al As:Option Addr)(r s q cs:Nat)(a:DSource)(w:World)(H:Zak w Ar Az Al As r s q cs a)(S:ZcA a) :
  Does Tryz.prog 128 [srcV Ar Az Al As r s q cs a] w (fun v O=>v=ptV (Zde a)/\O=[]):=by
 have hn:=S.nz
 have I:=S.nl
 have Q:=fun x w' (J:Bel w.heap.size w w')=>Zgs Ar Az Al As r s q cs a x w' (H.up J) hn
 have ac:=fun x w' (J:Bel w.heap.size w w')=>Zgu Ar Az Al As r s q cs a x w' (H.up J) I
 have ab:=fun x w' (J:Bel w.heap.size w w')=>Zn5 Ar Az Al As r s q cs a x w' (H.up J) hn I
 have Z:=fun x w' (J:Bel w.heap.size w w')=>Zjy Ar Az Al As r s q cs a x w' (H.up J) hn I
 have u:=fun x=>Zim a x
 unfold Zde
 obtain⟨R1,W⟩:∃ R,Za6 a a.zones 0=R:=⟨_,rfl⟩
 obtain⟨R2,X⟩:∃ R,Zbm a a.links 0=R:=⟨_,rfl⟩
 obtain⟨R3,Y⟩:∃ R,Zbl a a.links 0=R:=⟨_,rfl⟩
 rw[W,X,Y]
 refine Zaa Tryz.func128 rfl rfl rfl rfl ?_
 repeat (first|refine ZhB ?_|(refine jn ?_;(try intro F);(refine bx ?_;intro g);refine fin ?_))
 rename_i bs
 obtain⟨E,K⟩:∃ E,g=E:=⟨_,rfl⟩
 rw[K]
 clear K g
 refine Zah [(1,.pointer (some ⟨bs,0,none⟩)),(2,.pointer (some ⟨E,0,none⟩))] [.blk E [.int .i64 0,.int .i64 0,.int .i64 0] 138,.blk bs [.slice Ar a.rules.length r,.slice Az a.zones.length s,.slice Al a.links.length q,.slice As a.shifts.length cs] 27]
  (fun k:Nat=>[(4,.int .i64 k)]) (fun _=>[]) (fun k=>k<=a.zones.length/\Za6 a (a.zones.drop k) k=R1) (fun k=>a.zones.length - k) 0 SFA SOA ⟨Nat.zero_le _,W⟩ ?_
 clear W
 rintro k ⟨T,c⟩
 repeat (first|refine ZhB ?_|(refine jn ?_;(try intro F);(refine bx ?_;intro g);refine fin ?_))
 refine Zaf rfl (fun f=>?_) (fun f=>?_)
 ·simp only[decide_eq_true_eq,Int.ofNat_lt]at f
  obtain⟨hna,ae,⟨Ae,ce,af,rfl⟩,hca⟩:=H.z k _ (List.getElem?_eq_getElem f)
  have ad:=(S.zs _ (List.getElem_mem f)).1
  obtain⟨j,hj,aa⟩:=ZmO a.zones 0 k (List.getElem?_eq_getElem f)
  rw[Zag f,Za6]at c
  generalize a.zones[k]=z at *
  have d:=fun w'=>Zjx z.name (by omega) w'
  have D:=Q z.name
  rw[hj]at c D
  simp only[ixN]at D
  cases hb:Zfb z.name with
  | false =>
   rw[hb]at c d
   rw[if_pos rfl]at c
   subst c
   simp only[Option.some_or,ptV,plV,Zap.enc]
   repeat (first|(apply RL_pu;rfl;exact PuI)|refine walk1 ?_|(refine jg ?_;(try intro F);(first|(refine Zac (fun w' _=>d w') ?_)|(refine bx ?_;intro g));first|refine⟨_,EndsA,QFI,?_⟩|refine fin ?_))
   exact rtC
  | true =>
   rw[hb]at c d
   rw[if_neg (by decide)]at c
   by_cases M:j<k
   ·have b1:decide ((j:Int)<(k:Int))=true:=decide_eq_true (by omega)
    rw[if_pos (fun e=>by injection e with e;omega)]at c
    subst c
    simp only[Option.some_or,ptV,plV,Zap.enc]
    repeat (first|(apply RL_pu;rfl;exact ZqH)|(apply RD_Q;rfl;rfl;decide +kernel;rfl;rfl;exact Zur)|refine walk1 ?_|(refine jg ?_;(try intro F);(first|(refine Zac (fun w' _=>d w') ?_)|(refine Zac D ?_)|(refine bx ?_;intro g));first|refine⟨_,EndsA,Zyj,?_⟩|refine fin ?_))
    exact rtC
   ·have b1:decide ((j:Int)<(k:Int))=false:=decide_eq_false (by omega)
    rw[if_neg (fun e=>e (by congr 1;omega))]at c
    repeat (first|(apply RL_pu;rfl;exact ZqH)|(apply RD_Q;rfl;rfl;decide +kernel;rfl;rfl;exact Zur)|refine walk1 ?_|(refine jg ?_;(try intro F);(first|(refine Zac (fun w' _=>d w') ?_)|(refine Zac D ?_)|(refine bx ?_;intro g));first|refine⟨_,EndsA,Zyj,?_⟩|refine fin ?_))
    exact⟨k+1,OA,⟨OA,c⟩,SFA,SOA⟩
 simp only[decide_eq_false_iff_not,Int.ofNat_lt]at f
 rw[List.drop_eq_nil_of_le (by omega),Za6]at c
 subst c
 rw[Option.none_or]
 clear T f
 repeat (first|refine ZhB ?_|(refine jn ?_;(try intro F);(refine bx ?_;intro g);refine fin ?_))
 refine Zah [(1,.pointer (some ⟨bs,0,none⟩)),(2,.pointer (some ⟨E,0,none⟩))] [.blk E [.int .i64 0,.int .i64 0,.int .i64 0] 138,.blk bs [.slice Ar a.rules.length r,.slice Az a.zones.length s,.slice Al a.links.length q,.slice As a.shifts.length cs] 27]
  (fun k:Nat=>[(6,.int .i64 k)]) (fun _=>[]) (fun k=>k<=a.links.length/\Zbm a (a.links.drop k) k=R2) (fun k=>a.links.length - k) 0 SFA SOA ⟨Nat.zero_le _,X⟩ ?_
 clear X k
 rintro k ⟨T,c⟩
 repeat (first|refine ZhB ?_|(refine jn ?_;(try intro F);(refine bx ?_;intro g);refine fin ?_))
 refine Zaf rfl (fun f=>?_) (fun f=>?_)
 ·simp only[decide_eq_true_eq,Int.ofNat_lt]at f
  obtain⟨hna,hca⟩:=H.l.rd k _ (List.getElem?_eq_getElem f)
  have ad:=(S.ls _ (List.getElem_mem f)).2
  obtain⟨j,hj,aa⟩:=ZmP a.links 0 k (List.getElem?_eq_getElem f)
  rw[Zag f,Zbm]at c
  generalize a.links[k]=z at *
  have d:=fun w'=>Zjx z.name (by omega) w'
  have D:=Q z.name
  have N:=ac z.name
  have y:=ab z.target
  have bz:=Zot (ZaI z.name a.zones 0)
  rw[hj]at c N
  simp only[ixN]at N
  generalize ZaI z.name a.zones 0=o1 at *
  generalize ixN o1=n1 at *
  cases hb:Zfb z.name with
  | false =>
   rw[hb]at c d
   rw[if_pos rfl]at c
   subst c
   simp only[Option.some_or,ptV,plV,Zap.enc]
   repeat (first|(apply RL_pu;rfl;exact PuI)|refine walk1 ?_|(refine jg ?_;(try intro F);(first|(refine Zac (fun w' _=>d w') ?_)|(refine bx ?_;intro g));first|refine⟨_,EndsA,QFI,?_⟩|refine fin ?_))
   exact rtC
  | true =>
   rw[hb]at c d
   rw[if_neg (by decide)]at c
   generalize o1.isSome=z1 at *
   cases z1 with
   | true =>
    rw[if_pos (.inl rfl)]at c
    subst c
    simp only[Option.some_or,ptV,plV,Zap.enc]
    repeat (first|(apply RL_pu;rfl;exact Zy6)|(apply RD_Q;rfl;rfl;decide +kernel;rfl;rfl;exact ZxZ)|refine walk1 ?_|(refine jg ?_;(try intro F);(first|(refine Zac (fun w' _=>d w') ?_)|(refine Zac D ?_)|(refine bx ?_;intro g));first|refine⟨_,EndsA,ZCa,?_⟩|refine fin ?_))
    exact rtC
   | false =>
    by_cases M:j<k
    ·have b1:decide ((j:Int)<(k:Int))=true:=decide_eq_true (by omega)
     rw[if_pos (.inr (fun e=>by injection e with e;omega))]at c
     subst c
     simp only[Option.some_or,ptV,plV,Zap.enc]
     repeat (first|(apply RL_pu;rfl;exact ZqG)|(apply RD_Q;rfl;rfl;decide +kernel;rfl;rfl;exact Zqk)|refine walk1 ?_|(refine jg ?_;(try intro F);(first|(refine Zac (fun w' _=>d w') ?_)|(refine Zac D ?_)|(refine Zac N ?_)|(refine bx ?_;intro g));first|refine⟨_,EndsA,ZuC,?_⟩|refine fin ?_))
     exact rtC
    ·have b1:decide ((j:Int)<(k:Int))=false:=decide_eq_false (by omega)
     rw[if_neg (fun e=>e.elim (fun e=>by cases e) (fun e=>e (by congr 1;omega)))]at c
     by_cases m:(ZaI z.target a.zones 0).isNone/\(ZaN z.target a.links 0).isNone
     ·rw[if_pos m]at c
      have U:((ZaI z.target a.zones 0).isSome||(ZaN z.target a.links 0).isSome)=false:=by
       rw[Bool.or_eq_false_iff]
       exact⟨by rw[<- Option.not_isNone,m.1];rfl,by rw[<- Option.not_isNone,m.2];rfl⟩
      rw[U]at y
      subst c
      simp only[Option.some_or,ptV,plV,Zap.enc]
      repeat (first|(apply RL_pu;rfl;exact ZqG)|(apply RD_Q;rfl;rfl;decide +kernel;rfl;rfl;exact Zqk)|refine walk1 ?_|(refine jg ?_;(try intro F);(first|(refine Zac (fun w' _=>d w') ?_)|(refine Zac D ?_)|(refine Zac N ?_)|(refine Zac y ?_)|(refine bx ?_;intro g));first|refine⟨_,EndsA,ZuC,?_⟩|refine fin ?_))
      exact rtC
     ·rw[if_neg m]at c
      have U:((ZaI z.target a.zones 0).isSome||(ZaN z.target a.links 0).isSome)=true:=by
       cases hh:((ZaI z.target a.zones 0).isSome||(ZaN z.target a.links 0).isSome) with
       | true=>rfl
       | false =>
        rw[Bool.or_eq_false_iff]at hh
        exact absurd ⟨by rw[<- Option.not_isSome,hh.1];rfl,by rw[<- Option.not_isSome,hh.2];rfl⟩ m
      rw[U]at y
      repeat (first|(apply RL_pu;rfl;exact ZqG)|(apply RD_Q;rfl;rfl;decide +kernel;rfl;rfl;exact Zqk)|refine walk1 ?_|(refine jg ?_;(try intro F);(first|(refine Zac (fun w' _=>d w') ?_)|(refine Zac D ?_)|(refine Zac N ?_)|(refine Zac y ?_)|(refine bx ?_;intro g));first|refine⟨_,EndsA,ZuC,?_⟩|refine fin ?_))
      exact⟨k+1,OA,⟨OA,c⟩,SFA,SOA⟩
 simp only[decide_eq_false_iff_not,Int.ofNat_lt]at f
 rw[List.drop_eq_nil_of_le (by omega),Zbm]at c
 subst c
 rw[Option.none_or]
 clear T f
 repeat (first|refine ZhB ?_|(refine jn ?_;(try intro F);(refine bx ?_;intro g);refine fin ?_))
 refine Zah [(1,.pointer (some ⟨bs,0,none⟩)),(2,.pointer (some ⟨E,0,none⟩))] [.blk E [.int .i64 0,.int .i64 0,.int .i64 0] 138,.blk bs [.slice Ar a.rules.length r,.slice Az a.zones.length s,.slice Al a.links.length q,.slice As a.shifts.length cs] 27]
  (fun k:Nat=>[(8,.int .i64 k)]) (fun _=>[]) (fun k=>k<=a.links.length/\Zbl a (a.links.drop k) k=R3) (fun k=>a.links.length - k) 0 SFA SOA ⟨Nat.zero_le _,Y⟩ ?_
 clear Y k
 rintro k ⟨T,c⟩
 repeat (first|refine ZhB ?_|(refine jn ?_;(try intro F);(refine bx ?_;intro g);refine fin ?_))
 refine Zaf rfl (fun f=>?_) (fun f=>?_)
 ·simp only[decide_eq_true_eq,Int.ofNat_lt]at f
  obtain⟨hna,hca⟩:=H.l.rd k _ (List.getElem?_eq_getElem f)
  rw[Zag f,Zbl]at c
  generalize a.links[k]=z at *
  have L:=Z z.name
  have u:=u z.name
  generalize ZaH a (a.links.length+1) [] z.name=q1 at *
  generalize ZeK a (a.links.length+1) z.name=q2 at *
  by_cases t:q1.2=11
  ·rw[if_pos t]at c
   subst c
   have b1:decide (q2.2=11)=true:=decide_eq_true (u.1 t)
   simp only[ptV,plV,Zap.enc]
   repeat (first|(apply RL_pu;rfl;exact Zu8)|(apply RD_Q;rfl;rfl;decide +kernel;rfl;rfl;exact Zuq)|refine walk1 ?_|(refine jg ?_;(try intro F);((refine Zac L ?_));refine⟨_,EndsA,Zqt,?_⟩)|(refine jn ?_;(try intro F);(first|(refine bx ?_;intro g)|(apply Zam;exact PuA));refine⟨_,EndsA,Zqt,?_⟩))
   exact rtC
  ·rw[if_neg t]at c
   have b1:decide (q2.2=11)=false:=decide_eq_false (fun e=>t (u.2 e))
   repeat (first|(apply RL_pu;rfl;exact Zu8)|(apply RD_Q;rfl;rfl;decide +kernel;rfl;rfl;exact Zuq)|refine walk1 ?_|(refine jg ?_;(try intro F);((refine Zac L ?_));refine⟨_,EndsA,Zqt,?_⟩)|(refine jn ?_;(try intro F);(first|(refine bx ?_;intro g)|(apply Zam;exact PuA));refine⟨_,EndsA,Zqt,?_⟩))
   exact⟨k+1,OA,⟨OA,c⟩,SFA,SOA⟩
 simp only[decide_eq_false_iff_not,Int.ofNat_lt]at f
 rw[List.drop_eq_nil_of_le (by omega),Zbl]at c
 subst c
 simp only[ptV,plV,Zap.enc]
 repeat (first|refine ZhB ?_|(refine jn ?_;(try intro F);(refine bx ?_;intro g);refine fin ?_))
 exact rtC
end Go.Proofs.YtpipekfmecikmaaGreatDoor
