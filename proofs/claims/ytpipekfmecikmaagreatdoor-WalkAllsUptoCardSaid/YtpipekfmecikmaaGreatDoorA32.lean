/- Parts of the proof. -/
import Derived.Test.YtpipekfmecikmaaGreatDoorA31
set_option maxHeartbeats 0
set_option linter.all false
namespace Go.Proofs.YtpipekfmecikmaaGreatDoor
open Go Go.RowKit Go.Wk Tryz
attribute [local irreducible] W RL Does Zaq Zai retQ Calls Pu Stp RD Qy Ay Zaj
theorem ZqP {G:Prop}(h:G:=by(first|(apply Zap;rfl;rfl;first|exact k0|exact k3|exact k5)|(apply Zal;rfl;rfl;exact x0)|(apply Zau;rfl;rfl;exact k4)|(apply ZcT;rfl;rfl;exact f0))):G:=h
theorem ZpI {G G':Prop}(k:G')(h:Hold G'->G:=by intro k9;(first|refine und ?_|(apply RL_pu;rfl;exact ZqP)|refine walk1 ?_|(refine jg ?_;(try intro F);(refine Zab hex ?_);refine fin ?_));exact k9.out):G:=h ⟨k⟩
theorem Zvs {G:Prop}(h:G:=by(first|exact PuI|(apply Zal;rfl;rfl;exact e0)|(apply Zau;rfl;rfl;exact k4))):G:=h
theorem ZuN {G:Prop}(h:G:=by first|(apply Qy_y;rfl;exact Zvs)|exact QyA):G:=h
theorem ZqD {G:Prop}(h:G:=by repeat (first|exact QF.nil|(apply QF.mk;rfl;rfl;decide +kernel;exact ZuN))):G:=h
theorem ZDh {G:Prop}(h:G:=by(apply Zal;rfl;rfl;exact n2)):G:=h
theorem Zzv {G:Prop}(h:G:=by(apply Zap;rfl;rfl;first|exact k0|exact k3)):G:=h
set_option maxHeartbeats 0 in
theorem Zoo (e:DEra)(A:Option Addr)(c:Nat)(l:List DRule)(w:World)(hA:RdSl w A c DRule.enc 11 l)(ho:I64 e.off)(hs:I64 e.save)(hr:∀ r∈l,I64 r.save)(hn:l.length<=1000000)(y:e.format.size<=1000000000)(aa:∀ r∈l,r.letter.size<=1000000000) :
  Does prog 254 [.agg (DEra.enc e).toArray,.slice A l.length c] w (fun v O=>v = .int .i64 (Zem e l)/\O=[]):=by
 have J:=fun w'=>ZgJ e.format y w'
 have Z:=Zk7 e.format.data.toList
 have hex:=fun w' (hw:Bel w.heap.size w w')=>ZsS e A c l w' (hA.up hw) ho hs hr hn
 have j:=fun w'=>Ze8 e.format ByteArray.empty 0 0 w' y (Nat.zero_le _) ⟨by decide,by decide⟩ ⟨by decide,by decide⟩
 rw[show ByteArray.empty.data.toList=[] from rfl]at j
 have z:=fun(r:DRule) (ab:r∈l) w'=>Ze8 e.format r.letter 0 0 w' y (aa r ab) ⟨by decide,by decide⟩ ⟨by decide,by decide⟩
 unfold Zem
 dsimp only
 have E:=Zce (Zd9 e l).1 e.format
 generalize Zd9 e l=X at *
 obtain⟨xs,U⟩:=X
 have W:∀ F:List UInt8,ZbG F [[]]=(Zdx F 0 0 []).2:=fun F=>by
  unfold ZbG ZbG
  split
  ·rename_i h;exact h.symm
  ·rfl
 rw[show(if e.kind=2 then l.map (fun r=>r.letter.data.toList) else [[]])=(if e.kind=2 then l.map (fun r=>r.letter.data.toList) else [[]]) from rfl]
 obtain⟨off,kind,save,set,format,⟨m,f,d,⟨L,M,dd⟩,⟨us,Q⟩⟩⟩:=e
 dsimp only at J Z j z E y ⊢
 replace hex:∀ w',Bel w.heap.size w w'->Does prog 283 [.agg #[.int .i64 off,.int .i64 kind,.int .i64 save,.string set,.string format,.bool m,.int .i64 f,.int .i64 d,.int .i64 L,.int .i64 M,.int .i64 dd,.int .i64 us,.int .i64 Q],.slice A l.length c] w' (fun v O=>v = .tuple #[.string ⟨xs.toArray⟩,.int .i64 U]/\O=[]):=hex
 generalize hK:ZaP format.data.toList=K at *
 show Does _ _ [.agg #[.int .i64 off,.int .i64 kind,.int .i64 save,.string set,.string format,.bool m,.int .i64 f,.int .i64 d,.int .i64 L,.int .i64 M,.int .i64 dd,.int .i64 us,.int .i64 Q],.slice A l.length c] w _
 refine Zaa func254 rfl rfl rfl rfl ?_
 by_cases q:K=0
 ·have k0:decide (K=0)=true:=dT_ q
  rw[if_pos q]
  repeat (first|(apply RL_pu;rfl;exact ZqP)|refine walk1 ?_|(refine jg ?_;(try intro F);(first|(refine Zab (fun w' _=>J w') ?_)|(refine bx ?_;intro g));first|refine⟨_,EndsA,QFRfY0,?_⟩|refine fin ?_))
  exact rtA
 have k0:decide (K=0)=false:=dF_ q
 rw[if_neg q]
 by_cases s:K=3
 ·rw[if_pos s]
  clear k0
  subst s
  by_cases H:kind=2
  ·subst H
   rw[if_pos rfl]
   repeat (first|refine walk ?_|(refine jg ?_;(try intro F);(first|(refine Zab (fun w' _=>J w') ?_)|(refine bx ?_;intro g));refine fin ?_))
   obtain⟨R,Y⟩:∃ R,ZbG format.data.toList (l.map fun r=>r.letter.data.toList)=R:=⟨_,rfl⟩
   rw[Y]
   refine Zah [(1,.slice A l.length c),(2,.pointer (some ⟨g,0,none⟩)),(5,.int .i64 3)] [.blk g [.int .i64 off,.int .i64 2,.int .i64 save,.string set,.string format,.bool m,.int .i64 f,.int .i64 d,.int .i64 L,.int .i64 M,.int .i64 dd,.int .i64 us,.int .i64 Q] 75] (fun k:Nat=>[(8,.int .i64 k)]) (fun _=>[])
    (fun k=>k<=l.length/\ZbG format.data.toList ((l.drop k).map fun r=>r.letter.data.toList)=R) (fun k=>l.length - k) 0 SFA SOA ⟨Nat.zero_le _,Y⟩ ?_
   clear Y
   rintro k ⟨ac,D⟩
   by_cases I:k<l.length
   ·have k4:decide ((k:Int)<(l.length:Int))=true:=dT_ (by omega)
    obtain⟨hna,hca⟩:=hA.rd k _ (List.getElem?_eq_getElem I)
    have x:=z l[k] (List.getElem_mem I)
    rw[Zag I,List.map_cons,ZbG]at D
    generalize l[k]=r at *
    simp only[DRule.enc]at hca
    generalize Zdx format.data.toList 0 0 r.letter.data.toList=ax at *
    obtain⟨az,S⟩:=ax
    dsimp only at D
    by_cases u:S=0
    ·have e0:(!decide (S=0))=false:=by rw[dT_ u];rfl
     rw[if_pos u]at D
     repeat (first|(apply RL_pu;rfl;exact Zvs)|(apply RD_Q;rfl;rfl;decide +kernel;rfl;rfl;exact ZuN)|refine walk1 ?_|(refine jg ?_;(try intro F);((refine Zab (fun w' _=>x w') ?_));refine⟨_,EndsA,ZqD,?_⟩)|(refine jn ?_;(try intro F);(first|(refine bx ?_;intro g)|(apply Zan;exact PuA));first|refine⟨_,EndsA,ZqD,?_⟩|refine fin ?_))
     exact⟨k+1,OA,⟨OA,D⟩,SFA,SOA⟩
    ·have e0:(!decide (S=0))=true:=by rw[dF_ u];rfl
     rw[if_neg u]at D
     subst D
     repeat (first|(apply RL_pu;rfl;exact Zvs)|(apply RD_Q;rfl;rfl;decide +kernel;rfl;rfl;exact ZuN)|refine walk1 ?_|(refine jg ?_;(try intro F);((refine Zab (fun w' _=>x w') ?_));refine⟨_,EndsA,ZqD,?_⟩)|(refine jn ?_;(try intro F);(first|(refine bx ?_;intro g)|(apply Zan;exact PuA));first|refine⟨_,EndsA,ZqD,?_⟩|refine fin ?_))
     exact rtA
   ·have k4:decide ((k:Int)<(l.length:Int))=false:=dF_ (by omega)
    rw[List.drop_eq_nil_of_le (by omega),List.map_nil,ZbG]at D
    subst D
    repeat (first|(apply RL_pu;rfl;exact ZqP)|refine walk1 ?_)
    exact rtA
  ·have n2:(!decide (kind=2))=true:=by rw[dF_ H];rfl
   rw[if_neg H,W]
   have x:=j
   generalize Zdx format.data.toList 0 0 []=ax at *
   obtain⟨az,S⟩:=ax
   repeat (first|(apply RL_pu;rfl;exact ZDh)|refine walk1 ?_|(refine jg ?_;(try intro F);(first|(refine Zab (fun w' _=>J w') ?_)|(refine Zab (fun w' _=>x w') ?_)|(refine bx ?_;intro g));first|refine⟨_,EndsA,QFRfY2,?_⟩|refine fin ?_))
   exact rtA
 have k3:decide (K=3)=false:=dF_ s
 rw[if_neg s]
 by_cases N:K=4\/K=5
 ·rw[if_pos N]
  have k4:decide (K<4)=false:=dF_ (by omega)
  repeat (first|(apply RL_pu;rfl;exact Zzv)|refine walk1 ?_|(refine jg ?_;(try intro F);(first|(refine Zab (fun w' _=>J w') ?_)|(refine bx ?_;intro g));first|refine⟨_,EndsA,QFRfY3,?_⟩|refine fin ?_))
  refine Zah [(1,.slice A l.length c),(2,.pointer (some ⟨g,0,none⟩)),(5,.int .i64 K)] [.blk g [.int .i64 off,.int .i64 kind,.int .i64 save,.string set,.string format,.bool m,.int .i64 f,.int .i64 d,.int .i64 L,.int .i64 M,.int .i64 dd,.int .i64 us,.int .i64 Q] 75] (fun k:Nat=>[(8,.int .i64 k)]) (fun _=>[])
   (fun k=>k=0) (fun k=>k) 0 SFA SOA rfl ?_
  rintro k rfl
  by_cases hx:U=0
  ·have x0:(!decide (U=0))=false:=by rw[dT_ hx];rfl
   by_cases t:K=5
   ·have k5:decide (K=5)=true:=dT_ t
    by_cases T:xs=format.data.toList
    ·have f0:(!decide ((⟨xs.toArray⟩:ByteArray)=format))=false:=by rw[dT_ (E.2 T)];rfl
     rw[if_neg (by rintro(h|h);exact h hx;exact h.2 T)]
     repeat (refine ZpI ?_)
     exact rtA
    ·have f0:(!decide ((⟨xs.toArray⟩:ByteArray)=format))=true:=by rw[dF_ (fun h=>T (E.1 h))];rfl
     rw[if_pos (.inr ⟨t,T⟩)]
     repeat (refine ZpI ?_)
     exact rtA
   ·have k5:decide (K=5)=false:=dF_ t
    rw[if_neg (by rintro(h|h);exact h hx;exact t h.1)]
    repeat (refine ZpI ?_)
    exact rtA
  ·have x0:(!decide (U=0))=true:=by rw[dF_ hx];rfl
   rw[if_pos (.inl hx)]
   repeat (refine ZpI ?_)
   exact rtA
 ·rw[if_neg N]
  have k4:decide (K<4)=true:=dT_ (by omega)
  repeat (first|(apply RL_pu;rfl;exact Zzv)|refine walk1 ?_|(refine jg ?_;(try intro F);(first|(refine Zab (fun w' _=>J w') ?_)|(refine bx ?_;intro g));first|refine⟨_,EndsA,QFRfY3,?_⟩|refine fin ?_))
  refine Zah [(1,.slice A l.length c),(2,.pointer (some ⟨g,0,none⟩)),(5,.int .i64 K)] [.blk g [.int .i64 off,.int .i64 kind,.int .i64 save,.string set,.string format,.bool m,.int .i64 f,.int .i64 d,.int .i64 L,.int .i64 M,.int .i64 dd,.int .i64 us,.int .i64 Q] 75] (fun k:Nat=>[(8,.int .i64 k)]) (fun _=>[])
   (fun k=>k=0) (fun k=>k) 0 SFA SOA rfl ?_
  rintro k rfl
  repeat (first|(apply RL_pu;rfl;exact ZqP)|refine walk1 ?_)
  exact rtA
theorem Zh4 (Ar Az Al As:Option Addr)(m p j cs:Nat)(a:DSource)(e:DEra)(w:World)(x:Zam w Ar Az Al As m p j cs a)(z:a.rules.length<=1000000) :
  Does prog 255 [srcV Ar Az Al As m p j cs a,.agg e.enc.toArray] w (fun v O=>v = .int .i64 (Zao e.til (Zae (ZaA a.rules e))).1/\O=[]):=by
 have c:=fun w' (g:Bel w.heap.size w w')=>Zd1 Ar Az Al As m p j cs a e w' (x.up g) z
 have q:=fun A3 d w' h=>Zco A3 d (ZaA a.rules e) w' h
 have b:=fun w'=>Zic e.til (Zae (ZaA a.rules e)) w'
 generalize ZaA a.rules e=R at *
 generalize Zae R=L at *
 generalize Zao e.til L=nm at *
 obtain⟨n,ne⟩:=nm
 obtain⟨D,s,t,set,f,⟨J,u,r,⟨H,I,dd⟩,⟨us,K⟩⟩⟩:=e
 dsimp only at c b ⊢
 simp only[DEra.enc]at c ⊢
 simp only[DUntil.enc]at b
 refine Zaa func255 rfl rfl rfl rfl ?_
 repeat (first|refine walk ?_|(refine jg ?_;(try intro F);(first|(apply Zad (h:=fun w' g _=>c w' g);rfl;rintro v O' ⟨A3,d,rfl,rfl⟩)|(refine ZaH (fun w' g y=>q A3 d w' (ZaJ DRule.len (y.of (A := .row (.slice A3 R.length d) 68 11 R.length (R.flatMap DRule.enc)) cS_))) ?_)|(refine Zab (fun w' _=>b w') ?_)|(refine bx ?_;intro E));refine fin ?_)|(refine jn ?_;(try intro F);((apply Zan;exact PuA));refine fin ?_))
 exact rtA
def FarS:Prop:=∀ (l:List DRule) (n:Int),(-1000000000000<=n/\n<=1000000000000)->farD l n=farR l n
theorem ZjV (u:DUntil)(least:Int) : -1000000000000<=(Zao u least).1/\(Zao u least).1<=1000000000000:=by
 unfold Zao
 split
 ·exact⟨by dsimp only;omega,by dsimp only;omega⟩
 ·rename_i h
  have a:ZaF u least=0:=Decidable.not_not.1 h
  have e:=a
  unfold ZaF at a
  dsimp only at a ⊢
  have f : -500000<=(onD u.year u.month u.day).1/\(onD u.year u.month u.day).1<=500000\/¬ (1850<=u.year/\u.year<=2149):=by
   by_cases d:1850<=u.year/\u.year<=2149
   ·left
    unfold onD
    split
    ·exact⟨by decide,by decide⟩
    ·rename_i c
     split
     ·exact⟨by decide,by decide⟩
     ·rename_i b
      split
      ·exact⟨by decide,by decide⟩
      ·simp only[Bool.not_eq_false]at c b
       have j:=ZeO u.year u.month
       have g:=ZeY b
       have i : -100000<=ZaW u.year u.month 1/\ZaW u.year u.month 1<=200000:=by
        unfold ZaW Zb2
        split
        ·have:=Zb3 (u.month+12 - 3).toNat;omega
        ·have:=Zb3 (u.month - 3).toNat;omega
       unfold Zd8 Zbx ZaX
       dsimp only
       repeat' split
       all_goals omega
   ·right;exact d
  repeat' split at a
  all_goals first|(exfalso;omega)|(split <;> omega)
end Go.Proofs.YtpipekfmecikmaaGreatDoor
namespace Go.Proofs.YtpipekfmecikmaaGreatDoor
open Go Go.RowKit Go.Wk Tryz
def ZsA (s:DSource)(x:ByteArray):Option ByteArray :=
 match ZaK x s.zones 0 with
 | some _=>none
 | none=>match ZaO x s.links 0 with
  | none=>none
  | some i=>some ((s.links[i]?).map (·.target) |>.getD ByteArray.empty)
def Zeq (s:DSource):Nat->ByteArray->Option ByteArray
 | 0,x=>some x
 | n+1,x=>(ZsA s x).bind (Zeq s n)
theorem Zgg (s:DSource)(b:Nat):∀ (a:Nat) (x:ByteArray),Zeq s (a+b) x=(Zeq s a x).bind (Zeq s b)
 | 0,x=>by rw[Nat.zero_add];rfl
 | a+1,x=>by
  rw[show a+1+b=(a+b)+1 by omega,Zeq,Zeq,Option.bind_assoc]
  congr 1
  funext y
  exact Zgg s b a y
theorem ZrK {s:DSource}{x:ByteArray}{j:Nat}(h:Zeq s (j+1) x=some x)(n:Nat):Zeq s n x≠none:=by
 have c:∀ k,Zeq s ((j+1)*k) x=some x:=fun k=>by
  induction k with
  | zero=>rfl
  | succ k ih=>rw[Nat.mul_succ,Zgg,ih];exact h
 intro d
 have a:=c n
 have b:(j+1)*n=n+j*n:=by rw[Nat.add_mul];omega
 rw[b,Zgg,d]at a
 cases a
theorem Zj7 (s:DSource):∀ (f:Nat) (x:ByteArray),(ZeS s f x).2=11↔Zeq s f x≠none
 | 0,x=>⟨fun _ h=>(by cases h),fun _=>rfl⟩
 | f+1,x=>by
  rw[ZeS,Zeq,ZsA]
  cases ZaK x s.zones 0 with
  | some i=>exact⟨fun h=>(by cases h),fun h=>absurd rfl h⟩
  | none =>
   cases ZaO x s.links 0 with
   | none=>exact⟨fun h=>(by cases h),fun h=>absurd rfl h⟩
   | some i=>exact Zj7 s f _
theorem Zmy {α:Type}[DecidableEq α]:∀ (a b:List α),a.Nodup->(∀ x∈a,x∈b)->a.length<=b.length
 | [],_,_,_=>Nat.zero_le _
 | x::a,b,hn,hs=>by
  have c:=hs x List.mem_cons_self
  rw[List.nodup_cons]at hn
  have f:=Zmy a (b.erase x) hn.2 fun y d=>(List.mem_erase_of_ne (fun e=>hn.1 (by rw[<- e];exact d))).2 (hs y (List.mem_cons_of_mem _ d))
  rw[List.length_erase_of_mem c]at f
  have:0<b.length:=List.length_pos_of_mem c
  simp only[List.length_cons]
  omega
theorem Zk4 (x:ByteArray):∀ l:List ByteArray,memB x l=true↔x∈l
 | []=>⟨fun h=>(by cases h),fun h=>(by cases h)⟩
 | y::l=>by
  rw[Zim,Bool.or_eq_true,decide_eq_true_eq,Zk4 x l,List.mem_cons]
  exact⟨fun h=>h.elim (fun h => .inl h.symm) .inr,fun h=>h.elim (fun h => .inl h.symm) .inr⟩
theorem ZiE {x:ByteArray}:∀ (l:List DLink) (k i:Nat),ZaO x l k=some i->∃ z∈l,z.name=x
 | [],_,_,h=>by cases h
 | y::l,k,i,h=>by
  rw[ZaO]at h
  by_cases a:y.name=x
  ·exact⟨y,List.mem_cons_self,a⟩
  ·rw[if_neg a]at h
   obtain⟨z,b,e⟩:=ZiE l (k+1) i h
   exact⟨z,List.mem_cons_of_mem _ b,e⟩
theorem Zhr (s:DSource):∀ (f:Nat) (a:List ByteArray) (x:ByteArray),f+a.length=s.links.length+1->a.Nodup->(∀ y∈a,y∈s.links.map (·.name))->(∀ y∈a,∃ j,Zeq s (j+1) y=some x) ->
  (ZaI s f a x).2=11->∀ n,Zeq s n x≠none
 | 0,a,x,hf,hn,hm,_,_=>by
  have:=Zmy _ _ hn hm
  rw[List.length_map]at this
  omega
 | f+1,a,x,hf,hn,hm,d,h=>by
  rw[ZaI]at h
  cases g:ZaK x s.zones 0 with
  | some i=>rw[g]at h;cases h
  | none =>
   rw[g]at h
   dsimp only at h
   cases hl:ZaO x s.links 0 with
   | none=>rw[hl]at h;cases h
   | some i =>
    rw[hl]at h
    dsimp only at h
    by_cases k:memB x a=true
    ·obtain⟨j,d⟩:=d x ((Zk4 x a).1 k)
     exact ZrK d
    ·rw[if_neg k]at h
     have l:x ∉ a:=fun e=>k ((Zk4 x a).2 e)
     have b:ZsA s x=some ((s.links[i]?).map (·.target) |>.getD ByteArray.empty):=by unfold ZsA;rw[g,hl]
     have m:=Zhr s f (x::a) _ (by simp only[List.length_cons];omega) (List.nodup_cons.2 ⟨l,hn⟩) (fun y c=>by
      rcases List.mem_cons.1 c with rfl|c
      ·obtain⟨z,g,e⟩:=ZiE _ _ _ hl
       exact List.mem_map.2 ⟨z,g,e⟩
      ·exact hm y c) (fun y c=>by
      rcases List.mem_cons.1 c with rfl|c
      ·exact⟨0,by rw[Zeq,b];rfl⟩
      ·obtain⟨j,d⟩:=d y c
       exact⟨j+1,by rw[show j+1+1=(j+1)+1 from rfl,Zgg,d,Option.bind_some,Zeq,b];rfl⟩) h
     intro n
     cases n with
     | zero=>exact fun e=>by cases e
     | succ n=>rw[Zeq,b];exact m n
theorem Ziz (s:DSource):∀ (f:Nat) (a:List ByteArray) (x:ByteArray),(ZaI s f a x).2≠11->Zeq s f x=none
 | 0,_,_,h=>absurd rfl h
 | f+1,a,x,h=>by
  rw[ZaI]at h
  rw[Zeq,ZsA]
  cases hz:ZaK x s.zones 0 with
  | some i=>rfl
  | none =>
   rw[hz]at h
   dsimp only at h ⊢
   cases hl:ZaO x s.links 0 with
   | none=>rfl
   | some i =>
    rw[hl]at h
    dsimp only at h ⊢
    by_cases b:memB x a=true
    ·rw[if_pos b]at h;exact absurd rfl h
    ·rw[if_neg b]at h
     exact Ziz s f _ _ h
theorem Ziy (s:DSource)(x:ByteArray):(ZaI s (s.links.length+1) [] x).2=11↔(ZeS s (s.links.length+1) x).2=11:=by
 rw[Zj7]
 constructor
 ·intro h
  exact Zhr s _ [] x (by simp) List.nodup_nil (fun _ h=>by cases h) (fun _ h=>by cases h) h _
 ·intro h
  exact Decidable.of_not_not fun a=>h (Ziz s _ [] x a)
attribute [local irreducible] W RL Does Zaq Zai retQ Calls Pu Stp RD Qy Ay Zaj
theorem ZhM {G G':Prop}(k:G')(h:Hold G'->G:=by intro k9;(refine walk ?_);exact k9.out):G:=h ⟨k⟩
theorem ZqW {G:Prop}(h:G:=by(first|exact PuI|(apply Zau;rfl;rfl;exact b1))):G:=h
theorem ZuQ {G:Prop}(h:G:=by first|(apply Qy_y;rfl;exact ZqW)|exact QyA):G:=h
theorem ZyV {G:Prop}(h:G:=by repeat (first|exact QF.nil|(apply QF.mk;rfl;rfl;decide +kernel;exact ZuQ))):G:=h
theorem ZzJ {G:Prop}(h:G:=by(first|exact PuI|(apply ZbF;rfl;rfl;exact bz))):G:=h
theorem ZyA {G:Prop}(h:G:=by first|(apply Qy_y;rfl;exact ZzJ)|exact QyA):G:=h
theorem ZCM {G:Prop}(h:G:=by repeat (first|exact QF.nil|(apply QF.mk;rfl;rfl;decide +kernel;exact ZyA))):G:=h
theorem ZqV {G:Prop}(h:G:=by(first|exact ZqW|(apply ZbF;rfl;rfl;exact bz))):G:=h
theorem Zqx {G:Prop}(h:G:=by first|(apply Qy_y;rfl;exact ZqV)|exact QyA):G:=h
theorem Zu2 {G:Prop}(h:G:=by repeat (first|exact QF.nil|(apply QF.mk;rfl;rfl;decide +kernel;exact Zqx))):G:=h
theorem ZvC {G:Prop}(h:G:=by(first|exact PuI|(apply Zap;rfl;rfl;exact b1))):G:=h
theorem ZuP {G:Prop}(h:G:=by first|(apply Qy_y;rfl;exact ZvC)|exact QyA):G:=h
theorem ZqG {G:Prop}(h:G:=by repeat (first|exact QF.nil|(apply QF.mk;rfl;rfl;decide +kernel;exact ZuP))):G:=h
set_option maxHeartbeats 0 in
theorem Zoq (Ar Az Al As:Option Addr)(r s q cs:Nat)(a:DSource)(w:World)(H:Zam w Ar Az Al As r s q cs a)(S:ZcH a) :
  Does prog 128 [srcV Ar Az Al As r s q cs a] w (fun v O=>v=ptV (Zdm a)/\O=[]):=by
 have hn:=S.nz
 have I:=S.nl
 have Q:=fun x w' (J:Bel w.heap.size w w')=>ZgG Ar Az Al As r s q cs a x w' (H.up J) hn
 have ac:=fun x w' (J:Bel w.heap.size w w')=>ZgI Ar Az Al As r s q cs a x w' (H.up J) I
 have ab:=fun x w' (J:Bel w.heap.size w w')=>Zog Ar Az Al As r s q cs a x w' (H.up J) hn I
 have Z:=fun x w' (J:Bel w.heap.size w w')=>ZjK Ar Az Al As r s q cs a x w' (H.up J) hn I
 have u:=fun x=>Ziy a x
 unfold Zdm
 obtain⟨R1,W⟩:∃ R,Za8 a a.zones 0=R:=⟨_,rfl⟩
 obtain⟨R2,X⟩:∃ R,Zbp a a.links 0=R:=⟨_,rfl⟩
 obtain⟨R3,Y⟩:∃ R,Zbo a a.links 0=R:=⟨_,rfl⟩
 rw[W,X,Y]
 refine Zaa func128 rfl rfl rfl rfl ?_
 repeat (first|refine ZhM ?_|(refine jn ?_;(try intro F);(refine bx ?_;intro g);refine fin ?_))
 rename_i bs
 obtain⟨E,K⟩:∃ E,g=E:=⟨_,rfl⟩
 rw[K]
 clear K g
 refine Zah [(1,.pointer (some ⟨bs,0,none⟩)),(2,.pointer (some ⟨E,0,none⟩))] [.blk E [.int .i64 0,.int .i64 0,.int .i64 0] 138,.blk bs [.slice Ar a.rules.length r,.slice Az a.zones.length s,.slice Al a.links.length q,.slice As a.shifts.length cs] 27]
  (fun k:Nat=>[(4,.int .i64 k)]) (fun _=>[]) (fun k=>k<=a.zones.length/\Za8 a (a.zones.drop k) k=R1) (fun k=>a.zones.length - k) 0 SFA SOA ⟨Nat.zero_le _,W⟩ ?_
 clear W
 rintro k ⟨T,c⟩
 repeat (first|refine ZhM ?_|(refine jn ?_;(try intro F);(refine bx ?_;intro g);refine fin ?_))
 refine Zaf rfl (fun f=>?_) (fun f=>?_)
 ·simp only[decide_eq_true_eq,Int.ofNat_lt]at f
  obtain⟨hna,ae,⟨Ae,ce,af,rfl⟩,hca⟩:=H.z k _ (List.getElem?_eq_getElem f)
  have ad:=(S.zs _ (List.getElem_mem f)).1
  obtain⟨j,hj,aa⟩:=Zm2 a.zones 0 k (List.getElem?_eq_getElem f)
  rw[Zag f,Za8]at c
  generalize a.zones[k]=z at *
  have d:=fun w'=>ZjI z.name (by omega) w'
  have D:=Q z.name
  rw[hj]at c D
  simp only[ixN]at D
  cases hb:Zfl z.name with
  | false =>
   rw[hb]at c d
   rw[if_pos rfl]at c
   subst c
   simp only[Option.some_or,ptV,plV,Zar.enc]
   repeat (first|(apply RL_pu;rfl;exact PuI)|refine walk1 ?_|(refine jg ?_;(try intro F);(first|(refine Zab (fun w' _=>d w') ?_)|(refine bx ?_;intro g));first|refine⟨_,EndsA,QFI,?_⟩|refine fin ?_))
   exact rtC
  | true =>
   rw[hb]at c d
   rw[if_neg (by decide)]at c
   by_cases M:j<k
   ·have b1:decide ((j:Int)<(k:Int))=true:=dT_ (by omega)
    rw[if_pos (fun e=>by injection e with e;omega)]at c
    subst c
    simp only[Option.some_or,ptV,plV,Zar.enc]
    repeat (first|(apply RL_pu;rfl;exact ZqW)|(apply RD_Q;rfl;rfl;decide +kernel;rfl;rfl;exact ZuQ)|refine walk1 ?_|(refine jg ?_;(try intro F);(first|(refine Zab (fun w' _=>d w') ?_)|(refine Zab D ?_)|(refine bx ?_;intro g));first|refine⟨_,EndsA,ZyV,?_⟩|refine fin ?_))
    exact rtC
   ·have b1:decide ((j:Int)<(k:Int))=false:=dF_ (by omega)
    rw[if_neg (fun e=>e (by congr 1;omega))]at c
    repeat (first|(apply RL_pu;rfl;exact ZqW)|(apply RD_Q;rfl;rfl;decide +kernel;rfl;rfl;exact ZuQ)|refine walk1 ?_|(refine jg ?_;(try intro F);(first|(refine Zab (fun w' _=>d w') ?_)|(refine Zab D ?_)|(refine bx ?_;intro g));first|refine⟨_,EndsA,ZyV,?_⟩|refine fin ?_))
    exact⟨k+1,OA,⟨OA,c⟩,SFA,SOA⟩
 simp only[decide_eq_false_iff_not,Int.ofNat_lt]at f
 rw[List.drop_eq_nil_of_le (by omega),Za8]at c
 subst c
 rw[Option.none_or]
 clear T f
 repeat (first|refine ZhM ?_|(refine jn ?_;(try intro F);(refine bx ?_;intro g);refine fin ?_))
 refine Zah [(1,.pointer (some ⟨bs,0,none⟩)),(2,.pointer (some ⟨E,0,none⟩))] [.blk E [.int .i64 0,.int .i64 0,.int .i64 0] 138,.blk bs [.slice Ar a.rules.length r,.slice Az a.zones.length s,.slice Al a.links.length q,.slice As a.shifts.length cs] 27]
  (fun k:Nat=>[(6,.int .i64 k)]) (fun _=>[]) (fun k=>k<=a.links.length/\Zbp a (a.links.drop k) k=R2) (fun k=>a.links.length - k) 0 SFA SOA ⟨Nat.zero_le _,X⟩ ?_
 clear X k
 rintro k ⟨T,c⟩
 repeat (first|refine ZhM ?_|(refine jn ?_;(try intro F);(refine bx ?_;intro g);refine fin ?_))
 refine Zaf rfl (fun f=>?_) (fun f=>?_)
 ·simp only[decide_eq_true_eq,Int.ofNat_lt]at f
  obtain⟨hna,hca⟩:=H.l.rd k _ (List.getElem?_eq_getElem f)
  have ad:=(S.ls _ (List.getElem_mem f)).2
  obtain⟨j,hj,aa⟩:=Zm3 a.links 0 k (List.getElem?_eq_getElem f)
  rw[Zag f,Zbp]at c
  generalize a.links[k]=z at *
  have d:=fun w'=>ZjI z.name (by omega) w'
  have D:=Q z.name
  have N:=ac z.name
  have y:=ab z.target
  have bz:=ZoF (ZaK z.name a.zones 0)
  rw[hj]at c N
  simp only[ixN]at N
  generalize ZaK z.name a.zones 0=o1 at *
  generalize ixN o1=n1 at *
  cases hb:Zfl z.name with
  | false =>
   rw[hb]at c d
   rw[if_pos rfl]at c
   subst c
   simp only[Option.some_or,ptV,plV,Zar.enc]
   repeat (first|(apply RL_pu;rfl;exact PuI)|refine walk1 ?_|(refine jg ?_;(try intro F);(first|(refine Zab (fun w' _=>d w') ?_)|(refine bx ?_;intro g));first|refine⟨_,EndsA,QFI,?_⟩|refine fin ?_))
   exact rtC
  | true =>
   rw[hb]at c d
   rw[if_neg (by decide)]at c
   generalize o1.isSome=z1 at *
   cases z1 with
   | true =>
    rw[if_pos (.inl rfl)]at c
    subst c
    simp only[Option.some_or,ptV,plV,Zar.enc]
    repeat (first|(apply RL_pu;rfl;exact ZzJ)|(apply RD_Q;rfl;rfl;decide +kernel;rfl;rfl;exact ZyA)|refine walk1 ?_|(refine jg ?_;(try intro F);(first|(refine Zab (fun w' _=>d w') ?_)|(refine Zab D ?_)|(refine bx ?_;intro g));first|refine⟨_,EndsA,ZCM,?_⟩|refine fin ?_))
    exact rtC
   | false =>
    by_cases M:j<k
    ·have b1:decide ((j:Int)<(k:Int))=true:=dT_ (by omega)
     rw[if_pos (.inr (fun e=>by injection e with e;omega))]at c
     subst c
     simp only[Option.some_or,ptV,plV,Zar.enc]
     repeat (first|(apply RL_pu;rfl;exact ZqV)|(apply RD_Q;rfl;rfl;decide +kernel;rfl;rfl;exact Zqx)|refine walk1 ?_|(refine jg ?_;(try intro F);(first|(refine Zab (fun w' _=>d w') ?_)|(refine Zab D ?_)|(refine Zab N ?_)|(refine bx ?_;intro g));first|refine⟨_,EndsA,Zu2,?_⟩|refine fin ?_))
     exact rtC
    ·have b1:decide ((j:Int)<(k:Int))=false:=dF_ (by omega)
     rw[if_neg (fun e=>e.elim (fun e=>by cases e) (fun e=>e (by congr 1;omega)))]at c
     by_cases m:(ZaK z.target a.zones 0).isNone/\(ZaO z.target a.links 0).isNone
     ·rw[if_pos m]at c
      have U:((ZaK z.target a.zones 0).isSome||(ZaO z.target a.links 0).isSome)=false:=by
       rw[Bool.or_eq_false_iff]
       exact⟨by rw[<- Option.not_isNone,m.1];rfl,by rw[<- Option.not_isNone,m.2];rfl⟩
      rw[U]at y
      subst c
      simp only[Option.some_or,ptV,plV,Zar.enc]
      repeat (first|(apply RL_pu;rfl;exact ZqV)|(apply RD_Q;rfl;rfl;decide +kernel;rfl;rfl;exact Zqx)|refine walk1 ?_|(refine jg ?_;(try intro F);(first|(refine Zab (fun w' _=>d w') ?_)|(refine Zab D ?_)|(refine Zab N ?_)|(refine Zab y ?_)|(refine bx ?_;intro g));first|refine⟨_,EndsA,Zu2,?_⟩|refine fin ?_))
      exact rtC
     ·rw[if_neg m]at c
      have U:((ZaK z.target a.zones 0).isSome||(ZaO z.target a.links 0).isSome)=true:=by
       cases hh:((ZaK z.target a.zones 0).isSome||(ZaO z.target a.links 0).isSome) with
       | true=>rfl
       | false =>
        rw[Bool.or_eq_false_iff]at hh
        exact absurd ⟨by rw[<- Option.not_isSome,hh.1];rfl,by rw[<- Option.not_isSome,hh.2];rfl⟩ m
      rw[U]at y
      repeat (first|(apply RL_pu;rfl;exact ZqV)|(apply RD_Q;rfl;rfl;decide +kernel;rfl;rfl;exact Zqx)|refine walk1 ?_|(refine jg ?_;(try intro F);(first|(refine Zab (fun w' _=>d w') ?_)|(refine Zab D ?_)|(refine Zab N ?_)|(refine Zab y ?_)|(refine bx ?_;intro g));first|refine⟨_,EndsA,Zu2,?_⟩|refine fin ?_))
      exact⟨k+1,OA,⟨OA,c⟩,SFA,SOA⟩
 simp only[decide_eq_false_iff_not,Int.ofNat_lt]at f
 rw[List.drop_eq_nil_of_le (by omega),Zbp]at c
 subst c
 rw[Option.none_or]
 clear T f
 repeat (first|refine ZhM ?_|(refine jn ?_;(try intro F);(refine bx ?_;intro g);refine fin ?_))
 refine Zah [(1,.pointer (some ⟨bs,0,none⟩)),(2,.pointer (some ⟨E,0,none⟩))] [.blk E [.int .i64 0,.int .i64 0,.int .i64 0] 138,.blk bs [.slice Ar a.rules.length r,.slice Az a.zones.length s,.slice Al a.links.length q,.slice As a.shifts.length cs] 27]
  (fun k:Nat=>[(8,.int .i64 k)]) (fun _=>[]) (fun k=>k<=a.links.length/\Zbo a (a.links.drop k) k=R3) (fun k=>a.links.length - k) 0 SFA SOA ⟨Nat.zero_le _,Y⟩ ?_
 clear Y k
 rintro k ⟨T,c⟩
 repeat (first|refine ZhM ?_|(refine jn ?_;(try intro F);(refine bx ?_;intro g);refine fin ?_))
 refine Zaf rfl (fun f=>?_) (fun f=>?_)
 ·simp only[decide_eq_true_eq,Int.ofNat_lt]at f
  obtain⟨hna,hca⟩:=H.l.rd k _ (List.getElem?_eq_getElem f)
  rw[Zag f,Zbo]at c
  generalize a.links[k]=z at *
  have L:=Z z.name
  have u:=u z.name
  generalize ZaI a (a.links.length+1) [] z.name=q1 at *
  generalize ZeS a (a.links.length+1) z.name=q2 at *
  by_cases t:q1.2=11
  ·rw[if_pos t]at c
   subst c
   have b1:decide (q2.2=11)=true:=dT_ (u.1 t)
   simp only[ptV,plV,Zar.enc]
   repeat (first|(apply RL_pu;rfl;exact ZvC)|(apply RD_Q;rfl;rfl;decide +kernel;rfl;rfl;exact ZuP)|refine walk1 ?_|(refine jg ?_;(try intro F);((refine Zab L ?_));refine⟨_,EndsA,ZqG,?_⟩)|(refine jn ?_;(try intro F);(first|(refine bx ?_;intro g)|(apply Zan;exact PuA));refine⟨_,EndsA,ZqG,?_⟩))
   exact rtC
  ·rw[if_neg t]at c
   have b1:decide (q2.2=11)=false:=dF_ (fun e=>t (u.2 e))
   repeat (first|(apply RL_pu;rfl;exact ZvC)|(apply RD_Q;rfl;rfl;decide +kernel;rfl;rfl;exact ZuP)|refine walk1 ?_|(refine jg ?_;(try intro F);((refine Zab L ?_));refine⟨_,EndsA,ZqG,?_⟩)|(refine jn ?_;(try intro F);(first|(refine bx ?_;intro g)|(apply Zan;exact PuA));refine⟨_,EndsA,ZqG,?_⟩))
   exact⟨k+1,OA,⟨OA,c⟩,SFA,SOA⟩
 simp only[decide_eq_false_iff_not,Int.ofNat_lt]at f
 rw[List.drop_eq_nil_of_le (by omega),Zbo]at c
 subst c
 simp only[ptV,plV,Zar.enc]
 repeat (first|refine ZhM ?_|(refine jn ?_;(try intro F);(refine bx ?_;intro g);refine fin ?_))
 exact rtC
