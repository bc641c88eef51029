/- Parts of the proof. -/
import Derived.Test.YtpipekfmecikmaaGreatDoorW18
import Derived.Test.YtpipekfmecikmaaGreatDoorW14
import Derived.Test.YtpipekfmecikmaaGreatDoorW09
import Derived.Test.YtpipekfmecikmaaGreatDoorW08
import Derived.Test.YtpipekfmecikmaaGreatDoorW06
set_option maxHeartbeats 4000000
set_option linter.unusedVariables false
set_option linter.unusedSimpArgs false
namespace Go.Proofs.YtpipekfmecikmaaGreatDoor
open Go Go.RowKit Go.Wk
attribute [local irreducible] W RL Does Zat Zaj retQ Calls Pu Stp RD Qy Ay Zak
def Zoz (z:DZone):Bool:=decide (60<z.eras.length)
theorem ZmU {α:Type}(p:α->Bool):∀ (l:List α) (k:Nat),ZbW p l k=match l.findIdx? p with|some i=>((k+i:Nat):Int)|none => -1
 | [],_=>rfl
 | x::l,k=>by
  rw[ZbW,List.findIdx?_cons]
  by_cases h:p x=true
  ·rw[if_pos h,if_pos h];rfl
  ·rw[if_neg h,if_neg h,ZmU p l (k+1)]
   cases l.findIdx? p with
   | none=>rfl
   | some i=>simp only[Option.map_some];congr 1;omega
theorem Zn6 (n:ByteArray)(A:Option Addr)(m c:Nat)(w:World):Does Tryz.prog 173 [.agg #[.string n,.slice A m c]] w (fun v O=>v = .bool (decide (60<m))/\O=[]):=by
 have a:decide ((60:Int)<(m:Int))=decide (60<m):=by rw[decide_eq_decide];omega
 refine Zaa Tryz.func173 rfl rfl rfl rfl ?_
 repeat (first|(apply RL_pu;rfl;(apply Zay;rfl;rfl;exact a))|(refine js ?_;(refine bx ?_;intro b))|refine walk1 ?_)
 exact rtA
theorem ZoF (Ar Az Al As:Option Addr)(r i q cs:Nat)(a:DSource)(w:World)(t:Zal w Ar Az Al As r i q cs a)(y:a.zones.length<=1000000) :
  Does Tryz.prog 172 [.slice Az a.zones.length i,.func (.func 173) #[] #[]] w (fun v O=>v = .int .i64 (ZbW Zoz a.zones 0)/\O=[]):=by
 obtain⟨e,c⟩:∃ e,ZbW Zoz a.zones 0=e:=⟨_,rfl⟩
 rw[c]
 refine Zaa Tryz.func172 rfl rfl rfl rfl ?_
 repeat (first|refine walk ?_)
 refine Zai [(0,.slice Az a.zones.length i),(1,.func (.func 173) #[] #[]),(7,.int .i64 a.zones.length)] [] (fun k:Nat=>[(8,.int .i64 k)]) (fun _=>[]) (fun k=>k<=a.zones.length/\ZbW Zoz (a.zones.drop k) k=e) (fun k=>a.zones.length - k) 0 SFA .nil ⟨Nat.zero_le _,c⟩ ?_
 rintro k ⟨x,d⟩
 repeat (first|refine walk ?_)
 refine Zaf rfl (fun g=>?_) (fun g=>?_)
 ·simp only[decide_eq_true_eq,Int.ofNat_lt]at g
  obtain⟨hna,s,⟨Ae,m,_,rfl⟩,hca⟩:=t.z k _ (List.getElem?_eq_getElem g)
  rw[Zah g,ZbW]at d
  generalize a.zones[k]=z at *
  have j:∀ w',Does Tryz.prog 173 ([]++[.agg #[.string z.name,.slice Ae z.eras.length m]]++[]) w' (fun v O=>v = .bool (decide (60<z.eras.length))/\O=[]):=fun w'=>Zn6 z.name Ae z.eras.length m w'
  rw[show decide (60<z.eras.length)=Zoz z from rfl]at j
  generalize Zoz z=mb at *
  cases mb with
  | true =>
   rw[if_pos rfl]at d
   subst d
   repeat (first|(apply RL_pu;rfl;exact PuI)|(refine js ?_;(refine Zf2 (fun w' u _=>j w') ?_))|refine walk1 ?_)
   exact rtA
  | false =>
   rw[if_neg (by decide)]at d
   repeat (first|(apply RL_pu;rfl;exact PuI)|(refine js ?_;(refine Zf2 (fun w' u _=>j w') ?_))|refine walk1 ?_)
   exact⟨k+1,OA,⟨OA,d⟩,SFA,.nil⟩
 ·simp only[decide_eq_false_iff_not,Int.ofNat_lt]at g
  rw[List.drop_eq_nil_of_le (by omega),ZbW]at d
  subst d
  repeat (first|refine walk ?_)
  exact rtA
theorem Zv5 {G:Prop}(h:G:=by(apply Zay;rfl;rfl;exact b1)):G:=h
theorem Zpy {G:Prop}(h:G:=by(first|exact Zv5|(apply Zay;rfl;rfl;exact b2))):G:=h
theorem Zv4 {G:Prop}(h:G:=by(first|exact Zpy|(apply Zay;rfl;rfl;exact b3))):G:=h
theorem Zv3 {G:Prop}(h:G:=by(first|exact Zv4|(apply Zay;rfl;rfl;exact b4))):G:=h
theorem Zrf (Ar Az Al As:Option Addr)(e f d cs:Nat)(a:DSource)(w:World)(q:Zal w Ar Az Al As e f d cs a)(r:a.zones.length<=1000000) :
  Does Tryz.prog 113 [srcV Ar Az Al As e f d cs a] w (fun v O=>v=ptV (Zc2 a)/\O=[]):=by
 have b:=fun w' (s:Bel w.heap.size w w')=>ZoF Ar Az Al As e f d cs a w' (q.up s) r
 rw[ZmU]at b
 unfold Zc2
 rw[show(fun z:DZone=>decide (60<z.eras.length))=Zoz from rfl]
 generalize a.zones.findIdx? Zoz=fi at *
 refine Zaa Tryz.func113 rfl rfl rfl rfl ?_
 by_cases g:2000<a.rules.length
 ·have b1:decide ((2000:Int)<a.rules.length)=true:=decide_eq_true (by omega)
  rw[if_pos g]
  repeat (first|(apply RL_pu;rfl;exact Zv5)|(refine js ?_;(refine bx ?_;intro c))|refine walk1 ?_)
  exact rtC
 have b1:decide ((2000:Int)<a.rules.length)=false:=decide_eq_false (by omega)
 rw[if_neg g]
 by_cases j:500<a.zones.length
 ·have b2:decide ((500:Int)<a.zones.length)=true:=decide_eq_true (by omega)
  rw[if_pos j]
  repeat (first|(apply RL_pu;rfl;exact Zpy)|(refine js ?_;(refine bx ?_;intro c))|refine walk1 ?_)
  exact rtC
 have b2:decide ((500:Int)<a.zones.length)=false:=decide_eq_false (by omega)
 rw[if_neg j]
 cases fi with
 | some i =>
  dsimp only at b ⊢
  rw[Nat.zero_add]at b
  have b3:decide ((0:Int)<=(i:Int))=true:=decide_eq_true (by omega)
  repeat (first|(apply RL_pu;rfl;(first|exact Zpy|(apply ZbG;rfl;rfl;exact b3)))|(refine js ?_;(first|(refine Zab b ?_)|(refine bx ?_;intro c)))|refine walk1 ?_)
  exact rtC
 | none =>
  dsimp only at b ⊢
  by_cases m:1000<a.links.length
  ·have b3:decide ((1000:Int)<a.links.length)=true:=decide_eq_true (by omega)
   rw[if_pos m]
   repeat (first|(apply RL_pu;rfl;exact Zv4)|(refine js ?_;(first|(refine Zab b ?_)|(refine bx ?_;intro c)))|refine walk1 ?_)
   exact rtC
  have b3:decide ((1000:Int)<a.links.length)=false:=decide_eq_false (by omega)
  rw[if_neg m]
  by_cases p:2000<a.shifts.length
  ·have b4:decide ((2000:Int)<a.shifts.length)=true:=decide_eq_true (by omega)
   rw[if_pos p]
   repeat (first|(apply RL_pu;rfl;exact Zv3)|(refine js ?_;(first|(refine Zab b ?_)|(refine bx ?_;intro c)))|refine walk1 ?_)
   exact rtC
  have b4:decide ((2000:Int)<a.shifts.length)=false:=decide_eq_false (by omega)
  rw[if_neg p]
  repeat (first|(apply RL_pu;rfl;exact Zv3)|(refine js ?_;(first|(refine Zab b ?_)|(refine bx ?_;intro c)))|refine walk1 ?_)
  exact rtC
theorem ZoA (Ar Az Al As:Option Addr)(c d b cs:Nat)(a:DSource)(w:World)(g:Zal w Ar Az Al As c d b cs a)(i:ZcX a) :
  Does Tryz.prog 116 [srcV Ar Az Al As c d b cs a] w (fun v O=>v=ptV (Zc6 a)/\O=[]):=by
 have h:=fun w' (j:Bel w.heap.size w w')=>ZrL Ar Az Al As c d b cs a w' (g.up j) i
 refine Zaa Tryz.func116 rfl rfl rfl rfl ?_
 generalize Zc6 a=o at *
 cases o with
 | none =>
  simp only[ptV,plV,Zaq.enc]at h ⊢
  repeat (first|(refine js ?_;(first|(refine Zab h ?_)|(refine bx ?_;intro f)))|refine walk ?_)
  exact rtC
 | some pe =>
  obtain⟨⟨m,p,q⟩,e⟩:=pe
  simp only[ptV,plV,Zaq.enc]at h ⊢
  repeat (first|(refine js ?_;(first|(refine Zab h ?_)|(refine bx ?_;intro f)))|refine walk ?_)
  exact rtC
structure RlG where
 k:Nat
 i:Nat
theorem ZhU (x:ByteArray)(r:DRule)(l:List DRule)(i k:Nat):ZbY x (r::l) i k=if r.name=x then (match i with|0=>⟨1,k,0⟩|i+1=>ZbY x l i (k+1)) else ZbY x l i (k+1):=by cases i <;> rfl
theorem ZjF (x:ByteArray)(i k:Nat):ZbY x [] i k=⟨0,0,0⟩:=by cases i <;> rfl
theorem Zpx {G:Prop}(h:G:=by(first|exact PuI|(apply Zcl;rfl;rfl;exact hb))):G:=h
theorem ZsV (Ar Az Al As:Option Addr)(t z y cs:Nat)(a:DSource)(x:ByteArray)(i:Nat)(w:World)(A:Zal w Ar Az Al As t z y cs a)(B:a.rules.length<=1000000)(c:i<=1000000) :
  Does Tryz.prog 178 [srcV Ar Az Al As t z y cs a,.string x,.int .i64 i] w (fun v O=>v=plV (ZbY x a.rules i 0)/\O=[]):=by
 obtain⟨f,d⟩:∃ f,ZbY x a.rules i 0=f:=⟨_,rfl⟩
 rw[d]
 refine Zaa Tryz.func178 rfl rfl rfl rfl ?_
 repeat (first|(refine js ?_;(refine bx ?_;intro e))|refine walk ?_)
 obtain⟨q,j⟩:∃ q,e=q:=⟨_,rfl⟩
 rw[j]
 clear j e
 refine Zai [(1,.string x),(6,.pointer (some ⟨q,0,none⟩)),(11,.slice Ar a.rules.length t),(12,.int .i64 a.rules.length)] [.blk q [.int .i64 0,.int .i64 0,.int .i64 0] 138] (fun g:RlG=>[(2,.int .i64 g.i),(13,.int .i64 g.k)]) (fun _=>[]) (fun g=>g.k<=a.rules.length/\g.i<=1000000/\ZbY x (a.rules.drop g.k) g.i g.k=f) (fun g=>a.rules.length - g.k) ⟨0,i⟩ SFA SOA ⟨Nat.zero_le _,c,d⟩ ?_
 clear c d
 rintro⟨k,i⟩ ⟨hk,hi6,c⟩
 dsimp only at hk hi6 c ⊢
 repeat (first|(refine js ?_;(refine bx ?_;intro e))|refine walk ?_)
 refine Zaf rfl (fun m=>?_) (fun m=>?_)
 ·simp only[decide_eq_true_eq,Int.ofNat_lt]at m
  obtain⟨hna,hca⟩:=A.r.rd k _ (List.getElem?_eq_getElem m)
  rw[Zah m,ZhU]at c
  generalize a.rules[k]=r at *
  by_cases s:r.name=x
  ·have hb:(!decide (r.name=x))=false:=by rw[decide_eq_true s];rfl
   rw[if_pos s]at c
   cases i with
   | zero =>
    dsimp only at c
    subst c
    repeat (first|(apply RL_pu;rfl;exact Zpx)|(refine js ?_;(refine bx ?_;intro e))|refine walk1 ?_)
    exact ret_1 _ [] (.cellB rfl (by repeat' constructor) rfl rfl) .nil ⟨rfl,rfl⟩
   | succ i =>
    dsimp only at c
    have u:decide (((i+1:Nat):Int)=0)=false:=decide_eq_false (by omega)
    repeat (first|(apply RL_pu;rfl;(first|exact Zpx|(apply Zap;rfl;rfl;exact u)))|(refine js ?_;(refine bx ?_;intro e))|refine walk1 ?_)
    rw[show((i+1:Nat):Int) - 1=(i:Int) by omega]
    exact⟨⟨k+1,i⟩,OA,⟨OA,OA,c⟩,SFA,SOA⟩
  ·have hb:(!decide (r.name=x))=true:=by rw[decide_eq_false s];rfl
   rw[if_neg s]at c
   repeat (first|(apply RL_pu;rfl;exact Zpx)|(refine js ?_;(refine bx ?_;intro e))|refine walk1 ?_)
   exact⟨⟨k+1,i⟩,OA,⟨OA,OA,c⟩,SFA,SOA⟩
 ·simp only[decide_eq_false_iff_not,Int.ofNat_lt]at m
  rw[List.drop_eq_nil_of_le (by omega),ZjF]at c
  subst c
  repeat (first|(refine js ?_;(refine bx ?_;intro e))|refine walk ?_)
  exact ret_1 _ [] (.cellB rfl (by repeat' constructor) rfl rfl) .nil ⟨rfl,rfl⟩
theorem ZeT:∀ (l:List DRule) (a:List ByteArray) (x:ByteArray),x∈ZbC l a->x∈a\/∃ r∈l,r.name=x
 | [],a,x,h => .inl h
 | r::l,a,x,h=>by
  rw[ZbC]at h
  split at h
  ·rcases ZeT l a x h with h|⟨q,hq,e⟩
   ·exact .inl h
   ·exact .inr ⟨q,List.mem_cons_of_mem _ hq,e⟩
  ·rcases ZeT l _ x h with h|⟨q,hq,e⟩
   ·rcases List.mem_append.1 h with h|h
    ·exact .inl h
    ·simp only[List.mem_singleton]at h;exact .inr ⟨r,List.mem_cons_self,h.symm⟩
   ·exact .inr ⟨q,List.mem_cons_of_mem _ hq,e⟩
theorem ZeU:∀ (l:List DRule) (a:List ByteArray),(ZbC l a).length<=a.length+l.length
 | [],a=>Nat.le_refl _
 | r::l,a=>by
  rw[ZbC]
  split
  ·have:=ZeU l a;simp only[List.length_cons];omega
  ·have:=ZeU l (a++[r.name]);simp only[List.length_append,List.length_cons,List.length_nil]at this ⊢;omega
theorem Zkm:∀ (l:List Zac) (e:Zac),Zcy l=some e->e∈l
 | [],_,h=>by cases h
 | [_],_,h=>by cases h
 | a::b::l,e,h=>by
  rw[Zcy]at h
  split at h
  ·simp only[Option.some.injEq]at h;subst h;exact List.mem_cons_of_mem _ List.mem_cons_self
  ·exact List.mem_cons_of_mem _ (Zkm (b::l) e h)
theorem Zjw (least y:Int):∀ (l:List DRule) (i:Nat),∀ e∈ZcA least y l i,∃ j:Nat,e.rule=j/\j<i+l.length
 | [],_=>fun e h=>by cases h
 | r::l,i=>fun e a=>by
  rw[ZcA]at a
  rcases List.mem_append.1 a with h|h
  ·have:onR least r i y=some e:=by
    cases ho:onR least r i y with
    | none=>rw[ho]at h;cases h
    | some x=>rw[ho]at h;simp only[Option.toList,List.mem_singleton]at h;rw[h]
   unfold onR at this
   split at this
   ·cases this
   ·split at this
    ·cases this
    ·simp only[Option.some.injEq]at this
     subst this
     exact⟨i,rfl,by simp⟩
  ·obtain⟨j,b,c⟩:=Zjw least y l (i+1) e h
   exact⟨j,b,by simp only[List.length_cons];omega⟩
theorem Znl (l:List DRule)(least a:Int):∀ k,∀ e∈allC l least a k,∃ j:Nat,e.rule=j/\j<l.length
 | 0=>fun e h=>by cases h
 | k+1=>fun e b=>by
  rw[allC]at b
  rcases List.mem_append.1 b with h|h
  ·exact Znl l least a k e h
  ·have:=Zjw _ _ _ _ e h
   simpa using this
theorem Zi8 (l:List DRule)(e:Zac)(h:ZeD l=some e):∃ j:Nat,e.rule=j/\j<l.length:=by
 rw[<- Znj]at h
 exact Znl _ _ _ _ e (List.mem_mergeSort.1 (Zkm _ _ h))
def ZgJ (s:DSource):Prop:=∀ r∈s.rules,(-4611686018427387904<=r.save/\r.save<=4611686018427387904)/\r.from_<=4611686018427387904
theorem Zov {l:List DRule}{x:ByteArray}{r:DRule}(h:r∈ofB l x):r∈l:=(List.mem_filter.1 h).1
def SavI (s:DSource):Prop:=∀ r∈s.rules,-9223372036854775808<=r.save/\r.save<=9223372036854775807
theorem ZdS (least:Int):∀ (l:List DRule) (k:Nat),ZaS least l k=none->∀ r∈l,Zbp r least=0
 | [],_,_,_,h=>by cases h
 | x::l,k,h,r,hr=>by
  rw[ZaS]at h
  by_cases a:Zbp x least=0
  ·rw[if_pos a]at h
   rcases List.mem_cons.1 hr with rfl|hr
   ·exact a
   ·exact ZdS least l (k+1) h r hr
  ·rw[if_neg a]at h
   cases h
theorem ZsW {r:DRule}{least:Int}(h:Zbp r least=0):(-4611686018427387904<=r.save/\r.save<=4611686018427387904)/\r.from_<=4611686018427387904:=by
 unfold Zbp at h
 split at h
 ·cases h
 ·rename_i b
  split at h
  ·cases h
  ·split at h
   ·cases h
   ·split at h
    ·cases h
    ·split at h
     ·cases h
     ·rename_i d
      have c:(decide (-10800<=r.save)&&decide (r.save<=10800))=true:=by
       cases hh:(decide (-10800<=r.save)&&decide (r.save<=10800)) with
       | true=>rfl
       | false=>exact absurd hh d
      have a:Zbm r.from_=true:=by
       cases hh:Zbm r.from_ with
       | true=>rfl
       | false=>rw[hh]at b;exact absurd rfl b
      unfold Zbm at a
      simp only[Bool.and_eq_true,decide_eq_true_eq]at a c
      omega
theorem Zl4 {l:List DRule}(h:(Zcv l).2=0):∀ r∈l,(-4611686018427387904<=r.save/\r.save<=4611686018427387904)/\r.from_<=4611686018427387904:=by
 intro r b
 unfold Zcv at h
 cases hf:ZaS (Zag l) l 0 with
 | none=>exact ZsW (ZdS _ l 0 hf r b)
 | some x =>
  rw[hf]at h
  exfalso
  have:∀ (l:List DRule) (k:Nat) (x:Nat × Int) (m:Int),ZaS m l k=some x->x.2≠0:=fun l=>by
   induction l with
   | nil=>intro k x m h;cases h
   | cons y l ih =>
    intro k x m h
    rw[ZaS]at h
    split at h
    ·exact ih _ _ _ h
    ·rename_i a
     simp only[Option.some.injEq]at h
     rw[<- h]
     exact a
  exact this _ _ _ _ hf h
theorem Zc5:∀ (l:List DRule) (a:List ByteArray),(∀ x∈a,x∈ZbC l a)/\∀ r∈l,r.name∈ZbC l a
 | [],a=>⟨fun _ h=>h,fun _ h=>by cases h⟩
 | y::l,a=>by
  rw[ZbC]
  by_cases d:memB y.name a=true
  ·rw[if_pos d]
   have c:=Zc5 l a
   refine⟨c.1,fun r b=>?_⟩
   rcases List.mem_cons.1 b with rfl|b
   ·refine c.1 _ ?_
    have:∀ (l:List ByteArray) (x:ByteArray),memB x l=true->x∈l:=fun l=>by
     induction l with
     | nil=>intro x h;cases h
     | cons z l ih2 =>
      intro x h
      rw[memB,Bool.or_eq_true,decide_eq_true_eq]at h
      rcases h with rfl|h
      ·exact List.mem_cons_self
      ·exact List.mem_cons_of_mem _ (ih2 x h)
    exact this _ _ d
   ·exact c.2 r b
  ·rw[if_neg d]
   have c:=Zc5 l (a++[y.name])
   refine⟨fun x e=>c.1 x (List.mem_append_left _ e),fun r b=>?_⟩
   rcases List.mem_cons.1 b with rfl|b
   ·exact c.1 _ (List.mem_append_right _ (List.mem_singleton.2 rfl))
   ·exact c.2 r b
theorem ZhT (rs:List DRule):∀ l:List ByteArray,Zcw rs l=none->∀ x∈l,(Zcv (ofB rs x)).2=0
 | [],_,_,h=>by cases h
 | y::l,h,x,hx=>by
  rw[Zcw]at h
  cases hf:ZbX rs y with
  | some z=>rw[hf]at h;cases h
  | none =>
   rw[hf]at h
   rcases List.mem_cons.1 hx with rfl|hx
   ·unfold ZbX at hf
    split at hf
    ·cases hf
    ·split at hf
     ·cases hf
     ·rename_i a
      exact Decidable.of_not_not a
   ·exact ZhT rs l h x hx
theorem ZlZ {s:DSource}(h:Ze6 s=none):ZgJ s:=fun r a =>
 Zl4 (ZhT s.rules _ h r.name ((Zc5 s.rules []).2 r a)) r (List.mem_filter.2 ⟨a,decide_eq_true rfl⟩)
theorem Zic (l:List DRule)(x:ByteArray):(ofB l x).length<=l.length:=List.length_filter_le _ _
theorem ZiB (least:Int):∀ (l:List DRule) (i:Nat) (j:Nat) (e:Int),ZaS least l i=some (j,e)->j<i+l.length
 | [],_,_,_,h=>by cases h
 | r::l,i,j,e,h=>by
  rw[ZaS]at h
  split at h
  ·have:=ZiB least l (i+1) j e h;simp only[List.length_cons];omega
  ·simp only[Option.some.injEq,Prod.mk.injEq]at h;simp only[List.length_cons];omega
theorem ZpQ (l:List DRule):(Zcv l).1<=l.length:=by
 unfold Zcv
 split
 ·rename_i x h
  obtain⟨j,e⟩:=x
  have:=ZiB _ l 0 j e h
  simp only at this ⊢
  omega
 ·repeat' split
  all_goals exact Nat.zero_le _
theorem ZlH {G:Prop}(h:G:=by(first|(apply ZaG;rfl;rfl;omega;omega;(intro w' _ hO;exact(Za2 (hO.of (A := .row (.slice An N.length cn) 9 1 N.length (N.flatMap ZaO)) (by repeat' constructor)) hg1).1))|(apply Zb9;rfl;(focus repeat' constructor);exact hg1))):G:=h
theorem ZrK (Ar Az Al As:Option Addr)(F H E cs:Nat)(a:DSource)(w:World)(hG:Glob w)(S:Zal w Ar Az Al As F H E cs a)(V:ZcX a)(hV:SavI a) :
  Does Tryz.prog 114 [srcV Ar Az Al As F H E cs a] w (fun v O=>v=ptV (Ze6 a)/\O=[]):=by
 have Y:=V.nr
 have L:=fun w' (c:Bel w.heap.size w w')=>ZrH Ar Az Al As F H E cs a w' (S.up c) Y
 have U:=ZeT a.rules []
 have T:=ZeU a.rules []
 unfold Ze6
 generalize ZbC a.rules []=N at *
 simp only[List.length_nil,Nat.zero_add]at T
 obtain⟨D,s⟩:∃ D,Zcw a.rules N=D:=⟨_,rfl⟩
 rw[s]
 refine Zaa Tryz.func114 rfl rfl rfl rfl ?_
 repeat (first|(refine js ?_;(first|(apply Zae (h:=fun w' c _=>L w' c);rfl;rintro v O' ⟨An,cn,rfl,rfl⟩)|(refine bx ?_;intro B)))|refine walk ?_)
 rename_i b1
 obtain⟨M,u⟩:∃ M,B=M:=⟨_,rfl⟩
 rw[u]
 clear u B
 refine Zai [(1,.pointer (some ⟨b1,0,none⟩)),(2,.pointer (some ⟨M,0,none⟩)),(12,.slice An N.length cn),(13,.int .i64 N.length)] [.row (.slice An N.length cn) 9 1 N.length (N.flatMap ZaO),.blk M [.int .i64 0,.int .i64 0,.int .i64 0] 138,.blk b1 [.slice Ar a.rules.length F,.slice Az a.zones.length H,.slice Al a.links.length E,.slice As a.shifts.length cs] 174]
  (fun k:Nat=>[(14,.int .i64 k)]) (fun _=>[]) (fun k=>k<=N.length/\Zcw a.rules (N.drop k)=D) (fun k=>N.length - k) 0 SFA SOA ⟨Nat.zero_le _,s⟩ ?_
 clear L s
 rintro k ⟨hk,d⟩
 repeat (first|(refine js ?_;(refine bx ?_;intro B))|refine walk ?_)
 refine Zaf rfl (fun I=>?_) (fun I=>?_)
 ·simp only[decide_eq_true_eq,Int.ofNat_lt]at I
  have hg1:(N.flatMap ZaO)[k*1]?=some (.string N[k]):=by
   have:=ZaC (enc:=ZaO) (fun _=>rfl) N k _ 0 (.string N[k]) (List.getElem?_eq_getElem I) rfl
   simpa using this
  have Z:=U _ (List.getElem_mem I)
  rw[Zah I,Zcw]at d
  generalize N[k]=x at *
  have hxs:x.size<=1000000000:=by
   rcases Z with h|⟨r,J,rfl⟩
   ·cases h
   ·exact(V.rs r J).1
  have z:=fun w' (c:Bel w.heap.size w w')=>ZfJ Ar Az Al As F H E cs a x w' (S.up c) Y
  have f:=fun w'=>Zwj x (by omega) w'
  have K:∀ r∈ofB a.rules x,r∈a.rules:=fun r h=>Zov h
  have hRl:=Zic a.rules x
  have y:=fun A3 g w' (c:Bel w.heap.size w w') h=>Zl3 A3 g (ofB a.rules x) w' (hG.up c) h (by omega) (fun r J=>⟨hV r (K r J),by have:=(V.rs r (K r J)).2;omega⟩)
  have q:=fun(hz:(Zcv (ofB a.rules x)).2=0) A3 g w' (c:Bel w.heap.size w w') h=>Zsh A3 g (ofB a.rules x) w' (hG.up c) h (by omega) (fun r J=>(Zl4 hz r J).1)
  have t:=fun(i:Nat) (d:i<=1000000) w' (c:Bel w.heap.size w w')=>ZsV Ar Az Al As F H E cs a x i w' (S.up c) Y d
  have X:=ZpQ (ofB a.rules x)
  have W:=Zi8 (ofB a.rules x)
  unfold ZbX at d
  generalize ofB a.rules x=R at *
  cases hsb:setB x with
  | false =>
   rw[hsb]at d f
   rw[if_pos rfl]at d
   dsimp only at d
   have m:=t 0 (Nat.zero_le _)
   generalize ZbY x a.rules 0 0=pl at *
   obtain⟨p1,p2,p3⟩:=pl
   simp only[plV,Zaq.enc]at m
   subst d
   simp only[ptV,plV,Zaq.enc]
   repeat (first|(apply RL_pu;rfl;exact ZlH)|(refine js ?_;(first|(apply Zae (h:=fun w' c _=>z w' c);rfl;rintro v O' ⟨A3,g,rfl,rfl⟩)|(refine Zab (fun w' c=>f w') ?_)|(refine Zab m ?_)|(refine bx ?_;intro B)))|refine walk1 ?_)
   exact rtC
  | true =>
   rw[hsb]at d f
   rw[if_neg (by decide)]at d
   generalize Zcv R=rc at *
   obtain⟨ci,Q⟩:=rc
   dsimp only at d y X q
   by_cases C:Q=0
   ·subst C
    replace q:=q rfl
    rw[if_neg (fun h=>h rfl)]at d
    generalize ZeD R=ap at *
    cases ap with
    | none =>
     simp only[apV,Zac.enc,dEv0]at q
     dsimp only at d
     repeat (first|(apply RL_pu;rfl;exact ZlH)|(refine js ?_;(first|(apply Zae (h:=fun w' c _=>z w' c);rfl;rintro v O' ⟨A3,g,rfl,rfl⟩)|(refine Zab (fun w' c=>f w') ?_)|(refine ZaH (fun w' c hO=>y A3 g w' c (ZaP DRule.len (hO.of (A := .row (.slice A3 R.length g) 68 11 R.length (R.flatMap DRule.enc)) (by repeat' constructor)))) ?_)|(refine ZaH (fun w' c hO=>q A3 g w' c (ZaP DRule.len (hO.of (A := .row (.slice A3 R.length g) 68 11 R.length (R.flatMap DRule.enc)) (by repeat' constructor)))) ?_)|(refine bx ?_;intro B)))|refine walk1 ?_)
     exact⟨k+1,OA,⟨OA,d⟩,SFA,SOA⟩
    | some e =>
     obtain⟨j,hj,hjl⟩:=W e rfl
     obtain⟨ey,er,en⟩:=e
     dsimp only at hj
     subst hj
     simp only[apV,Zac.enc]at q
     simp only[Int.toNat_natCast]at d
     have m:=t j (by omega)
     generalize ZbY x a.rules j 0=pl at *
     obtain⟨p1,p2,p3⟩:=pl
     simp only[plV,Zaq.enc]at m
     subst d
     simp only[ptV,plV,Zaq.enc]
     repeat (first|(apply RL_pu;rfl;exact ZlH)|(refine js ?_;(first|(apply Zae (h:=fun w' c _=>z w' c);rfl;rintro v O' ⟨A3,g,rfl,rfl⟩)|(refine Zab (fun w' c=>f w') ?_)|(refine ZaH (fun w' c hO=>y A3 g w' c (ZaP DRule.len (hO.of (A := .row (.slice A3 R.length g) 68 11 R.length (R.flatMap DRule.enc)) (by repeat' constructor)))) ?_)|(refine ZaH (fun w' c hO=>q A3 g w' c (ZaP DRule.len (hO.of (A := .row (.slice A3 R.length g) 68 11 R.length (R.flatMap DRule.enc)) (by repeat' constructor)))) ?_)|(refine Zab m ?_)|(refine bx ?_;intro B)))|refine walk1 ?_)
     exact rtC
   ·rw[if_pos C]at d
    dsimp only at d
    have hb:decide (Q=0)=false:=decide_eq_false C
    have u:(!decide (Q=0))=true:=by rw[hb];rfl
    have m:=t ci (by omega)
    generalize ZbY x a.rules ci 0=pl at *
    obtain⟨p1,p2,p3⟩:=pl
    simp only[plV,Zaq.enc]at m
    subst d
    simp only[ptV,plV,Zaq.enc]
    repeat (first|(apply RL_pu;rfl;(first|exact ZlH|(apply Zap;rfl;rfl;exact hb)|(apply Zan;rfl;rfl;exact u)))|(refine js ?_;(first|(apply Zae (h:=fun w' c _=>z w' c);rfl;rintro v O' ⟨A3,g,rfl,rfl⟩)|(refine Zab (fun w' c=>f w') ?_)|(refine ZaH (fun w' c hO=>y A3 g w' c (ZaP DRule.len (hO.of (A := .row (.slice A3 R.length g) 68 11 R.length (R.flatMap DRule.enc)) (by repeat' constructor)))) ?_)|(refine Zab m ?_)|(refine bx ?_;intro B)))|refine walk1 ?_)
    exact rtC
 ·simp only[decide_eq_false_iff_not,Int.ofNat_lt]at I
  rw[List.drop_eq_nil_of_le (by omega),Zcw]at d
  subst d
  repeat (first|(refine js ?_;(refine bx ?_;intro B))|refine walk ?_)
  exact rtC
theorem ZAS {α:Type}{w:World}{A:Option Addr}{c sz:Nat}{enc:α->List Value}{l:List α}(h:RdSl w A c enc sz l)(k:Nat):RdSl w A c enc sz (l.take k) where
 le:=by have:=h.le;rw[List.length_take];omega
 cap:=h.cap
 rd:=fun j x a=>h.rd j x (by
  rw[List.getElem?_take]at a
  split at a
  ·exact a
  ·cases a)
theorem Zv2 {G:Prop}(h:G:=by(first|exact PuI|(apply Zap;rfl;rfl;exact hb))):G:=h
theorem Zpw {G:Prop}(h:G:=by(first|exact Zv2|(apply Pu_sliceH;rfl;rfl;omega;omega))):G:=h
theorem ZsE {G G':Prop}(k:G')(h:Hold G'->G:=by intro k9;(first|(apply RL_pu;rfl;exact Zpw)|(refine js ?_;(first|(refine ZaH (fun w' hw hO=>hot A3 c3 w' (ZaP DRule.len (hO.of (A := .row (.slice A3 R.length c3) 68 11 R.length (R.flatMap DRule.enc)) (by repeat' constructor)))) ?_)|(refine Zab hco ?_)|(refine ZaH (fun w' hw hO=>hle A3 c3 w' (ZaP DRule.len (hO.of (A := .row (.slice A3 R.length c3) 68 11 R.length (R.flatMap DRule.enc)) (by repeat' constructor)))) ?_)))|refine walk1 ?_);exact k9.out):G:=h ⟨k⟩
theorem Zmz (Ar Az Al As:Option Addr)(r t q cs:Nat)(a:DSource)(w:World)(u:Zal w Ar Az Al As r t q cs a)(D:ZcX a) :
  Does Tryz.prog 115 [srcV Ar Az Al As r t q cs a] w (fun v O=>v=ptV (ZaV a a.shifts [] 0)/\O=[]):=by
 have F:=D.nr
 have H:=D.ns
 have E:=u.s.le
 obtain⟨i,e⟩:∃ i,ZaV a a.shifts [] 0=i:=⟨_,rfl⟩
 rw[e]
 refine Zaa Tryz.func115 rfl rfl rfl rfl ?_
 repeat (first|(refine js ?_;(refine bx ?_;intro f))|refine walk ?_)
 rename_i C
 obtain⟨m,g⟩:∃ m,f=m:=⟨_,rfl⟩
 rw[g]
 clear g f
 refine Zai [(1,.pointer (some ⟨C,0,none⟩)),(2,.pointer (some ⟨m,0,none⟩)),(12,.slice As a.shifts.length cs),(13,.int .i64 a.shifts.length)] [.blk m [.int .i64 0,.int .i64 0,.int .i64 0] 138,.blk C [.slice Ar a.rules.length r,.slice Az a.zones.length t,.slice Al a.links.length q,.slice As a.shifts.length cs] 174]
  (fun k:Nat=>[(14,.int .i64 k)]) (fun _=>[]) (fun k=>k<=a.shifts.length/\ZaV a (a.shifts.drop k) (a.shifts.take k) k=i) (fun k=>a.shifts.length - k) 0 SFA SOA ⟨Nat.zero_le _,e⟩ ?_
 clear e
 rintro k ⟨J,c⟩
 repeat (first|(refine js ?_;(refine bx ?_;intro f))|refine walk ?_)
 refine Zaf rfl (fun j=>?_) (fun j=>?_)
 ·simp only[decide_eq_true_eq,Int.ofNat_lt]at j
  obtain⟨hna,hca⟩:=u.s.rd k _ (List.getElem?_eq_getElem j)
  have B:=List.take_append_getElem j
  have hco:=fun w' (hw:Bel w.heap.size w w')=>Zlh As cs (a.shifts.take k) a.shifts[k] w' ((ZAS u.s k).up hw)
  rw[show(a.shifts.take k).length=k by rw[List.length_take];omega]at hco
  rw[Zah j,ZaV]at c
  rw[B]at c
  generalize a.shifts[k]=x at *
  have d:=fun w' (hw:Bel w.heap.size w w')=>ZfJ Ar Az Al As r t q cs a x w' (u.up hw) F
  have hot:=fun A3 c3 w' h=>ZjV A3 c3 (ofB a.rules x) w' h
  have hle:=fun A3 c3 w' h=>ZcI A3 c3 (ofB a.rules x) w' h
  generalize ofB a.rules x=R at *
  generalize ZbS R=od at *
  obtain⟨K,I⟩:=od
  dsimp only at c hot
  by_cases y:R=[]
  ·rw[if_pos y]at c
   subst c
   have hb:decide ((R.length:Int)=0)=true:=by rw[y];rfl
   simp only[ptV,plV,Zaq.enc]
   repeat (first|(apply RL_pu;rfl;exact Zv2)|(refine js ?_;(first|(apply Zae (h:=fun w' hw _=>d w' hw);rfl;rintro v O' ⟨A3,c3,rfl,rfl⟩)|(refine ZaH (fun w' hw hO=>hot A3 c3 w' (ZaP DRule.len (hO.of (A := .row (.slice A3 R.length c3) 68 11 R.length (R.flatMap DRule.enc)) (by repeat' constructor)))) ?_)|(refine bx ?_;intro f)))|refine walk1 ?_)
   exact rtC
  rw[if_neg y]at c
  have hb:decide ((R.length:Int)=0)=false:=decide_eq_false (fun h=>y (List.eq_nil_of_length_eq_zero (by omega)))
  cases hm:memB x (a.shifts.take k) with
  | true =>
   rw[hm]at c hco
   rw[if_pos rfl]at c
   subst c
   simp only[ptV,plV,Zaq.enc]
   repeat (first|(apply RL_pu;rfl;exact Zpw)|(refine js ?_;(first|(apply Zae (h:=fun w' hw _=>d w' hw);rfl;rintro v O' ⟨A3,c3,rfl,rfl⟩)|(refine ZaH (fun w' hw hO=>hot A3 c3 w' (ZaP DRule.len (hO.of (A := .row (.slice A3 R.length c3) 68 11 R.length (R.flatMap DRule.enc)) (by repeat' constructor)))) ?_)|(refine Zab hco ?_)|(refine bx ?_;intro f)))|refine walk1 ?_)
   exact rtC
  | false =>
   rw[hm]at c hco
   rw[if_neg (by decide)]at c
   generalize Zag R=lt at *
   by_cases z:lt=0
   ·subst z
    cases I with
    | false =>
     rw[if_pos (.inr rfl)]at c
     subst c
     simp only[ptV,plV,Zaq.enc]
     repeat (first|refine ZsE ?_|(refine js ?_;(first|(apply Zae (h:=fun w' hw _=>d w' hw);rfl;rintro v O' ⟨A3,c3,rfl,rfl⟩)|(refine bx ?_;intro f))))
     exact rtC
    | true =>
     rw[if_neg (by rintro(h|h);exact h rfl;cases h)]at c
     repeat (first|refine ZsE ?_|(refine js ?_;(first|(apply Zae (h:=fun w' hw _=>d w' hw);rfl;rintro v O' ⟨A3,c3,rfl,rfl⟩)|(refine bx ?_;intro f))))
     exact⟨k+1,OA,⟨OA,c⟩,SFA,SOA⟩
   ·rw[if_pos (.inl z)]at c
    subst c
    have g:(!decide (lt=0))=true:=by rw[decide_eq_false z];rfl
    simp only[ptV,plV,Zaq.enc]
    repeat (first|(apply RL_pu;rfl;(first|exact Zpw|(apply Zan;rfl;rfl;exact g)))|(refine js ?_;(first|(apply Zae (h:=fun w' hw _=>d w' hw);rfl;rintro v O' ⟨A3,c3,rfl,rfl⟩)|(refine ZaH (fun w' hw hO=>hot A3 c3 w' (ZaP DRule.len (hO.of (A := .row (.slice A3 R.length c3) 68 11 R.length (R.flatMap DRule.enc)) (by repeat' constructor)))) ?_)|(refine Zab hco ?_)|(refine ZaH (fun w' hw hO=>hle A3 c3 w' (ZaP DRule.len (hO.of (A := .row (.slice A3 R.length c3) 68 11 R.length (R.flatMap DRule.enc)) (by repeat' constructor)))) ?_)|(refine bx ?_;intro f)))|refine walk1 ?_)
    exact rtC
 ·simp only[decide_eq_false_iff_not,Int.ofNat_lt]at j
  rw[List.drop_eq_nil_of_le (by omega),ZaV]at c
  subst c
  repeat (first|(refine js ?_;(refine bx ?_;intro f))|refine walk ?_)
  exact rtC
theorem Zv1 {G:Prop}(h:G:=by(apply ZbG;rfl;rfl;exact b1)):G:=h
theorem Zj3 (b a:Int)(g:I64 b)(i:I64 a)(w:World):Does Tryz.prog 235 [.int .i64 b,.int .i64 a] w (fun v O=>v = .bool (ZaW b a)/\O=[]):=by
 have c:=fun w'=>Zja b a g i w'
 refine Zaa Tryz.func235 rfl rfl rfl rfl ?_
 cases hok:ZcC (b+a) with
 | false =>
  rw[hok]at c
  have f:ZaW b a=false:=by
   unfold ZaW
   by_cases h1 : -54000<=b+a
   ·by_cases e:b+a<=54000
    ·exfalso
     have:ZcC (b+a)=true:=by unfold ZcC;rw[decide_eq_true (by omega),decide_eq_true (by omega)];rfl
     rw[this]at hok
     cases hok
    ·rw[decide_eq_false e,Bool.and_false]
   ·rw[decide_eq_false h1,Bool.false_and]
  rw[f]
  repeat (first|refine und ?_|(refine js ?_;(refine Zab (fun w' d=>c w') ?_))|refine walk ?_)
  exact rtA
 | true =>
  rw[hok,if_pos rfl]at c
  unfold ZaW
  generalize b+a=x at *
  by_cases h1 : -54000<=x
  ·have b1:decide (-54000<=x)=true:=decide_eq_true h1
   rw[b1]
   repeat (first|refine und ?_|(apply RL_pu;rfl;exact Zv1)|(refine js ?_;(refine Zab (fun w' d=>c w') ?_))|refine walk1 ?_)
   exact rtA
  ·have b1:decide (-54000<=x)=false:=decide_eq_false h1
   rw[b1]
   repeat (first|refine und ?_|(apply RL_pu;rfl;exact Zv1)|(refine js ?_;(refine Zab (fun w' d=>c w') ?_))|refine walk1 ?_)
   exact rtA
theorem ZfO (Ar Az Al As:Option Addr)(i j g cs:Nat)(a:DSource)(e:DEra)(w:World)(t:Zal w Ar Az Al As i j g cs a)(x:a.rules.length<=1000000) :
  Does Tryz.prog 236 [srcV Ar Az Al As i j g cs a,.agg e.enc.toArray] w (ZgR 68 11 DRule.enc (ZaA a.rules e)):=by
 have d:=fun w' (p:Bel w.heap.size w w')=>ZfJ Ar Az Al As i j g cs a e.set w' (t.up p) x
 unfold ZaA
 obtain⟨y,c,r,set,f,til⟩:=e
 dsimp only at d ⊢
 simp only[DEra.enc]
 refine Zaa Tryz.func236 rfl rfl rfl rfl ?_
 by_cases m:c=2
 ·subst m
  rw[if_pos rfl]
  generalize ofB a.rules set=R at *
  repeat (first|(refine js ?_;(first|(apply Zae (h:=fun w' p _=>d w' p);rfl;rintro v O' ⟨A3,q,rfl,rfl⟩)|(refine bx ?_;intro s)))|refine walk ?_)
  exact ret_1 _ [.row (.slice A3 R.length q) 68 11 R.length (R.flatMap DRule.enc)] (.tmp rfl) SOA ⟨A3,q,rfl,rfl⟩
 ·rw[if_neg m]
  have u:(!decide (c=2))=true:=by rw[decide_eq_false m];rfl
  refine Zdq 68 11 ?_
  repeat (first|(apply RL_pu;rfl;(apply Zan;rfl;rfl;exact u))|(refine js ?_;(refine bx ?_;intro s))|refine walk1 ?_)
  exact ret_1 _ [.row (.slice none 0 0) 68 11 0 []] (.tmp rfl) SOA ⟨none,0,rfl,rfl⟩
def Za1 (x:Int × ByteArray):List Value:=[.int .i64 x.1,.string x.2]
theorem Za1.len (x:Int × ByteArray):(Za1 x).length=2:=rfl
structure StG where
 k:Nat
 A:Option Addr
 c:Nat
 m:Nat
 ys:List Value
def StR (l:List (Int × ByteArray))(v:Value)(O:List It):Prop:=ZgR 155 2 Za1 l v O\/∃ b x,l=[x]/\v = .slice (some ⟨b,0,none⟩) 1 1/\O=[.blk b (Za1 x) 155]
theorem Zv0 {G:Prop}(h:G:=by(apply Zap;rfl;rfl;exact b1)):G:=h
theorem ZlU (Ar Az Al As:Option Addr)(C D B cs:Nat)(a:DSource)(e:DEra)(w:World)(K:Zal w Ar Az Al As C D B cs a)(I:a.rules.length<=1000000) :
  Does Tryz.prog 238 [srcV Ar Az Al As C D B cs a,.agg e.enc.toArray] w (StR (ZaB a.rules e)):=by
 have s:=fun w' (H:Bel w.heap.size w w')=>ZfO Ar Az Al As C D B cs a e w' (K.up H) I
 have L:(ZaA a.rules e).length<=1000000:=by
  unfold ZaA
  split
  ·exact Nat.le_trans (Zic _ _) I
  ·exact Nat.zero_le _
 unfold ZaB
 generalize ZaA a.rules e=R at *
 obtain⟨T,d,save,set,y,til⟩:=e
 dsimp only at s ⊢
 simp only[DEra.enc]at s ⊢
 refine Zaa Tryz.func238 rfl rfl rfl rfl ?_
 by_cases i:d=1
 ·subst i
  rw[if_pos rfl]
  repeat (first|(refine js ?_;(refine bx ?_;intro f))|refine walk ?_)
  exact ret_1 _ [.blk f [.int .i64 save,.string ByteArray.empty] 155] (.tmp rfl) SOA (.inr ⟨f,(save,ByteArray.empty),rfl,rfl,rfl⟩)
 have b1:decide (d=1)=false:=decide_eq_false i
 rw[if_neg i]
 by_cases q:d=2
 ·subst q
  rw[if_pos rfl]
  repeat (first|(apply RL_pu;rfl;exact Zv0)|(refine js ?_;(first|(apply Zae (h:=fun w' H _=>s w' H);rfl;rintro v O' ⟨A3,z,rfl,rfl⟩)|(refine bx ?_;intro f)))|refine walk1 ?_)
  refine Zdq 155 2 ?_
  refine Zai [(20,.slice A3 R.length z),(21,.int .i64 R.length)] [.row (.slice A3 R.length z) 68 11 R.length (R.flatMap DRule.enc)] (fun g:StG=>[(5,.slice g.A g.m g.c),(22,.int .i64 g.k)]) (fun g=>[.row (.slice g.A g.m g.c) 155 2 g.m g.ys])
   (fun g=>g.k<=R.length/\g.m=g.k/\g.ys=((R.take g.k).map fun r=>(r.save,r.letter)).flatMap Za1) (fun g=>R.length - g.k) ⟨0,none,0,0,[]⟩ SFA SOA ⟨Nat.zero_le _,rfl,rfl⟩ ?_
  rintro⟨k,A1,c1,m,ys⟩ ⟨hkl,hm,hy⟩
  dsimp only at hkl hm hy ⊢
  repeat (first|(refine js ?_;(refine bx ?_;intro f))|refine walk ?_)
  refine Zaf rfl (fun t=>?_) (fun t=>?_)
  ·simp only[decide_eq_true_eq,Int.ofNat_lt]at t
   have u:=ZaC DRule.len R k _ 0 _ (List.getElem?_eq_getElem t) rfl
   have x:∀ j v,(DRule.enc R[k])[j]?=some v->(R.flatMap DRule.enc)[k*11+j]?=some v:=fun j v S=>ZaC DRule.len R k _ j v (List.getElem?_eq_getElem t) S
   have F:=List.take_append_getElem t
   generalize R[k]=r at *
   simp only[DRule.enc]at x u
   repeat (first|(apply RL_pu;rfl;(first|(apply ZaG;rfl;rfl;omega;omega;(intro w' _ E;exact(Za2 (E.of (A := .row (.slice A3 R.length z) 68 11 R.length (R.flatMap DRule.enc)) (by repeat' constructor)) u).1))|(apply Zb8;rfl;(focus repeat' constructor);exact x;rfl)))|(refine js ?_;(first|(apply ZaF;rfl;rfl;(intro A' c';(focus repeat' constructor));(intro w' _ E;exact ZbD (E.of (by repeat' constructor)));rfl;rfl;(simp only[maxLen];omega);omega;intro A' c' M N Q)|(refine bx ?_;intro f)))|refine walk1 ?_)
   exact⟨⟨k+1,A',c',m+1,ys++[.int .i64 r.save,.string r.letter]⟩,OA,⟨OA,OA,by dsimp only;rw[hy,<- F];simp[Za1]⟩,SFA,SOA⟩
  ·obtain rfl:k=R.length:=by simp only[decide_eq_false_iff_not,Int.ofNat_lt]at t;omega
   rw[List.take_length]at hy
   subst hm hy
   repeat (first|(refine js ?_;(refine bx ?_;intro f))|refine walk ?_)
   exact ret_1 _ [.row (.slice A1 R.length c1) 155 2 R.length ((R.map fun r=>(r.save,r.letter)).flatMap Za1)] (.tmp rfl) SOA (.inl ⟨A1,c1,by rw[List.length_map],by rw[List.length_map]⟩)
 have J:decide (d=2)=false:=decide_eq_false q
 rw[if_neg q]
 repeat (first|(apply RL_pu;rfl;(first|exact Zv0|(apply Zap;rfl;rfl;exact J)))|(refine js ?_;(refine bx ?_;intro f))|refine walk1 ?_)
 exact ret_1 _ [.blk f [.int .i64 0,.string ByteArray.empty] 155] (.tmp rfl) SOA (.inr ⟨f,(0,ByteArray.empty),rfl,rfl,rfl⟩)
theorem ZhQ (Ar Az Al As:Option Addr)(d f c cs:Nat)(a:DSource)(e:DEra)(w:World)(j:Zal w Ar Az Al As d f c cs a)(l:a.rules.length<=1000000) :
  Does Tryz.prog 238 [srcV Ar Az Al As d f c cs a,.agg e.enc.toArray] w (ZgR 155 2 Za1 (ZaB a.rules e)) :=
 (ZlU Ar Az Al As d f c cs a e w j l).monoH fun v O g w' k i=>by
  rcases k with h|⟨b,x,hl,rfl,rfl⟩
  ·exact⟨O,h,i⟩
  ·rw[hl]
   exact⟨_,⟨some ⟨b,0,none⟩,1,rfl,rfl⟩,i.toRow (m:=1) 2 rfl (by decide) (by simpa using Upd.here)⟩
end Go.Proofs.YtpipekfmecikmaaGreatDoor
namespace Go.Wk
open Go Go.RowKit
theorem ZqG {P:Program}{n:Nat}{wr:World}{fr:Fr}{O:List It}{ty t t':TypeId}{α:Type}[DecidableEq α]{enc:α->List Value}{x y:Operand}{i j:α}{b:Bool}[hE:EqE P t α enc](a:ev fr x=some (.agg (enc i).toArray))(c:ev fr y=some (.agg (enc j).toArray))(h:(!decide (i=j))=b) :
  Pu P n wr fr O (.binOp .neq t x y t') ty (.bool b):=h▸Pu_neqE a c
end Go.Wk
namespace Go.Proofs.YtpipekfmecikmaaGreatDoor
open Go Go.RowKit Go.Wk
attribute [local irreducible] W RL Does Zat Zaj retQ Calls Pu Stp RD Qy Ay Zak
theorem ZmI (A:Option Addr)(c:Nat)(l:List (Int × ByteArray))(f:FuncId)[Body Tryz.prog f](us cs:List Value)(p:Int × ByteArray->Bool)(w:World)(i:RdSl w A c Za1 2 l)
  (q:∀ r∈l,∀ w',Bel w.heap.size w w'->Does Tryz.prog f (us++[.agg (Za1 r).toArray]++cs) w' (fun v O=>v = .bool (p r)/\O=[])) :
  Does Tryz.prog 276 [.slice A l.length c,.func (.func f) us.toArray cs.toArray] w (fun v O=>v = .int .i64 (ZbW p l 0)/\O=[]):=by
 have s:=i.le
 have m:=i.cap
 unfold maxLen at m
 generalize hres:ZbW p l 0=res
 refine Zaa Tryz.func276 rfl rfl rfl rfl ?_
 repeat (first|refine walk ?_)
 refine Zai [(0,_),(1,_),(4,_),(7,_)] _ (fun k:Nat=>[(8,.int .i64 k)]) (fun _=>[]) (fun k=>k<=l.length/\ZbW p (l.drop k) k=res) (fun k=>l.length - k) 0 ⟨rfl,rfl,rfl,rfl,rfl,trivial⟩ (.refl _) ⟨by omega,by simpa using hres⟩ ?_
 rintro k ⟨u,e⟩
 repeat (first|refine walk ?_)
 refine Zaf rfl (fun d=>?_) (fun d=>?_)
 ·simp only[decide_eq_true_eq,Int.ofNat_lt]at d
  obtain⟨hna,hca⟩:=i.rd k _ (List.getElem?_eq_getElem d)
  have hnb:=hna
  have hcb:=hca
  rw[Zah d,ZbW]at e
  have j:=List.getElem_mem d
  generalize l[k]=r at *
  repeat (first|(apply RL_pu;rfl;exact PuI)|(refine js ?_;(refine Zf2 (fun w' t _=>q r j w' t) ?_))|refine walk1 ?_)
  refine Zaf rfl (fun g=>?_) (fun g=>?_)
  ·repeat (first|refine walk ?_)
   rw[if_pos g]at e
   exact ret_1 _ [] (.tmp rfl) .nil ⟨by rw[<- e],rfl⟩
  repeat (first|refine walk ?_)
  rw[g]at e
  exact⟨k+1,by omega,⟨by omega,e⟩,SFA,SOA⟩
 simp only[decide_eq_false_iff_not,Int.ofNat_lt]at d
 repeat (first|refine walk ?_)
 exact ret_1 _ [] (.tmp rfl) .nil ⟨by rw[<- e,List.drop_eq_nil_of_le (by omega)];rfl,rfl⟩
theorem ZiY (A:Option Addr)(c:Nat)(l:List (Int × ByteArray))(f:FuncId)[Body Tryz.prog f](us cs:List Value)(p:Int × ByteArray->Bool)(w:World)(d:RdSl w A c Za1 2 l)
  (e:∀ r∈l,∀ w',Bel w.heap.size w w'->Does Tryz.prog f (us++[.agg (Za1 r).toArray]++cs) w' (fun v O=>v = .bool (p r)/\O=[])) :
  Does Tryz.prog 237 [.slice A l.length c,.func (.func f) us.toArray cs.toArray] w (fun v O=>v = .bool (l.any p)/\O=[]):=by
 have h:=fun w' (a:Bel w.heap.size w w')=>ZmI A c l f us cs p w' (d.up a) fun r g i b=>e r g i (a.trans (b.mono a.size))
 rw[<- ZiG p l 0]
 generalize ZbW p l 0=k at *
 refine Zaa Tryz.func237 rfl rfl rfl rfl ?_
 repeat (first|(refine js ?_;(refine Zab h ?_))|refine walk ?_)
 exact rtA
theorem ZtT (x:Int × ByteArray)(ad:Addr)(a:Int)(w:World)(h:w.cell? ad=some (.int .i64 a))(c:I64 a)(hx:I64 x.1):Does Tryz.prog 234 [.agg (Za1 x).toArray,.pointer (some ad)] w (fun v O=>v = .bool (!ZaW a x.1)/\O=[]):=by
 obtain⟨sv,f⟩:=x
 dsimp only at hx ⊢
 have b:=fun w'=>Zj3 a sv c hx w'
 generalize ZaW a sv=hb at *
 simp only[Za1]
 refine Zaa Tryz.func234 rfl rfl rfl rfl ?_
 repeat (first|(apply RL_pu;rfl;(apply Pu_loadO1;rfl;exact h))|(refine js ?_;(first|(refine Zab (fun w' e=>b w') ?_)|(refine bx ?_;intro d)))|refine walk1 ?_)
 exact rtA
instance : EqE Tryz.prog 73 DUntil DUntil.enc where
 h r s w:=by
  unfold DUntil.enc
  simp[go_sem,Zcc]
  rcases r with⟨_,_,_,⟨_,_,_⟩,⟨_,_⟩⟩
  rcases s with⟨_,_,_,⟨_,_,_⟩,⟨_,_⟩⟩
  simp only[Zh9,Result.ok.injEq,and_true]
  rw[Bool.eq_iff_iff]
  simp[and_assoc]
 g:=by kernel_rfl
theorem ZnX (e:DEra)(w:World):Does Tryz.prog 239 [.agg e.enc.toArray] w (fun v O=>v = .bool (Zdj e)/\O=[]):=by
 obtain⟨z,c,g,set,m,til⟩:=e
 unfold Zdj
 dsimp only
 obtain⟨B,d,a,⟨q,r,dd⟩,⟨cs,p⟩⟩:=til
 dsimp only
 obtain⟨C,s⟩:∃ b,(!decide (c=1))=b:=⟨_,rfl⟩
 obtain⟨D,t⟩:∃ b,(!decide (g=0))=b:=⟨_,rfl⟩
 obtain⟨E,u⟩:∃ b,(!decide (c=2))=b:=⟨_,rfl⟩
 obtain⟨F,x⟩:∃ b,(!decide (set=ByteArray.empty))=b:=⟨_,rfl⟩
 obtain⟨H,y⟩:∃ b,(!decide ((⟨false,d,a,⟨q,r,dd⟩,⟨cs,p⟩⟩:DUntil)=dU0))=b:=⟨_,rfl⟩
 rw[s,t,u,x,y]
 simp only[DEra.enc]
 refine Zaa Tryz.func239 rfl rfl rfl rfl ?_
 repeat' (first|(apply RL_pu;rfl;(first|(apply Zan;rfl;rfl;exact s)|(apply Zan;rfl;rfl;exact t)|(apply Zan;rfl;rfl;exact u)|(apply Zcl;rfl;rfl;exact x)|(apply ZqG (i:=(⟨false,d,a,⟨q,r,dd⟩,⟨cs,p⟩⟩:DUntil)) (j:=dU0) (enc:=DUntil.enc);rfl;rfl;exact y)))|(refine js ?_;(refine bx ?_;intro A))|refine walk1 ?_|refine und ?_|(refine Zam rfl rfl rfl (fun f=>?_) (fun f=>?_))|(refine Zas rfl rfl rfl (fun f=>?_) (fun f=>?_))|(refine Zaf rfl (fun f=>?_) (fun f=>?_)))
 all_goals exact clo1
end Go.Proofs.YtpipekfmecikmaaGreatDoor
