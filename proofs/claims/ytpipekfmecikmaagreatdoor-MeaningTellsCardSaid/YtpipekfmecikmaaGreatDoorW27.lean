/- Parts of the proof. -/
import Derived.Test.YtpipekfmecikmaaGreatDoorW23
import Derived.Test.YtpipekfmecikmaaGreatDoorW26
import Derived.Test.YtpipekfmecikmaaGreatDoorW19
import Derived.Test.YtpipekfmecikmaaGreatDoorW13
set_option maxHeartbeats 4000000
set_option linter.unusedVariables false
set_option linter.unusedSimpArgs false
namespace Go.Proofs.YtpipekfmecikmaaGreatDoor
open Go Go.RowKit Go.Wk
theorem ZgF {a:DSource}(h:accD a=none):Zc2 a=none/\Ze6 a=none/\Zc6 a=none/\Za8 a.rules a.zones 0=none:=by
 unfold accD at h
 simp only[Option.or_eq_none_iff]at h
 exact⟨h.1,h.2.1,h.2.2.2.1,h.2.2.2.2⟩
theorem Zwi {a:DSource}(h:Zc2 a=none):a.rules.length<=2000:=by
 unfold Zc2 at h
 by_cases b:2000<a.rules.length
 ·rw[if_pos b]at h;cases h
 ·omega
theorem ZjE (rs:List DRule):∀ l:List ByteArray,Zcw rs l=none->∀ x∈l,ZbX rs x=none
 | [],_,_,h=>by cases h
 | y::l,h,x,hx=>by
  rw[Zcw]at h
  cases hf:ZbX rs y with
  | some z=>rw[hf]at h;cases h
  | none =>
   rw[hf]at h
   rcases List.mem_cons.1 hx with rfl|hx
   ·exact hf
   ·exact ZjE rs l h x hx
theorem Zn8 {rs:List DRule}{x:ByteArray}(h:ZbX rs x=none):ZbH (ofB rs x):=by
 unfold ZbX at h
 by_cases b:setB x=false
 ·rw[if_pos b]at h;cases h
 rw[if_neg b]at h
 by_cases a:(Zcv (ofB rs x)).2≠0
 ·rw[if_pos a]at h;cases h
 rw[if_neg a]at h
 cases h3:ZeD (ofB rs x) with
 | some e=>rw[h3]at h;cases h
 | none=>exact ZbH.of (Decidable.not_not.1 a) h3
theorem ZAq {a:DSource}(h:Ze6 a=none){x:ByteArray}(f:ofB a.rules x≠[]):ZbH (ofB a.rules x):=by
 obtain⟨r,e⟩:=List.exists_mem_of_ne_nil _ f
 obtain⟨c,d⟩:=List.mem_filter.1 e
 have b:=ZjE a.rules _ h r.name ((Zc5 a.rules []).2 r c)
 rw[of_decide_eq_true d]at b
 exact Zn8 b
theorem Zkc {rs:List DRule}{l:List DEra}{i:Nat}:∀ (f k:Nat),Zb1 rs l i f k=none->∀ j,k<=j->j<k+f->Zda rs (l.getD j dE0) (decide (j=0))=0/\ZcS rs l j=0
 | 0,k,_,j,h1,h2=>by omega
 | f+1,k,h,j,h1,h2=>by
  rw[Zb1]at h
  by_cases a:Zda rs (l.getD k dE0) (decide (k=0))≠0
  ·rw[if_pos a]at h;cases h
  rw[if_neg a]at h
  by_cases b:ZcS rs l k≠0
  ·rw[if_pos b]at h;cases h
  rw[if_neg b]at h
  by_cases c:j=k
  ·subst c
   exact⟨Decidable.not_not.1 a,Decidable.not_not.1 b⟩
  ·exact Zkc f (k+1) h j (by omega) (by omega)
theorem ZdH {rs:List DRule}:∀ (l:List DZone) (i:Nat),Za8 rs l i=none->∀ z∈l,z.eras≠[]/\∃ j,Zb1 rs z.eras j z.eras.length 0=none
 | [],_,_,_,h=>by cases h
 | y::l,i,h,z,hz=>by
  rw[Za8]at h
  by_cases a:y.eras=[]
  ·rw[if_pos a]at h;cases h
  rw[if_neg a]at h
  cases h2:Zb1 rs y.eras i y.eras.length 0 with
  | some x=>rw[h2]at h;cases h
  | none =>
   rw[h2]at h
   dsimp only at h
   by_cases b:ZeA rs y=false
   ·rw[if_pos b]at h;cases h
   rw[if_neg b]at h
   rcases List.mem_cons.1 hz with rfl|hz
   ·exact⟨a,i,h2⟩
   ·exact ZdH l (i+1) h z hz
structure ZeK (rs:List DRule)(l:List DEra)(k:Nat)(e:DEra):Prop where
 at_:l[k]?=some e
 kind:0<=e.kind/\e.kind<=2
 first:k=0->e.kind≠2
 set:e.kind=2->ZbH (ofB rs e.set)
 off : -54000<=e.off/\e.off<=54000
 save:(e.kind=1/\1<=e.save/\e.save<=10800)\/(e.kind≠1/\e.save=0)
 hours:∀ x∈ZaB rs e,-54000<=e.off+x.1/\e.off+x.1<=54000
 fmt:Zd6 e (ZaA rs e)=0
 fin:ZcS rs l k=0
theorem ZmJ {a s:Int}:ZaW a s=true↔-54000<=a+s/\a+s<=54000:=by unfold ZaW;simp
theorem Zlq {a:DSource}(h:accD a=none){z:DZone}(E:z∈a.zones){k:Nat}{e:DEra}(p:z.eras[k]?=some e):ZeK a.rules z.eras k e:=by
 obtain⟨_,D,_,B⟩:=ZgF h
 obtain⟨_,j,C⟩:=ZdH _ _ B z E
 have G:k<z.eras.length:=(List.getElem?_eq_some_iff.1 p).1
 obtain⟨b,y⟩:=Zkc _ _ C k (Nat.zero_le _) (by omega)
 have A:z.eras.getD k dE0=e:=by rw[List.getD_eq_getElem?_getD,p];rfl
 rw[A]at b
 unfold Zda at b
 by_cases t:e.kind<0\/2<e.kind
 ·rw[if_pos t]at b;omega
 rw[if_neg t]at b
 by_cases m:decide (k=0)=true/\e.kind=2
 ·rw[if_pos m]at b;omega
 rw[if_neg m]at b
 by_cases n:e.kind=2/\ZaA a.rules e=[]
 ·rw[if_pos n]at b;omega
 rw[if_neg n]at b
 by_cases u:e.kind=1/\(e.save<1\/10800<e.save)
 ·rw[if_pos u]at b;omega
 rw[if_neg u]at b
 by_cases i:ZaW e.off 0=false\/((ZaB a.rules e).any fun x => !ZaW e.off x.1)=true
 ·rw[if_pos i]at b;omega
 rw[if_neg i]at b
 by_cases o:Zdj e=true
 ·rw[if_pos o]at b;omega
 rw[if_neg o]at b
 have v:ZaW e.off 0=true:=by
  cases g:ZaW e.off 0 with
  | true=>rfl
  | false=>exact absurd (.inl g) i
 have F:=ZmJ.1 v
 have w:∀ x∈ZaB a.rules e,ZaW e.off x.1=true:=fun x s=>by
  cases g:ZaW e.off x.1 with
  | true=>rfl
  | false=>exact absurd (.inr (List.any_eq_true.2 ⟨x,s,by rw[g];rfl⟩)) i
 have l:e.kind≠1->e.save=0:=fun c=>by
  refine Decidable.byContradiction fun r=>o ?_
  unfold Zdj
  rw[decide_eq_false c,decide_eq_false r]
  rfl
 refine⟨p,by omega,fun q d=>m ⟨decide_eq_true q,d⟩,fun d=>?_,by omega,?_,fun x s=>ZmJ.1 (w x s),b,y⟩
 ·have f:ZaA a.rules e≠[]:=fun g=>n ⟨d,g⟩
  unfold ZaA at f
  rw[if_pos d]at f
  exact ZAq D f
 ·by_cases c:e.kind=1
  ·exact .inl ⟨c,by omega,by omega⟩
  ·exact .inr ⟨c,l c⟩
theorem ZoD (f:List UInt8):ZaQ f=0\/ZaQ f=1\/ZaQ f=2\/ZaQ f=3\/ZaQ f=4\/ZaQ f=5:=by
 unfold ZaQ
 dsimp only
 repeat' split
 all_goals omega
theorem Ztb {f:List UInt8}(k2:ZaQ f=2)(c:ZcP f=none):False:=by
 unfold ZcP at c
 cases hc:Zbf [47] f [] with
 | some ab =>
  obtain⟨a,b⟩:=ab
  rw[hc]at c
  dsimp only at c
  rw[if_pos (.inl k2)]at c
  cases c
 | none =>
  unfold ZaQ at k2
  dsimp only at k2
  rw[hc]at k2
  dsimp only at k2
  by_cases d:Zbs f=true
  ·rw[if_pos d]at k2;omega
  rw[if_neg d,if_neg (by decide)]at k2
  split at k2
  ·omega
  ·split at k2
   ·omega
   ·split at k2 <;> omega
theorem Zxs {l:List DRule}{e:Zac}(h:EvOf l e):∃ r∈l,ruE l e=r/\behS l e=(r.save,r.letter):=by
 obtain⟨j,r,y,a,c⟩:=h
 have d:=(ZbJ c).2.1
 have b:ruE l e=r:=by
  unfold ruE
  rw[d,Int.toNat_natCast,List.getD_eq_getElem?_getD,a]
  rfl
 exact⟨r,List.mem_of_getElem? a,b,by unfold behS;rw[b]⟩
theorem Zz4 (l:List DRule)(a:Bool)(c:Int)(b:Option Zac)(e:Zac):fstB l a c b e=b\/fstB l a c b e=some e:=by
 unfold fstB
 cases b with
 | none =>
  dsimp only
  split
  ·exact .inl rfl
  ·exact .inr rfl
 | some b =>
  dsimp only
  split
  ·exact .inl rfl
  ·exact .inr rfl
theorem Ziq (l:List DRule)(a:Bool)(c:Int):∀ (L:List Zac) (b:Option Zac) (o:Zac),L.foldl (fstB l a c) b=some o->b=some o\/o∈L
 | [],_,_,h => .inl h
 | e::L,b,o,h=>by
  rw[List.foldl_cons]at h
  rcases Ziq l a c L _ o h with h1|h1
  ·rcases Zz4 l a c b e with h2|h2
   ·rw[h2]at h1
    exact .inl h1
   ·rw[h2]at h1
    cases h1
    exact .inr List.mem_cons_self
  ·exact .inr (List.mem_cons_of_mem _ h1)
theorem Zk9 (l:List DRule)(a:Int):∀ (L:List Zac) (b:Option Zac),b.isSome=true\/L≠[]->∃ o,L.foldl (fstB l true a) b=some o
 | [],b,h=>by
  rcases h with h|h
  ·exact Option.isSome_iff_exists.1 h
  ·exact absurd rfl h
 | e::L,b,_=>by
  rw[List.foldl_cons]
  refine Zk9 l a L _ (.inl ?_)
  unfold fstB
  cases b with
  | none=>rfl
  | some b =>
   dsimp only
   split <;> rfl
theorem ZoL (least:Int)(r:DRule)(i:Int):∀ (k:Nat) (y:Int) (e:Zac),fiIn least r i y k=some e->∃ a,onR least r i a=some e
 | 0,_,_,h=>by cases h
 | k+1,y,e,h=>by
  rw[fiIn]at h
  cases ho:onR least r i y with
  | none=>rw[ho]at h;exact ZoL least r i k (y+1) e h
  | some x=>rw[ho]at h;cases h;exact⟨y,ho⟩
theorem ZtN (least:Int):∀ (l:List DRule) (i:Nat) (e:Zac),e∈firL least l i->∃ (j:Nat) (r:DRule) (y:Int),l[j]?=some r/\onR least r ((i+j:Nat):Int) y=some e
 | [],_,_,h=>by cases h
 | r::l,i,e,h=>by
  rw[firL,List.mem_append]at h
  rcases h with h|h
  ·obtain⟨y,c⟩:=ZoL _ _ _ _ _ _ (Option.mem_toList.1 h)
   exact⟨0,r,y,rfl,c⟩
  ·obtain⟨j,r',y,a,b⟩:=ZtN least l (i+1) e h
   exact⟨j+1,r',y,by simpa using a,by rw[show i+(j+1)=i+1+j by omega];exact b⟩
section
variable {l:List DRule}(h:ZbH l)
include h
theorem ZbH.firL_ne:firL (Zag l) l 0≠[]:=by
 have a:=h.ne
 cases hl:l with
 | nil=>exact absurd hl a
 | cons r t =>
  have b:=h.rule r (by rw[hl];exact List.mem_cons_self)
  have f0:=b.f0
  obtain⟨e,c⟩:=b.onY (Zag (r::t)) ((0:Nat):Int) (y:=max r.from_ (-2000000000)) (by omega) (by have:=b.last.1;omega)
  rw[firL,fiIn,c]
  simp
omit h in
theorem Zla {e:Zac}(c:e∈firL (Zag l) l 0):EvOf l e:=by
 obtain⟨j,r,y,b,a⟩:=ZtN _ _ _ _ c
 rw[Nat.zero_add]at a
 exact⟨j,r,y,b,a⟩
theorem ZbH.ini:iniS l∈l.map fun r=>(r.save,r.letter):=by
 unfold iniS fstD
 obtain⟨e,b⟩:=Zk9 l 0 (firL (Zag l) l 0) none (.inr h.firL_ne)
 rw[b]
 dsimp only
 have a:∀ {e},EvOf l e->behS l e∈l.map fun r=>(r.save,r.letter):=fun b=>by
  obtain⟨r,c,_,d⟩:=Zxs b
  rw[d]
  exact List.mem_map.2 ⟨r,c,rfl⟩
 cases ho:(firL (Zag l) l 0).foldl (fstB l false (ruE l e).save) none with
 | none =>
  rcases Ziq _ _ _ _ _ _ b with q|q
  ·cases q
  ·exact a (Zla q)
 | some o =>
  rcases Ziq _ _ _ _ _ _ ho with q|q
  ·cases q
  ·exact a (Zla q)
omit h in
theorem Zui {e:Zac}{n:Int}(c:befD l n=some e):behS l e∈l.map fun r=>(r.save,r.letter):=by
 obtain⟨r,a,_,b⟩:=Zxs (Zlp c).1
 rw[b]
 exact List.mem_map.2 ⟨r,a,rfl⟩
theorem ZbH.bef (n:Int):befS l n∈l.map fun r=>(r.save,r.letter):=by
 unfold befS
 cases hb:befD l n with
 | none=>exact h.ini
 | some e=>exact Zui hb
theorem ZbH.atGo_mem (a t:Int):∀ (k:Nat) (n:Int),atGo l a t k n∈l.map fun r=>(r.save,r.letter)
 | 0,n=>h.bef n
 | k+1,n=>by
  rw[atGo]
  cases hb:befD l n with
  | none=>exact h.ini
  | some e =>
   dsimp only
   split
   ·exact Zui hb
   ·exact ZbH.atGo_mem a t k _
theorem ZbH.sv {x:Int × ByteArray}(c:x∈l.map fun r=>(r.save,r.letter)):(-10800<=x.1/\x.1<=10800)/\x.2.size<=1000:=by
 obtain⟨r,b,rfl⟩:=List.mem_map.1 c
 have a:=h.rule r b
 refine⟨a.save,?_⟩
 rcases a.letter with q|q
 ·rw[q]
  show ByteArray.empty.size<=1000
  decide
 ·have:=Zgr q
  dsimp only
  omega
theorem ZbH.small (b:l.length<=1000000):RsSm l :=
 ⟨b,fun r a=>by have:=(h.rule r a).save;omega,fun r a=>by have:=(h.rule r a).f1;omega,fun r a=>by have:=(h.rule r a).ft;have:=(h.rule r a).f0;omega⟩
end
section
variable {rs:List DRule}{l:List DEra}{k:Nat}{e:DEra}(h:ZeK rs l k e)
include h
theorem ZeK.state (t:Int):ZaZ rs e t∈ZaB rs e:=by
 unfold ZaZ ZaB
 by_cases c:e.kind=0
 ·rw[if_pos c,if_neg (by omega),if_neg (by omega)]
  exact .head _
 rw[if_neg c]
 by_cases a:e.kind=1
 ·rw[if_pos a,if_pos a]
  exact .head _
 have b:e.kind=2:=by have:=h.kind;omega
 rw[if_neg a,if_neg a,if_pos b]
 unfold ZaA
 rw[if_pos b]
 exact(h.set b).atGo_mem _ _ _ _
theorem ZeK.st_bd {x:Int × ByteArray}(a:x∈ZaB rs e):(-10800<=x.1/\x.1<=10800)/\x.2.size<=1000:=by
 unfold ZaB at a
 split at a
 ·rw[List.mem_singleton]at a
  subst a
  have:=h.save
  exact⟨by dsimp only;omega,by dsimp only;decide⟩
 ·split at a
  ·rename_i b
   unfold ZaA at a
   rw[if_pos b]at a
   exact(h.set b).sv a
  ·rw[List.mem_singleton]at a
   subst a
   exact⟨by decide,by decide⟩
theorem ZeK.abbr {x:Int × ByteArray}(b:x∈ZaB rs e):abE e x=0:=by
 have c:=h.fmt
 have p:=h.hours x b
 unfold abE
 unfold Zd6 at c
 dsimp only at c
 unfold Zdp
 cases hp:ZcP e.format.data.toList with
 | some ab=>rfl
 | none =>
  dsimp only
  by_cases m:ZaQ e.format.data.toList=0
  ·rw[if_pos m]at c;omega
  rw[if_neg m]at c
  by_cases l:ZaQ e.format.data.toList=3
  ·rw[if_pos l]at c ⊢
   have k:x.2.data.toList∈(if e.kind=2 then (ZaA rs e).map (fun r=>r.letter.data.toList) else [[]]):=by
    unfold ZaB at b
    by_cases g:e.kind=2
    ·rw[if_pos g]
     rw[if_neg (by omega),if_pos g]at b
     obtain⟨r,o,rfl⟩:=List.mem_map.1 b
     exact List.mem_map.2 ⟨r,o,rfl⟩
    ·rw[if_neg g]
     rw[if_neg g]at b
     split at b
     ·rw[List.mem_singleton]at b
      subst b
      exact .head _
     ·rw[List.mem_singleton]at b
      subst b
      exact .head _
   have j:∀ (L:List (List UInt8)),Zbu e.format.data.toList L=0->∀ y∈L,(Zdp e.format.data.toList 0 0 y).2=0:=by
    intro L
    induction L with
    | nil=>intro _ y f;cases f
    | cons z L ih =>
     intro d y f
     rw[Zbu]at d
     by_cases i:(Zdp e.format.data.toList 0 0 z).2=0
     ·rw[if_pos i]at d
      rcases List.mem_cons.1 f with rfl|f
      ·exact i
      ·exact ih d y f
     ·rw[if_neg i]at d
      exact absurd d i
   have a:=j _ c _ k
   unfold Zdp at a
   rw[hp]at a
   dsimp only at a
   rw[if_pos l]at a
   exact a
  rw[if_neg l]
  by_cases n:ZaQ e.format.data.toList=4
  ·rw[if_pos n,if_pos ⟨by unfold ZcC;simp;omega,ZsG _ (by omega)⟩]
  rw[if_neg n]
  have q:=ZoD e.format.data.toList
  rw[if_pos (by
   by_cases k1:ZaQ e.format.data.toList=1
   ·exact .inl k1
   by_cases k2:ZaQ e.format.data.toList=2
   ·exfalso
    exact Ztb k2 hp
   ·exact .inr (by omega))]
theorem ZeK.least : -10800<=Zag (ZaA rs e)/\Zag (ZaA rs e)<=0:=by
 unfold ZaA
 split
 ·exact ZbH.least (h.set ‹_›).rule
 ·decide
theorem ZeK.bs:Go.Wk.bsE e (ruEr rs e)=Zag (ZaA rs e):=by
 have a:=h.least
 unfold Go.Wk.bsE ruEr
 unfold ZaA at a ⊢
 split
 ·rw[if_pos ‹_›]at a
  omega
 ·rfl
theorem ZeK.rsm (b:rs.length<=1000000):RsSm (ruEr rs e):=by
 unfold ruEr
 split
 ·exact(h.set ‹_›).small (Nat.le_trans (List.length_filter_le _ _) b)
 ·exact⟨Nat.zero_le _,fun r a=>(by cases a),fun r a=>(by cases a),fun r a=>(by cases a)⟩
theorem ZeK.bf (n:Int) : -10800<=bfE e (ruEr rs e) n/\bfE e (ruEr rs e) n<=10800:=by
 unfold bfE
 by_cases b:e.kind=1
 ·rw[if_pos b]
  have:=h.save
  omega
 rw[if_neg b]
 by_cases a:e.kind=2
 ·rw[if_pos a]
  unfold ruEr
  rw[if_pos a]
  exact((h.set a).sv ((h.set a).bef n)).1
 ·rw[if_neg a];decide
theorem ZeK.til (r:k+1<l.length):e.til.is=true/\ZaD e.til (Zag (ZaA rs e))=0/\(0<k->∀ b,l[k - 1]?=some b->(Zao b.til (Zag (ZaA rs b))).2=0/\259200<=(Zao e.til (Zag (ZaA rs e))).1 - (Zao b.til (Zag (ZaA rs b))).1):=by
 have a:=h.fin
 have q:l.getD k dE0=e:=by rw[List.getD_eq_getElem?_getD,h.at_];rfl
 unfold ZcS at a
 rw[q]at a
 dsimp only at a
 by_cases f:e.til.is≠decide (k+1<l.length)
 ·rw[if_pos f]at a;omega
 rw[if_neg f]at a
 have c:e.til.is=true:=by rw[Decidable.not_not.1 f];exact decide_eq_true r
 rw[if_neg (by rw[c];decide)]at a
 by_cases d:ZaD e.til (Zag (ZaA rs e))≠0
 ·rw[if_pos d]at a;exact absurd a d
 rw[if_neg d]at a
 refine⟨c,Decidable.not_not.1 d,fun m b p=>?_⟩
 have i:l.getD (k - 1) dE0=b:=by rw[List.getD_eq_getElem?_getD,p];rfl
 rw[i]at a
 by_cases g:0<k/\((Zao b.til (Zag (ZaA rs b))).2≠0\/(Zao e.til (Zag (ZaA rs e))).1 - (Zao b.til (Zag (ZaA rs b))).1<259200)
 ·rw[if_pos g]at a;omega
 ·refine⟨Decidable.byContradiction fun j=>g ⟨m,.inl j⟩,Int.not_lt.1 fun j=>g ⟨m,.inr j⟩⟩
theorem ZeK.unok (b:k+1<l.length):UnOk e (ruEr rs e):=by
 obtain⟨_,a,_⟩:=h.til b
 have d:=h.off
 have f:=h.save
 have c:=h.bf (Zao e.til (Go.Wk.bsE e (ruEr rs e))).1
 exact⟨h.kind,Zk7 (by omega),Zk7 (by omega),by rw[h.bs];exact a,Zk7 (by unfold endB;omega)⟩
theorem ZeK.endT_bd (d:k+1<l.length):(Zao e.til (Zag (ZaA rs e))).1 - 64800<=endT e (ruEr rs e)/\endT e (ruEr rs e)<=(Zao e.til (Zag (ZaA rs e))).1+64800:=by
 obtain⟨_,c,_⟩:=h.til d
 have j:=h.off
 have g:=h.bf (Zao e.til (Go.Wk.bsE e (ruEr rs e))).1
 have i:=h.least
 have f:(Zao e.til (Zag (ZaA rs e))).1=86400*(onD e.til.year e.til.month e.til.day).1+e.til.at_.sec+(if e.til.at_.base=1 then Zag (ZaA rs e) else 0):=by
  unfold Zao
  rw[if_neg (by rw[c];decide)]
 unfold endT endB
 generalize bfE e (ruEr rs e) _=B at *
 rw[f]
 generalize Zag (ZaA rs e)=L at *
 generalize (onD e.til.year e.til.month e.til.day).1=D at *
 by_cases b:e.til.at_.base=0
 ·rw[if_pos b,if_neg (by omega)]
  omega
 ·rw[if_neg b]
  by_cases a:e.til.at_.base=1
  ·rw[if_pos a,if_pos a]
   omega
  ·rw[if_neg a,if_neg a]
   omega
theorem ZeK.nom_bd (i:k+1<l.length) : -4000000000<=(Zao e.til (Zag (ZaA rs e))).1/\(Zao e.til (Zag (ZaA rs e))).1<=6000000000:=by
 obtain⟨_,a,_⟩:=h.til i
 have q:=h.least
 unfold Zao
 rw[if_neg (by rw[a];decide)]
 dsimp only
 unfold ZaD at a
 rw[if_neg (by omega)]at a
 by_cases c:e.til.is=false
 ·rw[if_pos c]at a;omega
 rw[if_neg c]at a
 by_cases d:e.til.year<1850\/2149<e.til.year\/ZaI e.til.at_=false
 ·rw[if_pos d]at a;omega
 rw[if_neg d]at a
 dsimp only at a
 by_cases b:(onD e.til.year e.til.month e.til.day).2≠0\/(if e.til.at_.base=1 then e.til.at_.sec+Zag (ZaA rs e) else e.til.at_.sec) < -86400\/172800<(if e.til.at_.base=1 then e.til.at_.sec+Zag (ZaA rs e) else e.til.at_.sec)
 ·rw[if_pos b]at a;omega
 have f:(onD e.til.year e.til.month e.til.day).2=0:=Decidable.byContradiction fun g=>b (.inl g)
 obtain⟨m1,m2,n,o⟩:=Zmn f
 have p:=ZiV e.til.year e.til.month m1 m2
 have j:=Zbk 1850 (e.til.year - 1850).toNat
 have m:=Zbk e.til.year (2149 - e.til.year).toNat
 rw[show(1850:Int)+((e.til.year - 1850).toNat:Int)=e.til.year by omega]at j
 rw[show e.til.year+((2149 - e.til.year).toNat:Int)=2149 by omega]at m
 have r:jan1 1850 = -43829:=by decide
 have k1:jan1 2149=65379:=by decide
 generalize (onD e.til.year e.til.month e.til.day).1=D at *
 split at b <;> simp_all <;> omega
end
theorem ZCk {rs:List DRule}{l:List DEra}(h:∀ k e,l[k]?=some e->ZeK rs l k e):∃ r,ZkN rs l=some r:=by
 refine ZlX rs l _ 0 (fun e a b=>?_) (fun k e f a c b=>?_)
 ·have d:=(h 0 e a).endT_bd b
  have g:=(h 0 e a).nom_bd b
  omega
 ·have d:=(h k e a).endT_bd (by omega)
  have g:=(h (k+1) f c).endT_bd (by omega)
  obtain⟨_,_,i⟩:=(h (k+1) f c).til (by omega)
  obtain⟨_,j⟩:=i (by omega) e (by rw[Nat.add_sub_cancel];exact a)
  omega
theorem ZzT {a:DSource}(h:accD a=none)(m:∀ z∈a.zones,∀ e∈z.eras,e.format.size<=1000000000):MnOk a:=by
 obtain⟨o,_,_,n⟩:=ZgF h
 have p:=Zwi o
 have g:∀ z∈a.zones,∀ k e,z.eras[k]?=some e->ZeK a.rules z.eras k e:=fun z b k e d=>Zlq h b d
 have j:∀ z∈a.zones,∀ e∈z.eras,∃ k,ZeK a.rules z.eras k e:=fun z b e d=>by
  obtain⟨k,c⟩:=List.mem_iff_getElem?.1 d
  exact⟨k,g z b k e c⟩
 refine⟨h,fun z b k e d c=>⟨(g z b k e d).rsm (by omega),(g z b k e d).unok c⟩,fun z b=>(ZdH _ _ n z b).1,fun z b=>ZCk (g z b),fun z b e d=>?_,fun z b e d t=>?_⟩
 ·obtain⟨k,c⟩:=j z b e d
  have l:=c.off
  have i:=c.save
  refine⟨c.kind,by omega,by omega,fun i=>?_,m z b e d⟩
  have:=c.rsm (by omega)
  unfold ruEr at this
  rwa[if_pos i]at this
 ·obtain⟨k,c⟩:=j z b e d
  have f:=c.state t
  obtain⟨l,i⟩:=c.st_bd f
  exact⟨by omega,by omega,c.abbr f⟩
attribute [local irreducible] W RL Does Zat Zaj retQ Calls Pu Stp RD Qy Ay Zak
theorem ZqL {G:Prop}(h:G:=by(first|(apply Zay;rfl;rfl;first|exact b1|exact b4)|(apply Zaw;rfl;rfl;first|exact b2|exact b3))):G:=h
theorem Zdz (a b:Int)(d : -4000000000000000000<=a/\a<=4000000000000000000)(e : -4000000000000000000<=b/\b<=4000000000000000000)(w:World):Does Tryz.prog 169 [.int .i64 a,.int .i64 b] w (fun v O=>v = .tuple #[.int .i64 (a - b),.bool true]/\O=[]):=by
 refine Zaa Tryz.func169 rfl rfl rfl rfl ?_
 have b2:decide (a < -9223372036854775808+b)=false:=decide_eq_false (by omega)
 have b4:decide (9223372036854775807+b<a)=false:=decide_eq_false (by omega)
 by_cases h:0<b
 ·have b1:decide (0<b)=true:=decide_eq_true h
  have b3:decide (b<0)=false:=decide_eq_false (by omega)
  repeat (first|refine und ?_|(apply RL_pu;rfl;exact ZqL)|refine walk1 ?_)
  exact rtB
 have b1:decide (0<b)=false:=decide_eq_false h
 by_cases c:b<0
 ·have b3:decide (b<0)=true:=decide_eq_true c
  repeat (first|refine und ?_|(apply RL_pu;rfl;exact ZqL)|refine walk1 ?_)
  exact rtB
 ·have b3:decide (b<0)=false:=decide_eq_false c
  repeat (first|refine und ?_|(apply RL_pu;rfl;exact ZqL)|refine walk1 ?_)
  exact rtB
theorem Zrw (a b:Int)(d : -4000000000000000000<=a/\a<=4000000000000000000)(c:0<b/\b<=4000000000000000000)(w:World):Does Tryz.prog 153 [.int .i64 a,.int .i64 b] w (fun v O=>v = .tuple #[.int .i64 (a+b),.bool true]/\O=[]):=by
 refine Zaa Tryz.func153 rfl rfl rfl rfl ?_
 have b4:decide (9223372036854775807 - b<a)=false:=decide_eq_false (by omega)
 have b1:decide (0<b)=true:=decide_eq_true c.1
 have b2:decide (b<0)=false:=decide_eq_false (by omega)
 have b3:=b2
 repeat (first|refine und ?_|(apply RL_pu;rfl;exact ZqL)|refine walk1 ?_)
 exact rtB
theorem ZbH.ev_bd {l:List DRule}(h:ZbH l){e:Zac}(c:EvOf l e):(-5000000000<=e.nominal/\e.nominal<=70000000000000000)/\0<=e.rule/\e.rule<l.length:=by
 obtain⟨j,r,y,a,b⟩:=c
 have f:=h.rule r (List.mem_of_getElem? a)
 have f0:=f.f0
 have d:=(ZbH.least h.rule).2
 obtain⟨_,k,m,n,_⟩:=ZbJ b
 obtain⟨g1,g2⟩:=ZpY d b
 have o:=(List.getElem?_eq_some_iff.1 a).1
 have g:=Zbk 1850 (y - 1850).toNat
 rw[show(1850:Int)+((y - 1850).toNat:Int)=y by omega]at g
 have i:=Zbk (y+1) (2000000001 - (y+1)).toNat
 rw[show y+1+((2000000001 - (y+1)).toNat:Int)=2000000001 by omega]at i
 have p:jan1 1850 = -43829:=by decide
 have k1:jan1 2000000001<=800000000000:=by unfold jan1;omega
 refine⟨by omega,by omega,by omega⟩
theorem ZbH.sz {l:List DRule}(h:ZbH l):∀ r∈l,r.from_<=4611686018427387904/\-4611686018427387904<=r.to:=fun r b=>by
 have a:=h.rule r b
 have c:=a.f0
 have d:=a.f1
 have e:=a.ft
 omega
theorem Zmg (A:Option Addr)(c:Nat)(l:List DRule)(n:Int)(w:World)(b:RdSl w A c DRule.enc 11 l)(d:l.length<=1000000)(a:ZbH l)(e : -40000000000000000<=n/\n<=4611686018427387904) :
  Does Tryz.prog 46 [.slice A l.length c,.int .i64 n] w (fun v O=>v = .tuple #[evV (befD l n),.bool (befD l n).isSome]/\O=[]):=by
 have:=Zrv A c l n w b d a.sz (by omega)
 rwa[Zwp a.rule (ZbH.least a.rule).2 e.1]at this
set_option maxHeartbeats 1000000 in
theorem ZsY (A:Option Addr)(c:Nat)(l:List DRule)(i:Nat)(r:DRule)(w:World)(f:RdSl w A c DRule.enc 11 l)(s:l[i]?=some r)(H : -2000000000<=r.from_/\r.from_<=4611686018427387904) :
  Does Tryz.prog 266 [.slice A l.length c,.int .i64 i] w (fun v O=>v = .tuple #[evV (fiIn (Zag l) r i (max r.from_ (-2000000000)) 9),.bool (fiIn (Zag l) r i (max r.from_ (-2000000000)) 9).isSome]/\O=[]):=by
 have K:i<l.length:=(List.getElem?_eq_some_iff.1 s).1
 have J:=f.le
 have x:=f.cap
 simp only[maxLen]at x
 have z:=fun(y:Int) w' (M:Bel w.heap.size w w')=>Zhq A c l i y r w' (f.up M) s
 obtain⟨hna,hca⟩:=f.rd i _ s
 generalize Zag l=L at *
 rw[show max r.from_ (-2000000000)=r.from_ by omega]
 obtain⟨R,q⟩:∃ R,fiIn L r i r.from_ 9=R:=⟨_,rfl⟩
 rw[q]
 have B:∀ y m,fiIn L r i y (m+1)=match onR L r i y with
  | some e=>some e
  | none=>fiIn L r i (y+1) m:=fun y m=>rfl
 generalize onR L r (i:Int)=on at *
 clear f s
 obtain⟨Q,fr,to,N,⟨E,F,dd⟩,⟨cs,D⟩,sv,le⟩:=r
 change Zau w _ [.string Q,.int .i64 fr,.int .i64 to,.int .i64 N,.int .i64 E,.int .i64 F,.int .i64 dd,.int .i64 cs,.int .i64 D,.int .i64 sv,.string le]at hca
 dsimp only at H q
 have C:decide (fr < -2000000000)=false:=decide_eq_false (by omega)
 refine Zaa Tryz.func266 rfl rfl rfl rfl ?_
 repeat (first|(apply RL_pu;rfl;(first|exact PuI|(apply Pu_loadO1;rfl;first|exact hca 1 _ rfl|exact hca 6 _ rfl|exact hca 9 _ rfl|exact hca 10 _ rfl)|(apply Zaw;rfl;rfl;exact C)))|(refine js ?_;(refine bx ?_;intro d))|refine walk1 ?_)
 refine Zai [(0,.slice A l.length c),(1,.int .i64 i),(4,.pointer (some ⟨d,0,none⟩)),(6,.int .i64 fr)] [.blk d [.int .i64 0,.int .i64 0,.int .i64 0] 91] (fun g:Nat × Int=>[(7,.int .i64 g.2)]) (fun _=>[]) (fun g=>g.1<=9/\g.2=fr+g.1/\fiIn L _ i g.2 (9 - g.1)=R) (fun g=>9 - g.1) (0,fr) SFA SOA ⟨Nat.zero_le _,by simp,q⟩ ?_
 clear q
 rintro⟨j,y⟩ ⟨hj,hy,hi2⟩
 dsimp only at hj hy hi2 ⊢
 repeat (first|(refine js ?_;(refine bx ?_;intro d))|refine walk ?_)
 refine Zaf rfl (fun u=>?_) (fun u=>?_)
 ·have I:j<9:=by have:=of_decide_eq_true u;omega
  rw[show 9 - j=(8 - j)+1 by omega,B]at hi2
  have t:=z y
  generalize on y=o at *
  rcases o with _|⟨ey,er,en⟩
  ·simp only[evV,Zac.enc,dEv0,Option.isSome]at t hi2
   repeat (first|(refine js ?_;(first|(refine Zab t ?_)|(refine bx ?_;intro d)))|refine walk ?_)
   exact⟨(j+1,y+1),OA,⟨OA,by dsimp only;omega,by dsimp only;rw[show 9 - (j+1)=8 - j by omega];exact hi2⟩,SFA,SOA⟩
  ·simp only[evV,Zac.enc,Option.isSome]at t hi2
   subst hi2
   repeat (first|(refine js ?_;(first|(refine Zab t ?_)|(refine bx ?_;intro d)))|refine walk ?_)
   exact rtC
 ·obtain rfl:j=9:=by have:=of_decide_eq_false u;omega
  obtain rfl:none=R:=hi2
  repeat (first|(refine js ?_;(refine bx ?_;intro d))|refine walk ?_)
  exact rtC
theorem Zva {G:Prop}(h:G:=by(first|exact PuI|(apply Pu_loadO1;rfl;first|exact hca 9 _ rfl|exact hca 10 _ rfl))):G:=h
theorem ZxV {G:Prop}(h:G:=by first|(apply Qy_y;rfl;exact Zva)|exact QyA):G:=h
theorem ZBI {G:Prop}(h:G:=by repeat (first|exact QF.nil|(apply QF.mk;rfl;rfl;decide +kernel;exact ZxV))):G:=h
theorem ZcB (A:Option Addr)(c:Nat)(l:List DRule)(e:Zac)(w:World)(a:RdSl w A c DRule.enc 11 l)(g:0<=e.rule/\e.rule<l.length) :
  Does Tryz.prog 155 [.slice A l.length c,.agg e.enc.toArray] w (fun v O=>v=stV (behS l e)/\O=[]):=by
 obtain⟨r,d⟩:∃ r,l[e.rule.toNat]?=some r:=⟨_,List.getElem?_eq_getElem (by omega)⟩
 have j:=a.le
 have b:=a.cap
 simp only[maxLen]at b
 unfold behS
 rw[ZgX d]
 obtain⟨hna,hca⟩:=a.rd _ _ d
 obtain⟨y,q,n⟩:=e
 dsimp only at g d hca
 show Does _ _ [_,.agg #[.int .i64 y,.int .i64 q,.int .i64 n]] w _
 refine Zaa Tryz.func155 rfl rfl rfl rfl ?_
 repeat (first|(apply RL_pu;rfl;exact Zva)|(apply RD_Q;rfl;rfl;decide +kernel;rfl;rfl;exact ZxV)|refine walk1 ?_|(refine jn ?_;(try intro F);(first|(refine bx ?_;intro f)|(refine stA ?_)|(apply Zad;first|exact Zva|exact PuA));first|refine⟨_,EndsA,ZBI,?_⟩|refine fin ?_)|(apply RD_W;rfl;intro f))
 exact ret_1 _ [] (.cellB rfl (by repeat' constructor) rfl rfl) .nil ⟨rfl,rfl⟩
theorem ZBa {l:List DRule}{o:Bool}{a:Int}{e:Zac}{r:DRule}(b:ruE l e=r):fstB l (!o) a none e=if o=true/\r.save=a then none else some e:=by
 unfold fstB
 rw[b,Bool.not_not,Bool.or_false]
 by_cases h:o=true/\r.save=a
 ·rw[if_pos h,if_pos (by rw[h.1,decide_eq_true h.2];rfl)]
 ·rw[if_neg h,if_neg]
  rw[Bool.and_eq_true,decide_eq_true_eq]
  exact h
theorem ZA9 {l:List DRule}{o:Bool}{a:Int}{b e:Zac}{r:DRule}(c:ruE l e=r):fstB l (!o) a (some b) e=if (o=true/\r.save=a)\/b.nominal<=e.nominal then some b else some e:=by
 unfold fstB
 dsimp only
 rw[c,Bool.not_not]
 by_cases h:(o=true/\r.save=a)\/b.nominal<=e.nominal
 ·rw[if_pos h,if_pos]
  rw[Bool.or_eq_true,Bool.and_eq_true,decide_eq_true_eq,decide_eq_true_eq]
  exact h
 ·rw[if_neg h,if_neg]
  rw[Bool.or_eq_true,Bool.and_eq_true,decide_eq_true_eq,decide_eq_true_eq]
  exact h
theorem Zu9 {G:Prop}(h:G:=by(first|exact PuI|(apply Pu_loadO1;rfl;first|exact hca 1 _ rfl|exact hca 6 _ rfl|exact hca 9 _ rfl|exact hca 10 _ rfl))):G:=h
theorem Zu8 {G:Prop}(h:G:=by(first|exact Zu9|(apply Zan;rfl;rfl;exact b1))):G:=h
theorem ZyT {G:Prop}(h:G:=by(first|exact Zu9|(apply Zaw;rfl;rfl;exact b2))):G:=h
theorem ZBU {G:Prop}(h:G:=by(first|exact Zu8|(apply Zaw;rfl;rfl;exact b2))):G:=h
theorem ZpE {G G':Prop}(k:G')(h:Hold G'->G:=by intro k9;(first|refine und ?_|(apply RL_pu;rfl;exact ZBU)|(refine js ?_;(refine Zab ho ?_))|refine walk1 ?_);exact k9.out):G:=h ⟨k⟩
set_option maxHeartbeats 2000000 in
theorem ZfF (A:Option Addr)(c:Nat)(l:List DRule)(d:Bool)(j:Int)(w:World)(H:RdSl w A c DRule.enc 11 l)(hn:l.length<=1000000)(S:∀ r∈l,-2000000000<=r.from_/\r.from_<=4611686018427387904) :
  Does Tryz.prog 216 [.slice A l.length c,.bool d,.int .i64 j] w (fun v O=>v = .tuple #[evV (fstD l (!d) j),.bool (fstD l (!d) j).isSome]/\O=[]):=by
 have X:=H.le
 have M:=H.cap
 simp only[maxLen]at M
 have z:=fun(i:Nat) (r:DRule) (f:l[i]?=some r) w' (Y:Bel w.heap.size w w')=>ZsY A c l i r w' (H.up Y) f (S r (List.mem_of_getElem? f))
 have F:∀ (k:Nat) (r:DRule) (e:Zac) (y:Int) (m:Nat),l[k]?=some r->fiIn (Zag l) r k y m=some e->ruE l e=r:=fun k r e y m N W=>by
  obtain⟨y',Z⟩:=ZoL _ _ _ _ _ _ W
  have:=(ZbJ Z).2.1
  exact ZgX (by rw[this,Int.toNat_natCast];exact N)
 obtain⟨R,I⟩:∃ R,fstD l (!d) j=R:=⟨_,rfl⟩
 rw[I]
 unfold fstD at I
 have E:∀ (r:DRule) (t:List DRule) (k:Nat),firL (Zag l) (r::t) k=(fiIn (Zag l) r k (max r.from_ (-2000000000)) 9).toList++firL (Zag l) t (k+1):=fun _ _ _=>rfl
 have D:∀ k,firL (Zag l) [] k=[]:=fun _=>rfl
 generalize Zag l=L at *
 refine Zaa Tryz.func216 rfl rfl rfl rfl ?_
 repeat (first|(refine js ?_;(refine bx ?_;intro s))|refine walk ?_)
 generalize s=b8
 rename_i Q
 refine Zai [(0,.slice A l.length c),(1,.bool d),(2,.int .i64 j),(6,.pointer (some ⟨Q,0,none⟩)),(8,.pointer (some ⟨b8,0,none⟩))] [.blk Q [.int .i64 0,.int .i64 0,.int .i64 0] 91]
  (fun g:BG=>[(10,.int .i64 g.k),(9,.bool g.b.isSome)]) (fun g=>[.blk b8 (evC g.b) 91]) (fun g=>g.k<=l.length/\(firL L (l.drop g.k) g.k).foldl (fstB l (!d) j) g.b=R) (fun g=>l.length - g.k) ⟨0,none⟩ SFA SOA ⟨Nat.zero_le _,I⟩ ?_
 clear I
 rintro⟨k,b⟩ ⟨N,f⟩
 dsimp only at N f ⊢
 repeat (first|(refine js ?_;(refine bx ?_;intro s))|refine walk ?_)
 refine Zaf rfl (fun C=>?_) (fun C=>?_)
 ·simp only[decide_eq_true_eq,Int.ofNat_lt]at C
  have x:=List.getElem?_eq_getElem C
  rw[Zah C,E,List.foldl_append]at f
  obtain⟨hna,hca⟩:=H.rd k _ x
  have ho:=z k _ x
  have B:=fun e=>F k _ e (max l[k].from_ (-2000000000)) 9 x
  generalize l[k]=r at *
  generalize fiIn L r k (max r.from_ (-2000000000)) 9=o at *
  clear z F x E D S
  obtain⟨nm,fr,to,mo,⟨U,V,dd⟩,⟨cs,T⟩,sv,le⟩:=r
  change Zau w _ [.string nm,.int .i64 fr,.int .i64 to,.int .i64 mo,.int .i64 U,.int .i64 V,.int .i64 dd,.int .i64 cs,.int .i64 T,.int .i64 sv,.string le]at hca
  rcases o with _|⟨ey,er,en⟩
  ·simp only[evV,Zac.enc,dEv0,Option.isSome]at ho
   rw[Option.toList,List.foldl_nil]at f
   repeat (first|refine und ?_|(refine js ?_;(first|(refine Zab ho ?_)|(refine bx ?_;intro s)))|refine walk ?_)
   exact⟨⟨k+1,b⟩,OA,⟨OA,f⟩,SFA,SOA⟩
  ·have J:=B _ rfl
   simp only[evV,Zac.enc,Option.isSome]at ho
   rw[Option.toList,List.foldl_cons,List.foldl_nil]at f
   rcases b with _|⟨by_,br,bn⟩
   ·rw[ZBa J]at f
    clear J B
    dsimp only at f
    simp only[evC,Zac.enc,dEv0,Option.isSome]
    cases d with
    | false =>
     rw[if_neg (by simp)]at f
     repeat (first|refine und ?_|(apply RL_pu;rfl;exact Zu9)|(refine js ?_;(first|(refine Zab ho ?_)|(refine bx ?_;intro s)))|refine walk1 ?_)
     exact⟨⟨k+1,some ⟨ey,er,en⟩⟩,OA,⟨OA,f⟩,SFA,SOA⟩
    | true =>
     by_cases u:sv=j
     ·have b1:(!decide (sv=j))=false:=by rw[decide_eq_true u];rfl
      rw[if_pos ⟨rfl,u⟩]at f
      repeat (first|refine und ?_|(apply RL_pu;rfl;exact Zu8)|(refine js ?_;(first|(refine Zab ho ?_)|(refine bx ?_;intro s)))|refine walk1 ?_)
      exact⟨⟨k+1,none⟩,OA,⟨OA,f⟩,SFA,SOA⟩
     ·have b1:(!decide (sv=j))=true:=by rw[decide_eq_false u];rfl
      rw[if_neg (fun h=>u h.2)]at f
      repeat (first|refine und ?_|(apply RL_pu;rfl;exact Zu8)|(refine js ?_;(first|(refine Zab ho ?_)|(refine bx ?_;intro s)))|refine walk1 ?_)
      exact⟨⟨k+1,some ⟨ey,er,en⟩⟩,OA,⟨OA,f⟩,SFA,SOA⟩
   ·rw[ZA9 J]at f
    clear J B
    dsimp only at f
    simp only[evC,Zac.enc,Option.isSome]
    by_cases K:bn<=en
    ·have b2:decide (en<bn)=false:=decide_eq_false (by omega)
     rw[if_pos (.inr K)]at f
     cases d with
     | false =>
      repeat (first|refine und ?_|(apply RL_pu;rfl;exact ZyT)|(refine js ?_;(first|(refine Zab ho ?_)|(refine bx ?_;intro s)))|refine walk1 ?_)
      exact⟨⟨k+1,some ⟨by_,br,bn⟩⟩,OA,⟨OA,f⟩,SFA,SOA⟩
     | true =>
      obtain⟨q,b1⟩:∃ q,(!decide (sv=j))=q:=⟨_,rfl⟩
      cases q with
      | false =>
       repeat (first|refine ZpE ?_|(refine js ?_;(refine bx ?_;intro s)))
       exact⟨⟨k+1,some ⟨by_,br,bn⟩⟩,OA,⟨OA,f⟩,SFA,SOA⟩
      | true =>
       repeat (first|refine ZpE ?_|(refine js ?_;(refine bx ?_;intro s)))
       exact⟨⟨k+1,some ⟨by_,br,bn⟩⟩,OA,⟨OA,f⟩,SFA,SOA⟩
    ·have b2:decide (en<bn)=true:=decide_eq_true (by omega)
     cases d with
     | false =>
      rw[if_neg (by rintro(⟨q,_⟩|q);cases q;exact K q)]at f
      repeat (first|refine und ?_|(apply RL_pu;rfl;exact ZyT)|(refine js ?_;(first|(refine Zab ho ?_)|(refine bx ?_;intro s)))|refine walk1 ?_)
      exact⟨⟨k+1,some ⟨ey,er,en⟩⟩,OA,⟨OA,f⟩,SFA,SOA⟩
     | true =>
      by_cases u:sv=j
      ·have b1:(!decide (sv=j))=false:=by rw[decide_eq_true u];rfl
       rw[if_pos (.inl ⟨rfl,u⟩)]at f
       repeat (first|refine ZpE ?_|(refine js ?_;(refine bx ?_;intro s)))
       exact⟨⟨k+1,some ⟨by_,br,bn⟩⟩,OA,⟨OA,f⟩,SFA,SOA⟩
      ·have b1:(!decide (sv=j))=true:=by rw[decide_eq_false u];rfl
       rw[if_neg (by rintro(⟨_,q⟩|q);exact u q;exact K q)]at f
       repeat (first|refine ZpE ?_|(refine js ?_;(refine bx ?_;intro s)))
       exact⟨⟨k+1,some ⟨ey,er,en⟩⟩,OA,⟨OA,f⟩,SFA,SOA⟩
 ·simp only[decide_eq_false_iff_not,Int.ofNat_lt]at C
  rw[List.drop_eq_nil_of_le (by omega),D,List.foldl_nil]at f
  subst f
  rcases b with _|⟨by_,br,bn⟩ <;> simp only[evV,evC,Zac.enc,dEv0,Option.isSome]
  ·repeat (first|(refine js ?_;(refine bx ?_;intro s))|refine walk ?_)
   exact rtC
  ·repeat (first|(refine js ?_;(refine bx ?_;intro s))|refine walk ?_)
   exact rtC
theorem ZyS {G:Prop}(h:G:=by(first|exact PuI|(apply Pu_loadO1;rfl;first|exact hca 8 _ rfl|exact hca 9 _ rfl))):G:=h
theorem ZjM (A:Option Addr)(c:Nat)(l:List DRule)(w:World)(f:RdSl w A c DRule.enc 11 l)(D:l.length<=1000000)(i:ZbH l) :
  Does Tryz.prog 154 [.slice A l.length c] w (fun v O=>v=stV (iniS l)/\O=[]):=by
 have z:∀ r∈l,-2000000000<=r.from_/\r.from_<=4611686018427387904:=fun r s=>by
  have a:=i.rule r s
  have b:=a.f0
  have x:=a.f1
  omega
 obtain⟨e,C⟩:=Zk9 l 0 (firL (Zag l) l 0) none (.inr i.firL_ne)
 have j:EvOf l e:=by
  rcases Ziq _ _ _ _ _ _ C with q|q
  ·cases q
  ·exact Zla q
 have m:=(i.ev_bd j).2
 obtain⟨r,s⟩:∃ r,l[e.rule.toNat]?=some r:=⟨_,List.getElem?_eq_getElem (by omega)⟩
 have t:ruE l e=r:=ZgX s
 have a:=fun w' (g:Bel w.heap.size w w')=>ZfF A c l false 0 w' (f.up g) D z
 have b:=fun w' (g:Bel w.heap.size w w')=>ZfF A c l true r.save w' (f.up g) D z
 change ∀ w',Bel w.heap.size w w'->Does _ _ _ w' (fun v O=>v = .tuple #[evV (fstD l true 0),.bool (fstD l true 0).isSome]/\O=[]) at a
 change ∀ w',Bel w.heap.size w w'->Does _ _ _ w' (fun v O=>v = .tuple #[evV (fstD l false r.save),.bool (fstD l false r.save).isSome]/\O=[]) at b
 have d:=fun w' (g:Bel w.heap.size w w')=>ZcB A c l e w' (f.up g) m
 have y:=fun(o:Zac) (u:0<=o.rule/\o.rule<l.length) w' (g:Bel w.heap.size w w')=>ZcB A c l o w' (f.up g) u
 have p:∀ o,fstD l false r.save=some o->0<=o.rule/\o.rule<l.length:=fun o u=>by
  unfold fstD at u
  rcases Ziq _ _ _ _ _ _ u with q|q
  ·cases q
  ·exact(i.ev_bd (Zla q)).2
 unfold iniS
 rw[show fstD l true 0=some e from C]at a ⊢
 dsimp only
 rw[t]
 obtain⟨hna,hca⟩:=f.rd _ _ s
 have K:=f.le
 have B:=f.cap
 simp only[maxLen]at B
 generalize fstD l false r.save=o at *
 generalize hbe:behS l e=be at *
 clear i z j hbe C t
 obtain⟨S,R,Q⟩:=e
 obtain⟨U,fr,to,T,⟨M,N,dd⟩,⟨cs,L⟩,sv,le⟩:=r
 obtain⟨E,F⟩:=be
 dsimp only at m s hca b p
 simp only[evV,Zac.enc,Option.isSome]at a d
 refine Zaa Tryz.func154 rfl rfl rfl rfl ?_
 rcases o with _|⟨oy,or_,on⟩
 ·simp only[evV,Zac.enc,dEv0,Option.isSome,stV]at b d ⊢
  repeat (first|(apply RL_pu;rfl;exact ZyS)|(refine js ?_;(first|(refine Zab a ?_)|(refine Zab b ?_)|(refine Zab d ?_)|(refine bx ?_;intro H)))|refine walk1 ?_)
  exact ret_1 _ [] (.cellB rfl (by repeat' constructor) rfl rfl) .nil ⟨rfl,rfl⟩
 ·have x:=y _ (p _ rfl)
  dsimp only
  generalize behS l ⟨oy,or_,on⟩=bo at *
  obtain⟨I,J⟩:=bo
  simp only[evV,Zac.enc,Option.isSome,stV]at b x ⊢
  repeat (first|(apply RL_pu;rfl;exact ZyS)|(refine js ?_;(first|(refine Zab a ?_)|(refine Zab b ?_)|(refine Zab x ?_)|(refine bx ?_;intro H)))|refine walk1 ?_)
  exact ret_1 _ [] (.cellB rfl (by repeat' constructor) rfl rfl) .nil ⟨rfl,rfl⟩
theorem Zfr (A:Option Addr)(c:Nat)(l:List DRule)(n:Int)(w:World)(d:RdSl w A c DRule.enc 11 l)(j:l.length<=1000000)(f:ZbH l)(p : -40000000000000000<=n/\n<=4611686018427387904) :
  Does Tryz.prog 156 [.slice A l.length c,.int .i64 n] w (fun v O=>v=stV (befS l n)/\O=[]):=by
 have a:=fun w' (b:Bel w.heap.size w w')=>Zmg A c l n w' (d.up b) j f p
 have g:=fun w' (b:Bel w.heap.size w w')=>ZjM A c l w' (d.up b) j f
 unfold befS
 cases hb:befD l n with
 | none =>
  rw[hb]at a
  generalize iniS l=x at *
  obtain⟨q,r⟩:=x
  simp only[evV,Zac.enc,dEv0,Option.isSome,stV]at a g ⊢
  refine Zaa Tryz.func156 rfl rfl rfl rfl ?_
  repeat (first|(refine js ?_;(first|(refine Zab a ?_)|(refine Zab g ?_)|(refine bx ?_;intro m)))|refine walk ?_)
  exact ret_1 _ [] (.cellB rfl (by repeat' constructor) rfl rfl) .nil ⟨rfl,rfl⟩
 | some e =>
  rw[hb]at a
  have i:=fun w' (b:Bel w.heap.size w w')=>ZcB A c l e w' (d.up b) (f.ev_bd (Zlp hb).1).2
  dsimp only
  generalize behS l e=x at *
  obtain⟨q,r⟩:=x
  obtain⟨u,t,s⟩:=e
  simp only[evV,Zac.enc,Option.isSome,stV]at a i ⊢
  refine Zaa Tryz.func156 rfl rfl rfl rfl ?_
  repeat (first|(refine js ?_;(first|(refine Zab a ?_)|(refine Zab i ?_)|(refine bx ?_;intro m)))|refine walk ?_)
  exact ret_1 _ [] (.cellB rfl (by repeat' constructor) rfl rfl) .nil ⟨rfl,rfl⟩
theorem Zmj (A:Option Addr)(c:Nat)(l:List DRule)(w:World)(e:RdSl w A c DRule.enc 11 l):Does Tryz.prog 170 [.slice A l.length c] w (fun v O=>v = .int .i64 (max (Zag l) (-10800))/\O=[]):=by
 have q:=e.le
 have f:=e.cap
 unfold maxLen at f
 generalize hres:Zag l=res
 unfold Zag at hres
 have j:(if res < -10800 then -10800 else res)=max res (-10800):=by split <;> omega
 refine Zaa Tryz.func170 rfl rfl rfl rfl ?_
 repeat (first|refine walk ?_)
 refine Zai [(0,.slice A l.length c)] [] (fun g:Nat × Int=>[(3,.int .i64 g.2),(4,.int .i64 g.1)]) (fun _=>[]) (fun g=>g.1<=l.length/\(l.drop g.1).foldl (fun m r=>min m r.save) g.2=res) (fun g=>l.length - g.1) (0,0) SFA SOA ⟨Nat.zero_le _,hres⟩ ?_
 rintro⟨k,m⟩ ⟨hk,hi⟩
 dsimp only at hk hi ⊢
 repeat (first|refine walk ?_)
 refine Zaf rfl (fun h=>?_) (fun h=>?_)
 ·have d:k<l.length:=by simpa using h
  obtain⟨hna,hca⟩:=e.rd k _ (List.getElem?_eq_getElem d)
  rw[Zah d]at hi
  generalize l[k]=r at *
  obtain⟨y,fr,to,x,⟨t,u,dd⟩,⟨cs,s⟩,sv,le⟩:=r
  simp only[DRule.enc,List.foldl_cons]at hca hi
  repeat (first|(apply RL_pu;rfl;(first|exact PuI|(apply ZgO;rfl;rfl)))|refine walk1 ?_)
  rw[show(if sv<m then sv else m)=min m sv by split <;> omega]
  exact⟨(k+1,min m sv),OA,⟨OA,hi⟩,SFA,.nil⟩
 ·have i:k=l.length:=by
   have:=of_decide_eq_false h
   omega
  subst i
  rw[List.drop_length]at hi
  obtain rfl:m=res:=hi
  repeat (first|(apply RL_pu;rfl;(apply Zds;rfl;rfl;exact j))|refine walk1 ?_)
  exact rtA
theorem ZBT {G:Prop}(h:G:=by(first|(apply Zaw;rfl;rfl;exact b1)|(apply ZbG;rfl;rfl;exact b2)|(apply Zap;rfl;rfl;first|exact b3|exact b4)|exact PuI|(apply Pu_loadO1;rfl;first|exact hca 8 _ rfl|exact hca 9 _ rfl))):G:=h
theorem Zsy {G G':Prop}(k:G')(h:Hold G'->G:=by intro k9;(first|refine und ?_|(apply RL_pu;rfl;exact ZBT)|(refine js ?_;(first|(refine Zab hba ?_)|(refine Zab hbf ?_)|(refine Zab (fun w' _=>hs1 w') ?_)|(refine Zab (fun w' _=>hs2 w') ?_)))|refine walk1 ?_);exact k9.out):G:=h ⟨k⟩
set_option maxHeartbeats 1000000 in
theorem Zmk (A:Option Addr)(c:Nat)(l:List DRule)(e:Zac)(a:Int)(w:World)(f:RdSl w A c DRule.enc 11 l)(M:l.length<=1000000)(b:ZbH l)(E:EvOf l e)(R : -1000000000<=a/\a<=1000000000) :
  Does Tryz.prog 110 [.slice A l.length c,.agg e.enc.toArray,.int .i64 a] w (fun v O=>v = .int .i64 (ZmE l e a)/\O=[]):=by
 obtain⟨hnb,z⟩:=b.ev_bd E
 obtain⟨r,q⟩:∃ r,l[e.rule.toNat]?=some r:=⟨_,List.getElem?_eq_getElem (by omega)⟩
 have p:ruE l e=r:=ZgX q
 have m:=b.rule r (List.mem_of_getElem? q)
 have j:=m.clk
 have hba:=fun w' (C:Bel w.heap.size w w')=>Zmj A c l w' (f.up C)
 have hbf:=fun w' (C:Bel w.heap.size w w')=>Zfr A c l e.nominal w' (f.up C) M b (by omega)
 have x:=(b.sv (b.bef e.nominal)).1
 have B:=ZbH.least b.rule
 unfold ZmE
 rw[p]
 obtain⟨hna,hca⟩:=f.rd _ _ q
 have K:=f.le
 have y:=f.cap
 simp only[maxLen]at y
 have L : -10800<=max (Zag l) (-10800)/\max (Zag l) (-10800)<=0:=by omega
 generalize max (Zag l) (-10800)=mx at *
 generalize befS l e.nominal=bs at *
 obtain⟨g,F⟩:=bs
 dsimp only at x
 clear b E p m B f
 obtain⟨J,s,d⟩:=e
 obtain⟨Q,fr,to,N,⟨H,I,dd⟩,⟨cs,i⟩,sv,le⟩:=r
 simp only[ZaI,Bool.and_eq_true,decide_eq_true_eq]at j
 dsimp only at z hnb q hbf j ⊢
 simp only[stV]at hbf
 change Zau w _ [.string Q,.int .i64 fr,.int .i64 to,.int .i64 N,.int .i64 H,.int .i64 I,.int .i64 dd,.int .i64 cs,.int .i64 i,.int .i64 sv,.string le]at hca
 have b1:decide (s<0)=false:=decide_eq_false (by omega)
 have b2:decide ((l.length:Int)<=s)=false:=decide_eq_false (by omega)
 show Does _ _ [_,.agg #[.int .i64 J,.int .i64 s,.int .i64 d],_] w _
 refine Zaa Tryz.func110 rfl rfl rfl rfl ?_
 by_cases u:i=1
 ·subst u
  have b3:decide ((1:Int)=0)=false:=rfl
  have b4:decide ((1:Int)=1)=true:=rfl
  have hs1:=fun w'=>Zdz d mx (by omega) (by omega) w'
  have hs2:=fun w'=>Zdz (d - mx) a (by omega) (by omega) w'
  rw[if_pos rfl]
  repeat (first|refine Zsy ?_|(refine js ?_;(refine bx ?_;intro D)))
  exact rtA
 rw[if_neg u]
 have b4:decide (i=1)=false:=decide_eq_false u
 by_cases t:i=0
 ·subst t
  have b3:decide ((0:Int)=0)=true:=rfl
  have hs1:=fun w'=>Zdz d g (by omega) (by omega) w'
  have hs2:=fun w'=>Zdz (d - g) a (by omega) (by omega) w'
  rw[if_pos rfl]
  repeat (first|refine Zsy ?_|(refine js ?_;(refine bx ?_;intro D)))
  exact rtA
 ·have b3:decide (i=0)=false:=decide_eq_false t
  have hs1:=fun w'=>Zdz d 0 (by omega) (by omega) w'
  have hs2:=hs1
  rw[if_neg t]
  repeat (first|refine Zsy ?_|(refine js ?_;(refine bx ?_;intro D)))
  exact rtA
structure RaG where
 j:Nat
 n:Int
theorem ZyR {G:Prop}(h:G:=by(apply ZbF;rfl;rfl;exact b1)):G:=h
set_option maxHeartbeats 1000000 in
theorem Zry (A:Option Addr)(c:Nat)(l:List DRule)(d t:Int)(w:World)(E:RdSl w A c DRule.enc 11 l)(K:l.length<=1000000)(C:ZbH l)(Y : -1000000000<=d/\d<=1000000000)(ht : -39000000000000000<=t/\t<=1000000000000000000) :
  Does Tryz.prog 102 [.slice A l.length c,.int .i64 d,.int .i64 t] w (fun v O=>v=stV (atS l d t)/\O=[]):=by
 have M:=fun w'=>Zrw t 259200 (by omega) (by decide) w'
 have F:=fun n (h : -40000000000000000<=n/\n<=4611686018427387904) w' (m:Bel w.heap.size w w')=>Zmg A c l n w' (E.up m) K C h
 have I:=fun n (h : -40000000000000000<=n/\n<=4611686018427387904) w' (m:Bel w.heap.size w w')=>Zfr A c l n w' (E.up m) K C h
 have i:=fun w' (m:Bel w.heap.size w w')=>ZjM A c l w' (E.up m) K C
 have r:=fun(e:Zac) (D:EvOf l e) w' (m:Bel w.heap.size w w')=>ZcB A c l e w' (E.up m) (C.ev_bd D).2
 have q:=fun(e:Zac) (D:EvOf l e) w' (m:Bel w.heap.size w w')=>Zmk A c l e d w' (E.up m) K C D Y
 have H:∀ n e,befD l n=some e->EvOf l e/\(-5000000000<=e.nominal/\e.nominal<=70000000000000000):=fun n e D=>⟨(Zlp D).1,(C.ev_bd (Zlp D).1).1⟩
 obtain⟨R,J⟩:∃ R,atS l d t=R:=⟨_,rfl⟩
 rw[J]
 unfold atS at J
 have V:∀ k n,atGo l d t (k+1) n=match befD l n with
  | none=>iniS l
  | some e=>if ZmE l e d<=t then behS l e else atGo l d t k e.nominal:=fun _ _=>rfl
 have W:∀ n,atGo l d t 0 n=befS l n:=fun _=>rfl
 obtain⟨R1,R2⟩:=R
 refine Zaa Tryz.func102 rfl rfl rfl rfl ?_
 repeat (first|(refine js ?_;(first|(refine Zab (fun w' _=>M w') ?_)|(refine bx ?_;intro s)))|refine walk ?_)
 refine Zai [(0,.slice A l.length c),(1,.int .i64 d),(2,.int .i64 t),(6,.pointer (some ⟨s,0,none⟩))] [.blk s [.int .i64 0,.string ByteArray.empty] 155] (fun g:RaG=>[(10,.int .i64 g.j),(7,.int .i64 g.n)]) (fun _=>[]) (fun g=>g.j<=3/\(-40000000000000000<=g.n/\g.n<=4611686018427387904)/\atGo l d t (3 - g.j) g.n=(R1,R2)) (fun g=>3 - g.j) ⟨0,t+259200⟩ SFA SOA ⟨Nat.zero_le _,by dsimp only;omega,J⟩ ?_
 clear J
 rintro⟨j,n⟩ ⟨hj,hnb,hi⟩
 dsimp only at hj hnb hi ⊢
 repeat (first|(refine js ?_;(refine bx ?_;intro s))|refine walk ?_)
 refine Zaf rfl (fun N=>?_) (fun N=>?_)
 ·have X:j<3:=by have:=of_decide_eq_true N;omega
  rw[show 3 - j=(2 - j)+1 by omega,V]at hi
  have f:=F n hnb
  cases hbn:befD l n with
  | none =>
   rw[hbn]at f hi
   dsimp only at hi
   rw[hi]at i
   simp only[evV,Zac.enc,dEv0,Option.isSome,stV]at f i
   repeat (first|(refine js ?_;(first|(refine Zab f ?_)|(refine Zab i ?_)|(refine bx ?_;intro s)))|refine walk ?_)
   exact ret_1 _ [] (.cellB rfl (by repeat' constructor) rfl rfl) .nil ⟨rfl,rfl⟩
  | some e =>
   obtain⟨y,Q⟩:=H n e hbn
   rw[hbn]at f hi
   dsimp only at hi
   have B:=r e y
   have z:=q e y
   clear hbn y r q F H
   generalize behS l e=x at *
   generalize ZmE l e d=u at *
   obtain⟨x1,x2⟩:=x
   obtain⟨ey,Z,U⟩:=e
   simp only[evV,Zac.enc,Option.isSome,stV]at f B z
   dsimp only at Q
   by_cases L:u<=t
   ·have b1:decide (u<=t)=true:=decide_eq_true L
    rw[if_pos L]at hi
    obtain⟨rfl,rfl⟩:=Prod.mk.inj hi
    repeat (first|(apply RL_pu;rfl;exact ZyR)|(refine js ?_;(first|(refine Zab f ?_)|(refine Zab B ?_)|(refine Zab z ?_)|(refine bx ?_;intro s)))|refine walk1 ?_)
    exact ret_1 _ [] (.cellB rfl (by repeat' constructor) rfl rfl) .nil ⟨rfl,rfl⟩
   ·have b1:decide (u<=t)=false:=decide_eq_false L
    rw[if_neg L]at hi
    repeat (first|(apply RL_pu;rfl;exact ZyR)|(refine js ?_;(first|(refine Zab f ?_)|(refine Zab B ?_)|(refine Zab z ?_)|(refine bx ?_;intro s)))|refine walk1 ?_)
    exact⟨⟨j+1,U⟩,OA,⟨OA,by dsimp only;omega,by dsimp only;rw[show 3 - (j+1)=2 - j by omega];exact hi⟩,SFA,SOA⟩
 ·obtain rfl:j=3:=by have:=of_decide_eq_false N;omega
  have T:befS l n=(R1,R2):=hi
  have S:=I n hnb
  rw[T]at S
  simp only[stV]at S
  repeat (first|(refine js ?_;(first|(refine Zab S ?_)|(refine bx ?_;intro s)))|refine walk ?_)
  exact ret_1 _ [] (.cellB rfl (by repeat' constructor) rfl rfl) .nil ⟨rfl,rfl⟩
end Go.Proofs.YtpipekfmecikmaaGreatDoor
