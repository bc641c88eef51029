/- Parts of the proof. -/
import Derived.Test.YtbjomhdhkpgbaaaGreatDoorV06
import Derived.Test.YtbjomhdhkpgbaaaGreatDoorV27
import Derived.Test.YtbjomhdhkpgbaaaGreatDoorV26
set_option maxHeartbeats 4000000
set_option linter.unusedVariables false
set_option linter.unusedSimpArgs false
namespace Go.Proofs.YtbjomhdhkpgbaaaGreatDoor
open Go Go.RowKit Go.Wk
structure ShL (x:Int)(l l':List Zab):Prop where
 map:l'=l.map (shR x)
 least:Zaj l'=Zaj l+x
 lo : -10800<=Zaj l/\Zaj l<=0
 lo' : -10800<=Zaj l+x/\Zaj l+x<=0
 clk:∀ r∈l,ZaQ (mvC r.at_ x)=ZaQ r.at_
theorem ZCi {x L:Int}{r:Zab}(hL : -10800<=L)(hL' : -10800<=L+x)(hc:ZaQ (mvC r.at_ x)=ZaQ r.at_)(i y:Int):onR (L+x) (shR x r) i y=onR L r i y:=by
 have e:(mvC r.at_ x).sec+(if (mvC r.at_ x).base=1 then max (L+x) (-10800) else 0)=r.at_.sec+(if r.at_.base=1 then max L (-10800) else 0):=by
  unfold mvC
  by_cases h:r.at_.base=1
  ·rw[if_pos h]
   dsimp only
   rw[if_pos h,if_pos h]
   omega
  ·rw[if_neg h,if_neg h,if_neg h]
 unfold onR
 rw[show lastY (shR x r)=lastY r from rfl,show(shR x r).from_=r.from_ from rfl,show(shR x r).at_=mvC r.at_ x from rfl,show(shR x r).month=r.month from rfl,show(shR x r).day=r.day from rfl,hc,Int.add_assoc,e,<- Int.add_assoc]
section
variable {L L' n:Int}{r r':Zab}{i:Int}(h:∀ y,onR L' r' i y=onR L r i y)
include h
theorem ZvK:∀ (k:Nat)(y:Int),evIn L' n r' i y k=evIn L n r i y k
 | 0,_=>rfl
 | k+1,y=>by rw[evIn,evIn,h,ZvK k]
theorem Zwa:∀ (k:Nat)(y:Int),beIn L' n r' i y k=beIn L n r i y k
 | 0,_=>rfl
 | k+1,y=>by rw[beIn,beIn,h,Zwa k]
theorem ZvG:∀ (k:Nat)(y:Int),fiIn L' r' i y k=fiIn L r i y k
 | 0,_=>rfl
 | k+1,y=>by rw[fiIn,fiIn,h,ZvG k]
end
section
variable {x L L':Int}
theorem Zlg (n yr:Int):∀ (l:List Zab) (i:Nat) (b:Option Zaf),(∀ r∈l,∀ (i:Nat) y,onR L' (shR x r) i y=onR L r i y)->Zb5 L' n yr (l.map (shR x)) i b=Zb5 L n yr l i b
 | [],_,_,_=>rfl
 | r::l,i,b,h=>by
  rw[List.map_cons,Zb5,Zb5,show(shR x r).from_=r.from_ from rfl,ZvK (h r List.mem_cons_self i)]
  exact Zlg n yr l (i+1) _ fun r hr=>h r (List.mem_cons_of_mem _ hr)
theorem ZrR (n yr:Int):∀ (l:List Zab) (i:Nat) (b:Option Zaf),(∀ r∈l,∀ (i:Nat) y,onR L' (shR x r) i y=onR L r i y)->Ze0 L' n yr (l.map (shR x)) i b=Ze0 L n yr l i b
 | [],_,_,_=>rfl
 | r::l,i,b,h=>by
  rw[List.map_cons,Ze0,Ze0,show lastY (shR x r)=lastY r from rfl,Zwa (h r List.mem_cons_self i)]
  exact ZrR n yr l (i+1) _ fun r hr=>h r (List.mem_cons_of_mem _ hr)
theorem ZvD:∀ (l:List Zab)(i:Nat),(∀ r∈l,∀ (i:Nat) y,onR L' (shR x r) i y=onR L r i y)->firL L' (l.map (shR x)) i=firL L l i
 | [],_,_=>rfl
 | r::l,i,h=>by
  rw[List.map_cons,firL,firL,show(shR x r).from_=r.from_ from rfl,ZvG (h r List.mem_cons_self i),ZvD l (i+1) fun r hr=>h r (List.mem_cons_of_mem _ hr)]
theorem Zkv (y:Int):∀ (l:List Zab) (i:Nat) (acc:List Zaf),(∀ r∈l,∀ (i:Nat) y,onR L' (shR x r) i y=onR L r i y)->Ze4 L' y (l.map (shR x)) i acc=Ze4 L y l i acc
 | [],_,_,_=>rfl
 | r::l,i,acc,h=>by
  rw[List.map_cons,Ze4,Ze4,h r List.mem_cons_self i]
  exact Zkv y l (i+1) _ fun r hr=>h r (List.mem_cons_of_mem _ hr)
theorem Zok (l:List Zab)(h:∀ r∈l,∀ (i:Nat) y,onR L' (shR x r) i y=onR L r i y)(f:Int):∀ k,ZdR (l.map (shR x)) L' f k=ZdR l L f k
 | 0=>rfl
 | k+1=>by rw[ZdR,ZdR,Zok l h f k,Zkv _ l 0 _ h]
end
theorem ZuN {L:Int}{r:Zab}{i y:Int}{e:Zaf}(h:onR L r i y=some e):e.rule=i:=by
 unfold onR at h
 split at h
 ·cases h
 split at h
 ·cases h
 cases h
 rfl
theorem EvOf.at {l:List Zab}{e:Zaf}(h:EvOf l e):∃ r,l[e.rule.toNat]?=some r:=by
 obtain⟨j,r,y,h1,h2⟩:=h
 have:=ZuN h2
 exact⟨r,by rw[this];simpa using h1⟩
theorem ZvH {L:Int}{r:Zab}{i:Int}:∀ (k:Nat) (y:Int) {e:Zaf},fiIn L r i y k=some e->∃ y,onR L r i y=some e
 | 0,_,_,h=>by cases h
 | k+1,y,e,h=>by
  rw[fiIn]at h
  split at h
  ·rename_i e' he
   cases h
   exact⟨_,he⟩
  ·exact ZvH k _ h
theorem ZpO {L:Int}:∀ (l:List Zab) (i:Nat) {e:Zaf},e∈firL L l i->∃ (j:Nat) (r:Zab) (y:Int),l[j]?=some r/\onR L r ((i+j:Nat):Int) y=some e
 | [],_,_,h=>by cases h
 | r::l,i,e,h=>by
  rw[firL,List.mem_append]at h
  rcases h with h|h
  ·obtain⟨y,hy⟩:=ZvH _ _ (Option.mem_toList.1 h)
   exact⟨0,r,y,rfl,hy⟩
  ·obtain⟨j,q,y,h1,h2⟩:=ZpO l (i+1) h
   exact⟨j+1,q,y,h1,by rw[show i+(j+1)=i+1+j by omega];exact h2⟩
theorem Zyz {α:Type}{c:Prop}[Decidable c]{a b x:α}(h:(if c then a else b)=x):a=x\/b=x:=by
 split at h
 ·exact .inl h
 ·exact .inr h
theorem ZyA {α:Type}{c:Prop}[Decidable c]{a b x:α}(h1:a≠x)(h2:b≠x):(if c then a else b)≠x:=by
 split
 ·exact h1
 ·exact h2
theorem Zvu (l:List Zab)(all:Bool)(but:Int):∀ (es:List Zaf) (b:Option Zaf) {e:Zaf},es.foldl (fstB l all but) b=some e->e∈es\/b=some e
 | [],b,e,h => .inr h
 | a::es,b,e,h=>by
  rw[List.foldl_cons]at h
  rcases Zvu l all but es _ h with h|h
  ·exact .inl (List.mem_cons_of_mem _ h)
  ·unfold fstB at h
   rcases Zyz h with h|h
   ·exact .inr h
   ·cases h
    exact .inl List.mem_cons_self
theorem ZlY {l:List Zab}{all:Bool}{but:Int}{e:Zaf}(h:fstD l all but=some e):EvOf l e:=by
 rcases Zvu l all but _ _ h with h|h
 ·obtain⟨j,r,y,h1,h2⟩:=ZpO l 0 h
  exact⟨j,r,y,h1,by rw[Nat.zero_add]at h2;exact h2⟩
 ·cases h
theorem Zrr (l:List Zab)(but:Int):∀ (es:List Zaf) (b:Option Zaf),(es≠[]\/b≠none)->es.foldl (fstB l true but) b≠none
 | [],b,h=>by
  rcases h with h|h
  ·exact absurd rfl h
  ·exact h
 | a::es,b,h=>by
  rw[List.foldl_cons]
  refine Zrr l but es _ (.inr ?_)
  unfold fstB
  cases b with
  | none =>
   rw[if_neg (by simp)]
   exact fun hh=>by cases hh
  | some b=>exact ZyA (fun hh=>by cases hh) (fun hh=>by cases hh)
theorem ZCb {x:Int}{l:List Zab}{e:Zaf}{r:Zab}(h:l[e.rule.toNat]?=some r):ruE (l.map (shR x)) e=shR x (ruE l e):=by
 unfold ruE
 rw[List.getD_eq_getElem?_getD,List.getD_eq_getElem?_getD,List.getElem?_map,h]
 rfl
section
variable {x:Int}{l l':List Zab}(h:ShL x l l')
include h
theorem ShL.on:∀ r∈l,∀ (i:Nat) (y:Int),onR (Zaj l') (shR x r) i y=onR (Zaj l) r i y:=fun r hr i y=>by
 rw[h.least]
 exact ZCi h.lo.1 h.lo'.1 (h.clk r hr) i y
theorem ShL.after (n:Int):Zfv l' n=Zfv l n:=by
 have:=Zlg n (Zd6 n) l 0 none h.on
 rw[<- h.map]at this
 exact this
theorem ShL.bef (n:Int):befD l' n=befD l n:=by
 have:=ZrR n (Zd6 n) l 0 none h.on
 rw[<- h.map]at this
 exact this
theorem ShL.fir:firL (Zaj l') l' 0=firL (Zaj l) l 0:=by
 have:=ZvD l 0 h.on
 rwa[<- h.map]at this
theorem ShL.apart:Zgb l'=Zgb l:=by
 have:=Zok l h.on 1850 701
 rw[<- h.map]at this
 unfold Zgb
 rw[this]
theorem ShL.far (n:Int):farD l' n=farD l n:=by
 unfold farD
 rw[h.after]
theorem ShL.ru {e:Zaf}(he:EvOf l e):ruE l' e=shR x (ruE l e):=by
 obtain⟨r,hr⟩:=he.at
 rw[h.map]
 exact ZCb hr
theorem ShL.beh {e:Zaf}(he:EvOf l e):behS l' e=((behS l e).1+x,(behS l e).2):=by
 unfold behS
 rw[h.ru he]
 rfl
theorem ShL.fst1 (b c:Int):fstD l' true b=fstD l true c:=by
 have e:∀ (es:List Zaf) (o:Option Zaf),es.foldl (fstB l' true b) o=es.foldl (fstB l true c) o:=fun es=>by
  induction es with
  | nil=>exact fun _=>rfl
  | cons a es ih=>exact fun o=>by rw[List.foldl_cons,List.foldl_cons,ih];rfl
 unfold fstD
 rw[h.fir,e]
theorem ShL.fst2 (b:Int):fstD l' false (b+x)=fstD l false b:=by
 have e:∀ (es:List Zaf),(∀ e∈es,EvOf l e)->∀ (o:Option Zaf),es.foldl (fstB l' false (b+x)) o=es.foldl (fstB l false b) o:=fun es=>by
  induction es with
  | nil=>exact fun _ _=>rfl
  | cons a es ih =>
   intro he o
   rw[List.foldl_cons,List.foldl_cons,ih fun e hh=>he e (List.mem_cons_of_mem _ hh)]
   congr 1
   unfold fstB
   rw[h.ru (he a List.mem_cons_self),show(shR x (ruE l a)).save=(ruE l a).save+x from rfl,show decide ((ruE l a).save+x=b+x)=decide ((ruE l a).save=b) from decide_eq_decide.2 (by omega)]
 unfold fstD
 rw[h.fir,e _ fun e he=>by
  obtain⟨j,r,y,h1,h2⟩:=ZpO l 0 he
  exact⟨j,r,y,h1,by rw[Nat.zero_add]at h2;exact h2⟩]
theorem ShL.ini (hi:fstD l true 0≠none):iniS l'=((iniS l).1+x,(iniS l).2):=by
 unfold iniS
 rw[h.fst1 0 0]
 cases he:fstD l true 0 with
 | none=>exact absurd he hi
 | some e =>
  have hev:=ZlY he
  dsimp only
  rw[h.ru hev,show(shR x (ruE l e)).save=(ruE l e).save+x from rfl,h.fst2]
  cases ho:fstD l false (ruE l e).save with
  | none=>exact h.beh hev
  | some o=>exact h.beh (ZlY ho)
theorem ShL.befS (hi:fstD l true 0≠none)(n:Int):Go.Wk.befS l' n=((Go.Wk.befS l n).1+x,(Go.Wk.befS l n).2):=by
 unfold Go.Wk.befS
 rw[h.bef]
 cases hb:befD l n with
 | none=>exact h.ini hi
 | some e=>exact h.beh (Zmg hb).1
theorem ShL.inst (hi:fstD l true 0≠none){e:Zaf}(he:EvOf l e)(off:Int):ZpI l' e (off - x)=ZpI l e off:=by
 have e1:(ruE l' e).at_.base=(ruE l e).at_.base:=by
  rw[h.ru he]
  show(mvC (ruE l e).at_ x).base=_
  unfold mvC
  split <;> rfl
 have a1:=h.lo
 have a2:=h.lo'
 unfold ZpI
 rw[e1,h.least,h.befS hi]
 dsimp only
 split
 ·omega
 split <;> omega
theorem ShL.atGo (hi:fstD l true 0≠none)(off t:Int):∀ (k:Nat) (n:Int),Go.Wk.atGo l' (off - x) t k n=((Go.Wk.atGo l off t k n).1+x,(Go.Wk.atGo l off t k n).2)
 | 0,n=>h.befS hi n
 | k+1,n=>by
  rw[Go.Wk.atGo,Go.Wk.atGo,h.bef]
  cases hb:befD l n with
  | none=>exact h.ini hi
  | some e =>
   have hev:=(Zmg hb).1
   dsimp only
   rw[h.inst hi hev]
   split
   ·exact h.beh hev
   ·exact ShL.atGo hi off t k _
theorem ShL.atS (hi:fstD l true 0≠none)(off t:Int):Go.Wk.atS l' (off - x) t=((Go.Wk.atS l off t).1+x,(Go.Wk.atS l off t).2):=h.atGo hi off t 3 _
end
theorem ZiF {x L:Int}{u:ZaZ}(h1 : -10800<=L/\L<=0)(h2 : -10800<=L+x/\L+x<=0)(hc:ZaQ (mvC u.at_ x)=ZaQ u.at_):ZaI (shU u x) (L+x)=ZaI u L:=by
 have n1:¬ (L+x < -10800\/0<L+x):=by omega
 have n2:¬ (L < -10800\/0<L):=by omega
 unfold ZaI
 rw[if_neg n1,if_neg n2]
 unfold shU
 by_cases hi:u.is=true
 ·rw[if_pos hi]
  dsimp only
  rw[hc]
  have e:(if (mvC u.at_ x).base=1 then (mvC u.at_ x).sec+(L+x) else (mvC u.at_ x).sec)=(if u.at_.base=1 then u.at_.sec+L else u.at_.sec):=by
   unfold mvC
   by_cases h:u.at_.base=1
   ·rw[if_pos h]
    dsimp only
    rw[if_pos h,if_pos h]
    omega
   ·rw[if_neg h,if_neg h,if_neg h]
  rw[e]
 ·rw[if_neg hi,if_pos (by simpa using hi),if_pos (by simpa using hi)]
theorem Zpq {x L:Int}{u:ZaZ}(h1 : -10800<=L/\L<=0)(h2 : -10800<=L+x/\L+x<=0)(hc:ZaQ (mvC u.at_ x)=ZaQ u.at_):ZaF (shU u x) (L+x)=ZaF u L:=by
 have hu:=ZiF h1 h2 hc
 unfold ZaF
 rw[hu]
 by_cases h0:ZaI u L≠0
 ·rw[if_pos h0,if_pos h0]
 rw[if_neg h0,if_neg h0]
 unfold shU
 by_cases hi:u.is=true
 ·rw[if_pos hi]
  dsimp only
  unfold mvC
  by_cases h:u.at_.base=1
  ·rw[if_pos h]
   dsimp only
   rw[if_pos h,if_pos h]
   congr 1
   omega
  ·rw[if_neg h,if_neg h,if_neg h]
 ·rw[if_neg hi]
  exfalso
  refine h0 ?_
  unfold ZaI
  rw[if_neg (by omega),if_pos (by simpa using hi)]
  decide
def yE (X:ByteArray->Int)(e:DEra):Int:=if e.kind=2 then X e.set else 0
def trE (X:ByteArray->Int)(G:DEra->ByteArray)(e:DEra):DEra:={ e with off:=e.off - yE X e,til:=shU e.til (yE X e),format:=G e }
def trR (X:ByteArray->Int)(r:Zab):Zab:=shR (X r.name) r
def trS (X:ByteArray->Int)(G:DEra->ByteArray)(sh:List ByteArray)(s:Zac):Zac:=⟨s.rules.map (trR X),s.zones.map (Za4 (trE X G)),s.links,sh⟩
section
variable (X:ByteArray->Int)(G:DEra->ByteArray)
theorem ZhX (rs:List Zab)(n:ByteArray):ofB (rs.map (trR X)) n=(ofB rs n).map (shR (X n)):=by
 unfold ofB
 rw[List.filter_map]
 refine(List.map_congr_left fun r hr=>?_)
 have h:r.name=n:=of_decide_eq_true (p:=(trR X r).name=n) (List.mem_filter.1 hr).2
 rw[trR,h]
theorem Zep (rs:List Zab)(e:DEra):Zaz (rs.map (trR X)) (trE X G e)=(Zaz rs e).map (shR (yE X e)):=by
 unfold Zaz yE
 by_cases h:e.kind=2
 ·rw[if_pos (show(trE X G e).kind=2 from h),if_pos h,if_pos h]
  exact ZhX X rs e.set
 ·rw[if_neg (show ¬ (trE X G e).kind=2 from h),if_neg h,if_neg h]
  rfl
theorem ZiN (rs:List Zab)(e:DEra):ZaE (rs.map (trR X)) (trE X G e)=(ZaE rs e).map fun x=>(x.1+yE X e,x.2):=by
 unfold ZaE
 rw[Zep]
 by_cases h1:e.kind=1
 ·rw[if_pos (show(trE X G e).kind=1 from h1),if_pos h1]
  unfold yE
  rw[if_neg (by omega)]
  simp[trE]
 ·rw[if_neg (show ¬ (trE X G e).kind=1 from h1),if_neg h1]
  by_cases h2:e.kind=2
  ·rw[if_pos (show(trE X G e).kind=2 from h2),if_pos h2,List.map_map,List.map_map]
   rfl
  ·rw[if_neg (show ¬ (trE X G e).kind=2 from h2),if_neg h2]
   unfold yE
   rw[if_neg h2]
   simp
theorem Zfg:∀ (l:List Zab)(acc:List ByteArray),ZaS (l.map (trR X)) acc=ZaS l acc
 | [],_=>rfl
 | r::l,acc=>by
  rw[List.map_cons,ZaS,ZaS,show(trR X r).name=r.name from rfl,Zfg l,Zfg l]
end
structure TrOk (X:ByteArray->Int)(G:DEra->ByteArray)(rs:List Zab)(e:DEra):Prop where
 sh:ShL (yE X e) (Zaz rs e) ((Zaz rs e).map (shR (yE X e)))
 clk:ZaQ (mvC e.til.at_ (yE X e))=ZaQ e.til.at_
 off:ZbG (e.off - yE X e) 0=true
 fmt:ZdF (trE X G e) ((Zaz rs e).map (shR (yE X e)))=0
 ab:∀ x∈ZaE rs e,ZbO (G e).data.toList (e.off - yE X e) (x.1+yE X e) x.2.data.toList=ZbO e.format.data.toList e.off x.1 x.2.data.toList
section
variable {X:ByteArray->Int}{G:DEra->ByteArray}{rs:List Zab}
theorem Zzo (u:ZaZ)(x:Int):(shU u x).is=u.is:=by unfold shU;split <;> rfl
theorem ZtX (e:DEra):Ze7 (trE X G e)=Ze7 e:=by
 have h:(!(shU e.til (yE X e)).is&&!decide ({ shU e.til (yE X e) with is:=false }=dU0))=(!e.til.is&&!decide ({ e.til with is:=false }=dU0)):=by
  rw[Zzo]
  cases hi:e.til.is with
  | true=>rfl
  | false =>
   have:shU e.til (yE X e)=e.til:=by unfold shU;rw[if_neg (by rw[hi];decide)]
   rw[this]
 show((!decide (e.kind=1)&&!decide (e.save=0))||(!decide (e.kind=2)&&!decide (e.set=ByteArray.empty))||(!(shU e.til (yE X e)).is&&!decide ({ shU e.til (yE X e) with is:=false }=dU0)))=_
 rw[h]
 rfl
theorem Zvs {a b c d:Int}(h:a+b=c+d):ZbG a b=ZbG c d:=by unfold ZbG;rw[h]
theorem TrOk.chk {e:DEra}(h:TrOk X G rs e){first:Bool}(hc:Zc2 rs e first=0):Zc2 (rs.map (trR X)) (trE X G e) first=0:=by
 unfold Zc2 at hc ⊢
 rw[ZtX,Zep,ZiN,show(trE X G e).kind=e.kind from rfl,show(trE X G e).save=e.save from rfl,show(trE X G e).off=e.off - yE X e from rfl]
 have ha:(((ZaE rs e).map fun x=>(x.1+yE X e,x.2)).any fun x => !ZbG (e.off - yE X e) x.1)=(ZaE rs e).any fun x => !ZbG e.off x.1:=by
  rw[List.any_map]
  congr 1
  funext x
  show(!ZbG (e.off - yE X e) (x.1+yE X e))=_
  rw[Zvs (show e.off - yE X e+(x.1+yE X e)=e.off+x.1 by omega)]
 rw[ha,h.off]
 split at hc
 ·cases hc
 rename_i h1
 rw[if_neg h1]
 split at hc
 ·cases hc
 rename_i h2
 rw[if_neg h2]
 split at hc
 ·cases hc
 rename_i h3
 rw[if_neg fun hh=>h3 ⟨hh.1,List.map_eq_nil_iff.1 hh.2⟩]
 split at hc
 ·cases hc
 rename_i h4
 rw[if_neg h4]
 split at hc
 ·cases hc
 rename_i h5
 rw[if_neg (fun hh=>h5 (by rcases hh with hh|hh;cases hh; exact .inr hh))]
 split at hc
 ·cases hc
 rename_i h6
 rw[if_neg h6]
 exact h.fmt
theorem ZgT {f:DEra->DEra}{l:List DEra}{k:Nat}(h:k<l.length):(l.map f).getD k dE0=f (l.getD k dE0):=by
 rw[List.getD_eq_getElem?_getD,List.getD_eq_getElem?_getD,List.getElem?_map,List.getElem?_eq_getElem h]
 rfl
theorem TrOk.least {e:DEra}(h:TrOk X G rs e):Zaj (Zaz (rs.map (trR X)) (trE X G e))=Zaj (Zaz rs e)+yE X e:=by
 rw[Zep]
 exact h.sh.least
theorem TrOk.til {e:DEra}(h:TrOk X G rs e):ZaI (trE X G e).til (Zaj (Zaz (rs.map (trR X)) (trE X G e)))=ZaI e.til (Zaj (Zaz rs e))/\ZaF (trE X G e).til (Zaj (Zaz (rs.map (trR X)) (trE X G e)))=ZaF e.til (Zaj (Zaz rs e)):=by
 rw[h.least]
 exact⟨ZiF h.sh.lo h.sh.lo' h.clk,Zpq h.sh.lo h.sh.lo' h.clk⟩
theorem TrOk.far {e:DEra}(h:TrOk X G rs e)(n:Int):farD (Zaz (rs.map (trR X)) (trE X G e)) n=farD (Zaz rs e) n:=by
 rw[Zep]
 exact h.sh.far n
theorem ZvQ {l:List DEra}(h:∀ e∈l,TrOk X G rs e){k:Nat}(hk:k<l.length):Zga (rs.map (trR X)) (l.map (trE X G)) k=Zga rs l k:=by
 have hm:∀ j,j<l.length->TrOk X G rs (l.getD j dE0):=fun j hj=>by
  rw[List.getD_eq_getElem?_getD,List.getElem?_eq_getElem hj]
  exact h _ (List.getElem_mem hj)
 unfold Zga
 rw[ZgT hk,ZgT (show k - 1<l.length by omega),List.length_map]
 obtain⟨u1,u2⟩:=(hm k hk).til
 obtain⟨_,v2⟩:=(hm (k - 1) (by omega)).til
 dsimp only
 rw[u1,u2,v2,(hm k hk).far,show(trE X G (l.getD k dE0)).til.is=(l.getD k dE0).til.is from Zzo _ _,show(trE X G (l.getD k dE0)).kind=(l.getD k dE0).kind from rfl]
theorem ZnX {l:List DEra}(h:∀ e∈l,TrOk X G rs e)(i j:Nat):∀ (f k:Nat),k+f<=l.length->Zcr rs l i f k=none->Zcr (rs.map (trR X)) (l.map (trE X G)) j f k=none
 | 0,_,_,_=>rfl
 | f+1,k,hk,hg=>by
  have hm:TrOk X G rs (l.getD k dE0):=by
   rw[List.getD_eq_getElem?_getD,List.getElem?_eq_getElem (show k<l.length by omega)]
   exact h _ (List.getElem_mem _)
  rw[Zcr]at hg ⊢
  rw[ZvQ h (by omega),ZgT (by omega)]
  split at hg
  ·cases hg
  rename_i h1
  rw[if_neg (by rw[hm.chk (Decidable.not_not.1 h1)];decide)]
  split at hg
  ·cases hg
  rename_i h2
  rw[if_neg h2]
  exact ZnX h i j f (k+1) (by omega) hg
theorem Zub {e:DEra}:∀ (l:List (Int × ByteArray)) (acc:List (Int × List UInt8) × List (List UInt8)),(∀ x∈l,ZbO (G e).data.toList (e.off - yE X e) (x.1+yE X e) x.2.data.toList=ZbO e.format.data.toList e.off x.1 x.2.data.toList)->stGo (trE X G e) (l.map fun x=>(x.1+yE X e,x.2)) acc=stGo e l acc
 | [],_,_=>rfl
 | x::l,acc,h=>by
  rw[List.map_cons,stGo,stGo]
  dsimp only
  rw[show(trE X G e).format=G e from rfl,show(trE X G e).off=e.off - yE X e from rfl,h x List.mem_cons_self,show e.off - yE X e+(x.1+yE X e)=e.off+x.1 by omega]
  exact Zub l _ fun y hy=>h y (List.mem_cons_of_mem _ hy)
theorem ZvP:∀ (l:List DEra)(acc:List (Int × List UInt8) × List (List UInt8)),(∀ e∈l,TrOk X G rs e)->erGo (rs.map (trR X)) (l.map (trE X G)) acc=erGo rs l acc
 | [],_,_=>rfl
 | e::l,acc,h=>by
  rw[List.map_cons,erGo,erGo,ZiN,Zub _ _ (h e List.mem_cons_self).ab]
  exact ZvP l _ fun y hy=>h y (List.mem_cons_of_mem _ hy)
theorem Zkq:∀ (l:List ZaO)(i j:Nat),(∀ z∈l,∀ e∈z.eras,TrOk X G rs e)->ZbI rs l i=none->ZbI (rs.map (trR X)) (l.map (Za4 (trE X G))) j=none
 | [],_,_,_,_=>rfl
 | z::l,i,j,h,hz=>by
  have hz1:=h z List.mem_cons_self
  rw[ZbI]at hz
  rw[List.map_cons,ZbI]
  split at hz
  ·cases hz
  rename_i h1
  rw[if_neg (show ¬ (Za4 (trE X G) z).eras=[] from fun hh=>h1 (List.map_eq_nil_iff.1 hh))]
  cases hg:Zcr rs z.eras i z.eras.length 0 with
  | some x=>rw[hg]at hz;cases hz
  | none =>
   rw[hg]at hz
   dsimp only at hz
   have e1:Zcr (rs.map (trR X)) (Za4 (trE X G) z).eras j (Za4 (trE X G) z).eras.length 0=none:=by
    show Zcr (rs.map (trR X)) (z.eras.map (trE X G)) j (z.eras.map (trE X G)).length 0=none
    rw[List.length_map]
    exact ZnX hz1 i j _ 0 (by omega) hg
   have e2:Zf9 (rs.map (trR X)) (Za4 (trE X G) z)=Zf9 rs z:=by
    unfold Zf9
    rw[show(Za4 (trE X G) z).eras=z.eras.map (trE X G) from rfl,ZvP _ _ hz1]
   rw[e1,e2]
   dsimp only
   split at hz
   ·cases hz
   rename_i h2
   rw[if_neg h2]
   exact Zkq l _ _ (fun y hy=>h y (List.mem_cons_of_mem _ hy)) hz
end
theorem Zt4 {x L:Int}{c:Zb9}(hc:ZaQ (mvC c x)=ZaQ c):ZeS (mvC c x) (L+x)=ZeS c L:=by
 unfold ZeS
 rw[hc]
 congr 1
 unfold mvC
 by_cases h:c.base=1
 ·rw[if_pos h]
  dsimp only
  rw[if_pos h,if_pos h,show c.sec - x+(L+x)=c.sec+L by omega]
 ·rw[if_neg h,if_neg h,if_neg h]
theorem Zq1 (x:Int)(r:Zab):Zcz (shR x r)=Zcz r:=rfl
theorem Zys {x:Int}{l:List Zab}(h:∀ r∈l,r.save=0\/r.save = -x):Zii (l.map (shR x))=Zii l:=by
 have hf:(l.map (shR x)).filter (fun r=>decide (r.to=1048576))=(l.filter fun r=>decide (r.to=1048576)).map (shR x):=by
  rw[List.filter_map]
  rfl
 unfold Zii
 rw[hf]
 have hm:∀ r∈l.filter (fun r=>decide (r.to=1048576)),r.save=0\/r.save = -x:=fun r hr=>h r (List.mem_filter.1 hr).1
 generalize l.filter (fun r=>decide (r.to=1048576))=f at *
 match f,hm with
 | [],_=>rfl
 | [a],_=>rfl
 | [a,b],hm =>
  have ha:=hm a List.mem_cons_self
  have hb:=hm b (.tail _ (.head _))
  by_cases hx:x=0
  ·subst hx
   show((decide ((shR 0 a).save=0)!=decide ((shR 0 b).save=0))&&_&&_&&_)=_
   rw[ZiR,ZiR]
  show((decide (a.save+x=0)!=decide (b.save+x=0))&&!decide (a.month=b.month)&&Zcz (shR x a)&&Zcz (shR x b))=((decide (a.save=0)!=decide (b.save=0))&&!decide (a.month=b.month)&&Zcz a&&Zcz b)
  rw[Zq1,Zq1]
  congr 3
  rcases ha with ha|ha <;> rcases hb with hb|hb <;> rw[ha,hb] <;> simp[hx,Int.add_left_neg]
 | a::b::c::l,_=>rfl
theorem ZuT {rs:List Zab}{n:ByteArray}(h:n∈ZaS rs []):∃ r∈rs,r.name=n:=by
 rcases Zeu _ _ _ h with h|h
 ·cases h
 ·exact h
structure DrSh (x:Int)(l:List Zab):Prop where
 set:ZcL l
 x:x=0\/(x=3600/\∀ r∈l,r.save=0\/r.save = -3600)
theorem ZzE {x:Int}{c:Zb9}(hx:x=0\/x=3600)(h:0<=c.sec/\c.sec<=86400):ZaQ (mvC c x)=ZaQ c:=by
 rcases hx with rfl|rfl
 ·rw[ZA2]
 ·unfold mvC
  by_cases hb:c.base=1
  ·rw[if_pos hb]
   unfold ZaQ
   dsimp only
   rw[decide_eq_true (show -604799<=c.sec - 3600 by omega),decide_eq_true (show c.sec - 3600<=604799 by omega),decide_eq_true (show -604799<=c.sec by omega),decide_eq_true (show c.sec<=604799 by omega)]
  ·rw[if_neg hb]
section
variable {x:Int}{l:List Zab}(h:DrSh x l)
include h
theorem DrSh.x0:x=0\/x=3600:=by
 rcases h.x with h|⟨h,_⟩
 ·exact .inl h
 ·exact .inr h
theorem DrSh.least:Zaj (l.map (shR x))=Zaj l+x:=by
 rcases h.x with rfl|⟨rfl,hs⟩
 ·rw[show l.map (shR 0)=l from(List.map_congr_left fun r _=>ZiR r).trans (List.map_id _),Int.add_zero]
 ·obtain⟨s,h0,_,_,_,h4,h5⟩:=h.set.other
  obtain⟨t,_,_,_,r,hr,hrs⟩:=h.set.saves
  have e1:Zaj l = -3600:=by
   obtain⟨g1,g2,g3⟩:=Zd0 l 0
   unfold Zaj
   have q1:=g2 r hr
   have q2:=hs r hr
   rcases g3 with g3|⟨q,g4,g5⟩
   ·omega
   ·have:=hs q g4
    omega
  have e2:Zaj (l.map (shR 3600))=0:=by
   obtain⟨g1,g2,g3⟩:=Zd0 (l.map (shR 3600)) 0
   unfold Zaj
   rcases g3 with g3|⟨q,g4,g5⟩
   ·exact g3
   ·obtain⟨p,g6,rfl⟩:=List.mem_map.1 g4
    have:=hs p g6
    have:(shR 3600 p).save=p.save+3600:=rfl
    omega
  rw[e1,e2]
  rfl
theorem DrSh.shl:ShL x l (l.map (shR x)):=by
 have hl:=h.set.least
 have hx:=h.x0
 have e:=h.least
 have h2:Zaj (l.map (shR x))<=0:=(Zd0 _ 0).1
 refine⟨rfl,e,by omega,by omega,fun r hr=>?_⟩
 have:=(h.set.rule r hr).clk
 exact ZzE hx (by omega)
theorem DrSh.other:∃ s,s≠0/\-3600<=s/\s<=7200/\Zbo l=(s,true)/\((x=0/\Zbo (l.map (shR x))=(s,true))\/(x=3600/\s = -3600/\Zbo (l.map (shR x))=(3600,true))):=by
 obtain⟨s,h0,h1,h2,h3,h4,h5⟩:=h.set.other
 refine⟨s,h0,h1,h2,h3,?_⟩
 rcases h.x with rfl|⟨rfl,hs⟩
 ·refine .inl ⟨rfl,?_⟩
  rw[show l.map (shR 0)=l from(List.map_congr_left fun r _=>ZiR r).trans (List.map_id _)]
  exact h3
 ·obtain⟨t,t0,t1,⟨q,hq,hq0⟩,r,hr,hrs⟩:=h.set.saves
  have e1:s = -3600:=by
   have a1:=hs r hr
   have a2:=h5 r hr
   omega
  refine .inr ⟨rfl,e1,ZfE (by decide) _ _ (.inl rfl) (fun p hp=>?_) (.inr ⟨shR 3600 q,List.mem_map.2 ⟨q,hq,rfl⟩,?_⟩)⟩
  ·obtain⟨p',hp',rfl⟩:=List.mem_map.1 hp
   have:=hs p' hp'
   have:(shR 3600 p').save=p'.save+3600:=rfl
   omega
  ·show q.save+3600=3600
   omega
theorem DrSh.chk:Zes (l.map (shR x))=(0,0):=by
 have hsh:=h.shl
 have hl:=h.set.least
 have hx:=h.x0
 obtain⟨t,t0,t1,⟨q,hq,hq0⟩,r,hr,hrs⟩:=h.set.saves
 have hsv:∀ r∈l,-3600<=r.save+x/\r.save+x<=7200:=fun r hr=>by
  have:=(h.set.rule r hr).save
  rcases h.x with rfl|⟨rfl,hs⟩
  ·omega
  ·have:=hs r hr
   omega
 have hb:Zbp (Zaj (l.map (shR x))) (l.map (shR x)) 0=none:=by
  refine ZcP _ _ fun p hp=>?_
  obtain⟨p',hp',rfl⟩:=List.mem_map.1 hp
  have h1:=(h.set.rule p' hp').err hl
  have h2:=hsv p' hp'
  unfold Zcp at h1 ⊢
  rw[hsh.least,show(shR x p').from_=p'.from_ from rfl,show(shR x p').to=p'.to from rfl,show(shR x p').month=p'.month from rfl,show(shR x p').day=p'.day from rfl,show(shR x p').at_=mvC p'.at_ x from rfl,Zt4 (hsh.clk p' hp'),show(shR x p').letter=p'.letter from rfl,show(shR x p').save=p'.save+x from rfl]
  split at h1
  ·cases h1
  rename_i h3
  rw[if_neg h3]
  split at h1
  ·cases h1
  rename_i h4
  rw[if_neg h4]
  split at h1
  ·cases h1
  rename_i h5
  rw[if_neg h5]
  split at h1
  ·cases h1
  rename_i h6
  rw[if_neg h6]
  split at h1
  ·cases h1
  rw[decide_eq_true (show -10800<=p'.save+x by omega),decide_eq_true (show p'.save+x<=10800 by omega),if_neg (by decide)]
  split at h1
  ·cases h1
  rename_i h8
  rw[if_neg h8]
 unfold Zes
 rw[hb]
 dsimp only
 have hc:=h.set.chk
 unfold Zes at hc
 rw[ZcP l 0 fun r hr=>(h.set.rule r hr).err hl]at hc
 dsimp only at hc
 rcases h.x with rfl|⟨rfl,hs⟩
 ·rw[show l.map (shR 0)=l from(List.map_congr_left fun r _=>ZiR r).trans (List.map_id _)]
  exact hc
 ·have e1:Zaj l = -3600:=by
   have:=h.other
   have h2:=h.least
   have h3:Zaj (l.map (shR 3600))<=0:=(Zd0 _ 0).1
   omega
  have e2:Zaj (l.map (shR 3600))=0:=by rw[h.least,e1];rfl
  have ha:((l.map (shR 3600)).any fun r=>decide (r.save=0))=true:=List.any_eq_true.2 ⟨shR 3600 r,List.mem_map.2 ⟨r,hr,rfl⟩,decide_eq_true (by
   show r.save+3600=0
   have:=hs r hr
   omega)⟩
  rw[ha,e2,Zys hs,h.set.last,if_neg (by simp),if_neg (by decide)]
theorem DrSh.ini:fstD l true 0≠none:=by
 obtain⟨_,_,_,⟨q,hq,_⟩,_⟩:=h.set.saves
 refine Zrr l 0 _ none (.inl ?_)
 cases hl:l with
 | nil=>rw[hl]at hq;cases hq
 | cons r l2 =>
  have hr:DrRule r:=h.set.rule r (by rw[hl];exact List.mem_cons_self)
  obtain⟨g1,g2⟩:=hr.lastYr
  obtain⟨e,he⟩:=hr.onY (Zaj (r::l2)) ((0:Nat):Int) (Int.le_refl _) g1
  rw[firL]
  have h0:=hr.f0
  have:fiIn (Zaj (r::l2)) r ((0:Nat):Int) (max r.from_ (-2000000000)) 9=some e:=by
   rw[show max r.from_ (-2000000000)=r.from_ by omega,fiIn,he]
  rw[this]
  exact fun hh=>by cases hh
theorem DrSh.fault {rs':List Zab}{n:ByteArray}(hn:setB n=true)(ho:ofB rs' n=l.map (shR x)):Zco rs' n=none:=by
 unfold Zco
 rw[if_neg (by rw[hn];decide),ho,h.chk,if_neg (by simp),h.shl.apart,h.set.apart]
end
def offK (k:Nat):Int:=900*((k:Int) - 64)
def o4:List Int:=[-3600,1800,3600,7200]
theorem Zq9:∀ k:Fin 129,ZaP (ZaT (offK k.val))=5/\Zbk (ZaT (offK k.val))=none:=by decide +kernel
theorem Zq8:∀ k:Fin 129,∀ o∈o4,ZaP (ZaT (offK k.val)++47::ZaT (offK k.val+o))=5/\Zbk (ZaT (offK k.val)++47::ZaT (offK k.val+o))=some (ZaT (offK k.val),ZaT (offK k.val+o)):=by decide +kernel
theorem ZgU:∀ f∈fmtU,f≠pctB->(Zbk f.data.toList=none/\Zcm f=f/\(ZaP f.data.toList=1\/ZaP f.data.toList=3))\/((Zbk f.data.toList).isSome=true/\Zbk (Zcm f).data.toList=(Zbk f.data.toList).map (fun p=>(p.2,p.1))/\ZaP f.data.toList=2/\ZaP (Zcm f).data.toList=2/\Zcm (Zcm f)=f):=by decide +kernel
theorem ZfJ {off x:Int}{l:List Int}{r:List (List UInt8)}(hx : -86400<off+x/\off+x<86400)(hr:ZeB off l=some r):ZeB off (x::l)=some (ZaT (off+x)::r):=by
 rw[ZeB,if_neg,hr]
 rintro(hh|hh)
 ·unfold ZdD at hh
  simp at hh
  omega
 ·exact ZgC _ hx hh
def numL (e:DEra)(o:Int):List UInt8:=if e.kind=0 then ZaT e.off else if e.kind=1 then ZaT (e.off+e.save) else ZaT e.off++47::ZaT (e.off+o)
theorem ZvI {e:DEra}{l:List Zab}{o:Int}(hk:e.kind=0\/e.kind=1\/e.kind=2)(h0 : -86400<e.off/\e.off<86400)(h1:e.kind=1 -> -86400<e.off+e.save/\e.off+e.save<86400)(h2:e.kind=2->Zbo l=(o,true)/\-86400<e.off+o/\e.off+o<86400):Zbi e l=(numL e o,0):=by
 unfold Zbi numL
 dsimp only
 rcases hk with hk|hk|hk
 ·rw[if_pos hk,if_pos hk,ZfJ (by omega) rfl]
  simp[Zcn]
 ·rw[if_neg (by omega),if_pos hk,if_neg (by omega),if_pos hk,ZfJ (h1 hk) rfl]
  simp[Zcn]
 ·obtain⟨h3,h4,h5⟩:=h2 hk
  rw[if_neg (by omega),if_neg (by omega),if_pos hk,h3,if_pos rfl,ZfJ (by omega) (ZfJ ⟨h4,h5⟩ rfl),if_neg (show ¬ e.kind=0 by omega),if_neg (show ¬ e.kind=1 by omega)]
  simp[Zcn]
theorem Zy2 {off save:Int}(x:List UInt8)(h : -86400<off+save/\off+save<86400):ZbO [37,122] off save x=(ZaT (off+save),0):=by
 unfold ZbO
 rw[ZdE.2,Zc1.2.2]
 dsimp only
 rw[if_neg (by decide),if_pos rfl,if_pos ⟨by unfold ZdD;simp;omega,ZgC _ h⟩]
theorem Zwl {f:List UInt8}(hp:Zbk f=none)(hk:ZaP f=5)(off save:Int)(x:List UInt8):ZbO f off save x=(f,0):=by
 unfold ZbO
 rw[hp,hk]
 rfl
theorem Zg6 {f a b:List UInt8}(hp:Zbk f=some (a,b))(off save:Int)(x:List UInt8):ZbO f off save x=(if save=0 then a else b,0):=by
 unfold ZbO
 rw[hp]
theorem ZeD {rs:List Zab}{e:DEra}{b:Bool}(h:Zc2 rs e b=0):ZdF e (Zaz rs e)=0:=by
 unfold Zc2 at h
 split at h
 ·cases h
 split at h
 ·cases h
 split at h
 ·cases h
 split at h
 ·cases h
 split at h
 ·cases h
 split at h
 ·cases h
 exact h
def expF (rs:List Zab)(e:DEra):ByteArray:=if e.format=pctB then numB rs e else e.format
def outF (X:ByteArray->Int)(rs:List Zab)(e:DEra):ByteArray:=if yE X e=0 then expF rs e else Zcm (expF rs e)
structure D9 (x:Int)(l:List Zab):Prop where
 sh:DrSh x l
 o:∃ o∈o4,Zbo l=(o,true)/\(∀ r∈l,r.save=0\/r.save=o)/\(x=0\/o = -3600)
structure E9 (X:ByteArray->Int)(rs:List Zab)(e:DEra)(b:Bool):Prop where
 dr:Zb1 rs e b
 chk:Zc2 rs e b=0
 off:∃ k:Nat,12<=k/\k<=116/\e.off=offK k
 save:e.kind=1->∃ j:Nat,j<=8/\e.save=900*(j:Int)
 set:e.kind=2->D9 (X e.set) (ofB rs e.set)
 clk:0<=e.til.at_.sec/\e.til.at_.sec<=86400
theorem Zyc (k j:Nat):offK k+900*(j:Int)=offK (k+j):=by unfold offK;omega
section
variable {X:ByteArray->Int}{rs:List Zab}{e:DEra}{b:Bool}(h:E9 X rs e b)
include h
theorem E9.kind:e.kind=0\/e.kind=1\/e.kind=2:=by
 rcases h.dr with⟨hk,_⟩|⟨hk,_⟩|⟨hk,_⟩
 ·exact .inl hk
 ·exact .inr (.inl hk)
 ·exact .inr (.inr hk)
theorem E9.offs : -46800<=e.off/\e.off<=46800/\(e.kind=1->0<=e.save/\e.save<=7200)/\(e.kind=2 -> -43200<=e.off/\e.off<=43200):=by
 rcases h.dr with⟨hk,_,_,h1,h2,_⟩|⟨hk,hs,_,h1,h2,_⟩|⟨hk,_,_,h1,h2,_⟩
 ·exact⟨h1,h2,fun _=>by omega,fun _=>by omega⟩
 ·exact⟨h1,h2,fun _=>by omega,fun _=>by omega⟩
 ·exact⟨by omega,by omega,fun _=>by omega,fun _=>by omega⟩
theorem E9.y:yE X e=0\/(yE X e=3600/\e.kind=2):=by
 unfold yE
 by_cases hk:e.kind=2
 ·rw[if_pos hk]
  rcases(h.set hk).sh.x0 with h|h
  ·exact .inl h
  ·exact .inr ⟨h,hk⟩
 ·rw[if_neg hk]
  exact .inl rfl
theorem E9.num:∃ o,o∈o4/\Zbi e (Zaz rs e)=(numL e o,0)/\(e.kind=2->Zbo (Zaz rs e)=(o,true)/\∀ r∈Zaz rs e,r.save=0\/r.save=o)/\(yE X e=3600->o = -3600):=by
 obtain⟨a1,a2,a3,a4⟩:=h.offs
 by_cases hk:e.kind=2
 ·obtain⟨o,h1,h2,h3,h4⟩:=(h.set hk).o
  have e1:Zaz rs e=ofB rs e.set:=by unfold Zaz;rw[if_pos hk]
  have ob : -3600<=o/\o<=7200:=by
   simp only[o4,List.mem_cons,List.not_mem_nil,or_false]at h1
   omega
  refine⟨o,h1,?_,fun _=>by rw[e1];exact⟨h2,h3⟩,fun hy=>?_⟩
  ·rw[e1]
   exact ZvI h.kind (by omega) (fun h=>by omega) fun _=>⟨h2,by omega,by omega⟩
  ·unfold yE at hy
   rw[if_pos hk]at hy
   omega
 ·refine⟨3600,by decide,?_,fun h=>absurd h hk,fun hy=>?_⟩
  ·refine ZvI h.kind (by omega) (fun h=>?_) fun h=>absurd h hk
   have:=a3 h
   omega
  ·unfold yE at hy
   rw[if_neg hk]at hy
   omega
theorem E9.shl:ShL (yE X e) (Zaz rs e) ((Zaz rs e).map (shR (yE X e))):=by
 unfold yE Zaz
 by_cases hk:e.kind=2
 ·rw[if_pos hk,if_pos hk]
  exact(h.set hk).sh.shl
 ·rw[if_neg hk,if_neg hk]
  exact⟨rfl,rfl,by decide,by decide,fun r hr=>by cases hr⟩
theorem E9.numK {o:Int}(ho:o∈o4):ZaP (numL e o)=5/\(e.kind≠2->Zbk (numL e o)=none)/\(e.kind=2->Zbk (numL e o)=some (ZaT e.off,ZaT (e.off+o))):=by
 obtain⟨k,k0,k1,k2⟩:=h.off
 unfold numL
 rw[k2]
 rcases h.kind with hk|hk|hk
 ·have:=Zq9 ⟨k,by omega⟩
  rw[if_pos hk]
  exact⟨this.1,fun _=>this.2,fun h=>by omega⟩
 ·obtain⟨j,j1,j2⟩:=h.save hk
  have:=Zq9 ⟨k+j,by omega⟩
  rw[if_neg (by omega),if_pos hk,j2,Zyc]
  exact⟨this.1,fun _=>this.2,fun h=>by omega⟩
 ·have:=Zq8 ⟨k,by omega⟩ o ho
  rw[if_neg (by omega),if_neg (by omega)]
  exact⟨this.1,fun h=>absurd hk h,fun _=>this.2⟩
theorem E9.numT (hk:e.kind=2):ZaP (ZaT (e.off + -3600)++47::ZaT e.off)=5/\Zbk (ZaT (e.off + -3600)++47::ZaT e.off)=some (ZaT (e.off + -3600),ZaT e.off):=by
 obtain⟨k,k0,k1,k2⟩:=h.off
 have:=Zq8 ⟨k - 4,by omega⟩ 3600 (by decide)
 rw[k2,show offK k + -3600=offK (k - 4) by unfold offK;omega]
 rw[show offK (k - 4)+3600=offK k by unfold offK;omega]at this
 exact this
omit h in
theorem Zpp {o:Int}(hx:Zbi e (Zaz rs e)=(numL e o,0)):(numB rs e).data.toList=numL e o:=by
 unfold numB
 rw[hx]
theorem E9.tr:TrOk X (outF X rs) rs e:=by
 obtain⟨o,o1,o2,o3,o5⟩:=h.num
 obtain⟨a1,a2,a3,a4⟩:=h.offs
 have hsh:=h.shl
 have hfc:=ZeD h.chk
 have hy:=h.y
 have hsv:∀ x∈ZaE rs e,-86400<e.off+x.1/\e.off+x.1<86400:=fun x hx=>by
  have:=h.dr.states.2.1 x hx
  omega
 refine⟨hsh,ZzE (by omega) h.clk,?_,?_,?_⟩
 ·unfold ZbG
  rw[decide_eq_true (by omega),decide_eq_true (by omega)]
  rfl
 ·-- the FORMAT is right
  by_cases hp:e.format=pctB
  ·obtain⟨n1,n2,n3⟩:=h.numK o1
   have hb:(expF rs e).data.toList=numL e o:=by unfold expF;rw[if_pos hp];exact Zpp o2
   rcases hy with hy|⟨hy,hk⟩
   ·have e1:Zbi (trE X (outF X rs) e) ((Zaz rs e).map (shR (yE X e)))=(numL e o,0):=by
     rw[hy,show(Zaz rs e).map (shR 0)=Zaz rs e from(List.map_congr_left fun r _=>ZiR r).trans (List.map_id _),<- o2]
     unfold Zbi
     rw[show(trE X (outF X rs) e).off=e.off from by show e.off - yE X e=_;omega]
     rfl
    have e2:(trE X (outF X rs) e).format.data.toList=numL e o:=by
     show(outF X rs e).data.toList=_
     unfold outF
     rw[if_pos hy,hb]
    unfold ZdF
    dsimp only
    rw[e2,n1,if_neg (by decide),if_neg (by decide),if_pos (.inr rfl),e1,if_neg]
    rintro(hh|⟨_,hh⟩)
    ·exact hh rfl
    ·exact hh rfl
   ·obtain rfl:=o5 hy
    obtain⟨t1,t2⟩:=h.numT hk
    have hD:=(h.set hk).sh
    have hyx:X e.set=3600:=by unfold yE at hy;rwa[if_pos hk]at hy
    have e2:(trE X (outF X rs) e).format.data.toList=ZaT (e.off + -3600)++47::ZaT e.off:=by
     show(outF X rs e).data.toList=_
     unfold outF Zcm
     rw[if_neg (by omega),hb,n3 hk]
    have e1:Zbi (trE X (outF X rs) e) ((Zaz rs e).map (shR (yE X e)))=(ZaT (e.off + -3600)++47::ZaT e.off,0):=by
     have hs:Zaz rs e=ofB rs e.set:=by unfold Zaz;rw[if_pos hk]
     obtain⟨s,_,_,_,_,hh⟩:=hD.other
     have ho:Zbo ((Zaz rs e).map (shR (yE X e)))=(3600,true):=by
      rw[hy,hs]
      rw[hyx]at hh
      rcases hh with⟨hh,_⟩|⟨_,_,hh⟩
      ·omega
      ·exact hh
     have hoff:(trE X (outF X rs) e).off=e.off + -3600:=by show e.off - yE X e=_;omega
     have:=ZvI (e:=trE X (outF X rs) e) (l:=(Zaz rs e).map (shR (yE X e))) (o:=3600) (.inr (.inr hk)) (by rw[hoff];have:=a4 hk;omega) (fun h=>by have:e.kind=1:=h;omega) fun _=>⟨ho,by rw[hoff];have:=a4 hk;omega⟩
     rw[this]
     unfold numL
     rw[if_neg (show ¬ (trE X (outF X rs) e).kind=0 by show ¬ e.kind=0;omega),if_neg (show ¬ (trE X (outF X rs) e).kind=1 by show ¬ e.kind=1;omega),hoff,show e.off + -3600+3600=e.off by omega]
    unfold ZdF
    dsimp only
    rw[e2,t1,if_neg (by decide),if_neg (by decide),if_pos (.inr rfl),e1,if_neg]
    rintro(hh|⟨_,hh⟩)
    ·exact hh rfl
    ·exact hh rfl
  ·have hb:expF rs e=e.format:=by unfold expF;rw[if_neg hp]
   rcases ZgU _ h.dr.fmt hp with⟨q1,q2,q3⟩|⟨q1,q2,q3,q4,q5⟩
   ·have e2:(trE X (outF X rs) e).format=e.format:=by
     show outF X rs e=_
     unfold outF
     rw[hb,q2]
     split <;> rfl
    unfold ZdF at hfc ⊢
    rw[e2]
    dsimp only at hfc ⊢
    rcases q3 with q3|q3
    ·rw[q3,if_neg (by decide),if_neg (by decide),if_neg (by decide)]
    ·rw[q3,if_neg (by decide),if_pos rfl]at hfc ⊢
     rw[show(trE X (outF X rs) e).kind=e.kind from rfl,List.map_map]
     exact hfc
   ·have e2:ZaP (trE X (outF X rs) e).format.data.toList=2:=by
     show ZaP (outF X rs e).data.toList=_
     unfold outF
     rw[hb]
     split
     ·exact q3
     ·exact q4
    unfold ZdF
    dsimp only
    rw[e2,if_neg (by decide),if_neg (by decide),if_neg (by decide)]
 ·-- the abbreviations are the same
  intro x hx
  by_cases hp:e.format=pctB
  ·obtain⟨n1,n2,n3⟩:=h.numK o1
   have hb:(expF rs e).data.toList=numL e o:=by unfold expF;rw[if_pos hp];exact Zpp o2
   rw[hp,show pctB.data.toList=[37,122] from rfl,Zy2 _ (hsv x hx)]
   by_cases hk:e.kind=2
   ·obtain⟨p1,p2⟩:=o3 hk
    have hxs:x.1=0\/x.1=o:=by
     unfold ZaE at hx
     rw[if_neg (by omega),if_pos hk]at hx
     obtain⟨r,hr,rfl⟩:=List.mem_map.1 hx
     exact p2 r hr
    rcases hy with hy|⟨hy,_⟩
    ·have e2:(outF X rs e).data.toList=numL e o:=by
      unfold outF
      rw[if_pos hy,hb]
     rw[e2,Zg6 (n3 hk),hy,Int.add_zero]
     rcases hxs with hxs|hxs
     ·rw[if_pos hxs,hxs,Int.add_zero]
     ·by_cases h0:x.1=0
      ·rw[if_pos h0,h0,Int.add_zero]
      ·rw[if_neg h0,hxs]
    ·obtain rfl:=o5 hy
     obtain⟨t1,t2⟩:=h.numT hk
     have e2:(outF X rs e).data.toList=ZaT (e.off + -3600)++47::ZaT e.off:=by
      unfold outF Zcm
      rw[if_neg (by omega),hb,n3 hk]
     rw[e2,Zg6 t2,hy]
     rcases hxs with hxs|hxs
     ·rw[if_neg (by omega),hxs,Int.add_zero]
     ·rw[if_pos (by omega),hxs]
   ·have hy0:yE X e=0:=by
     rcases hy with hy|⟨_,hk2⟩
     ·exact hy
     ·exact absurd hk2 hk
    have e2:(outF X rs e).data.toList=numL e o:=by
     unfold outF
     rw[if_pos hy0,hb]
    rw[e2,Zwl (n2 hk) n1]
    unfold ZaE at hx
    unfold numL
    rcases h.kind with hk0|hk1|hk2
    ·rw[if_neg (by omega),if_neg hk,List.mem_singleton]at hx
     subst hx
     rw[if_pos hk0]
     dsimp only
     rw[Int.add_zero]
    ·rw[if_pos hk1,List.mem_singleton]at hx
     subst hx
     rw[if_neg (by omega),if_pos hk1]
    ·exact absurd hk2 hk
  ·have hb:expF rs e=e.format:=by unfold expF;rw[if_neg hp]
   rcases ZgU _ h.dr.fmt hp with⟨q1,q2,q3⟩|⟨q1,q2,q3,q4,q5⟩
   ·have e2:outF X rs e=e.format:=by
     unfold outF
     rw[hb,q2]
     split <;> rfl
    rw[e2]
    unfold ZbO
    rw[q1]
    dsimp only
    rcases q3 with q3|q3 <;> rw[q3] <;> rfl
   ·obtain⟨⟨p,q⟩,hpq⟩:=Option.isSome_iff_exists.1 q1
    rw[hpq,Option.map_some]at q2
    dsimp only at q2
    rw[Zg6 hpq]
    rcases hy with hy|⟨hy,hk⟩
    ·have e2:outF X rs e=e.format:=by unfold outF;rw[if_pos hy,hb]
     rw[e2,Zg6 hpq,hy,Int.add_zero]
    ·obtain rfl:=o5 hy
     obtain⟨_,p2⟩:=o3 hk
     have hxs:x.1=0\/x.1 = -3600:=by
      unfold ZaE at hx
      rw[if_neg (by omega),if_pos hk]at hx
      obtain⟨r,hr,rfl⟩:=List.mem_map.1 hx
      exact p2 r hr
     have e2:outF X rs e=Zcm e.format:=by unfold outF;rw[if_neg (by omega),hb]
     rw[e2,Zg6 q2,hy]
     rcases hxs with hxs|hxs
     ·rw[if_neg (by omega),if_pos hxs]
     ·rw[if_pos (by omega),if_neg (by omega)]
end
def pctZ:ByteArray:=⟨#[37,122]⟩
theorem Zrh {f:ByteArray}(h:f∈fmtU):decide (ZaP f.data.toList=4)=decide (f=pctZ)/\decide (ZaP f.data.toList=5)=false:=by
 have h1:∀ f∈fmtU,decide (ZaP f.data.toList=4)=decide (f=pctZ)/\decide (ZaP f.data.toList=5)=false:=by decide +kernel
 exact h1 f h
theorem Zrp {α:Type}{l:List α}{p:α->Bool}(h:l.any p=false):l.findIdx? p=none:=by
 rw[List.findIdx?_eq_none_iff]
 intro x hx
 rw[List.any_eq_false]at h
 simpa using h x hx
end Go.Proofs.YtbjomhdhkpgbaaaGreatDoor
