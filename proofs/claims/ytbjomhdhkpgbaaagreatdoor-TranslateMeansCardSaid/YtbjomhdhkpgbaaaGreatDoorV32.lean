/- Parts of the proof. -/
import Derived.Test.YtbjomhdhkpgbaaaGreatDoorV31
import Derived.Test.YtbjomhdhkpgbaaaGreatDoorV14
import Derived.Test.YtbjomhdhkpgbaaaGreatDoorV30
import Derived.Test.YtbjomhdhkpgbaaaGreatDoorV24
import Derived.Test.YtbjomhdhkpgbaaaGreatDoorV09
import Derived.Test.YtbjomhdhkpgbaaaGreatDoorV29
import Derived.Test.YtbjomhdhkpgbaaaGreatDoorV26
set_option maxHeartbeats 4000000
set_option linter.unusedVariables false
set_option linter.unusedSimpArgs false
namespace Go.Proofs.YtbjomhdhkpgbaaaGreatDoor
open Go Go.RowKit Go.Wk
theorem Zia:∀ (x y:List UInt8),Op.bytesLess x y=decide (x<y)
 | [],[]=>by simp[Op.bytesLess]
 | _::_,[]=>by simp[Op.bytesLess]
 | [],_::_=>by simp[Op.bytesLess]
 | a::x,b::y=>by
  rw[Op.bytesLess,Zia x y]
  simp only[List.cons_lt_cons_iff]
  by_cases h1:a<b <;> by_cases h2:a=b <;> by_cases h3:x<y <;> simp[h1,h2,h3]
theorem ZfI (x y:ByteArray):ZdY x y=true↔x.toList<y.toList:=by
 rw[ZdY,Zia,decide_eq_true_eq]
theorem ZlR (x:ByteArray):ZdY x x=false:=by
 cases h:ZdY x x with
 | false=>rfl
 | true=>exact absurd ((ZfI x x).1 h) (List.lt_irrefl _)
theorem Zu8 {x y z:ByteArray}(h1:ZdY x y=true)(h2:ZdY y z=true):ZdY x z=true :=
 (ZfI x z).2 (List.lt_trans ((ZfI x y).1 h1) ((ZfI y z).1 h2))
theorem Zo0 {x y:ByteArray}(h:x.toList=y.toList):x=y:=by
 have:=toList_eq x y
 rw[h]at this
 simpa using this
theorem Zyo {x y:ByteArray}(h1:ZdY x y=false)(h2:ZdY y x=false):x=y:=by
 have a1:¬ x.toList<y.toList:=fun h=>by rw[(ZfI x y).2 h]at h1;cases h1
 have a2:¬ y.toList<x.toList:=fun h=>by rw[(ZfI y x).2 h]at h2;cases h2
 exact Zo0 (List.le_antisymm (List.not_lt.1 a2) (List.not_lt.1 a1))
def Zmk (l:List ByteArray):Prop:=l.Pairwise fun a b=>ZdY a b=true
theorem ZyI {l:List ByteArray}{i:Nat}(h:i<l.length):l.getD i ByteArray.empty=l[i]:=by
 rw[List.getD_eq_getElem?_getD,List.getElem?_eq_getElem h];rfl
theorem Zvp (P:List ByteArray)(x:ByteArray):∀ j,j<=P.length->(∀ k (hk:k<P.length),j<=k->ZdY x P[k]=true) ->
  ∃ i,i<=j/\insB P x j=Zcq P x i/\(∀ k (hk:k<P.length),i<=k->ZdY x P[k]=true)/\(∀ (hi:i - 1<P.length),0<i->ZdY x P[i - 1]=false)
 | 0,_,h=>⟨0,Nat.le_refl _,rfl,h,fun _ h=>absurd h (by simp)⟩
 | j+1,hj,h=>by
  rw[insB,ZyI (show j<P.length by omega)]
  cases hx:ZdY x P[j] with
  | true =>
   obtain⟨i,h1,h2,h3,h4⟩:=Zvp P x j (by omega) (fun k hk hle=>by
    rcases Nat.eq_or_lt_of_le hle with e|hlt
    ·subst e;exact hx
    ·exact h k hk hlt)
   exact⟨i,by omega,by simpa using h2,h3,h4⟩
  | false=>exact⟨j+1,Nat.le_refl _,by simp,h,fun _ _=>hx⟩
theorem ZuE (P:List ByteArray)(x y:ByteArray)(i:Nat):y∈Zcq P x i↔y=x\/y∈P:=by
 rw[Zcq,List.mem_append,List.mem_cons]
 constructor
 ·rintro(h|h|h)
  ·exact .inr (List.mem_of_mem_take h)
  ·exact .inl h
  ·exact .inr (List.mem_of_mem_drop h)
 ·rintro(h|h)
  ·exact .inr (.inl h)
  ·rw[<- List.take_append_drop i P,List.mem_append]at h
   rcases h with h|h
   ·exact .inl h
   ·exact .inr (.inr h)
theorem Zrm (P:List ByteArray)(x:ByteArray):∃ i,i<=P.length/\insB P x P.length=Zcq P x i/\(∀ y∈P.drop i,ZdY x y=true)/\(∀ (hi:i - 1<P.length),0<i->ZdY x P[i - 1]=false):=by
 obtain⟨i,h1,h2,h3,h4⟩:=Zvp P x P.length (Nat.le_refl _) (fun k hk hle=>by omega)
 refine⟨i,h1,h2,fun y hy=>?_,h4⟩
 obtain⟨k,hk,rfl⟩:=List.mem_iff_getElem.1 hy
 rw[List.getElem_drop]
 exact h3 _ _ (by omega)
theorem ZDg {P:List ByteArray}(x:ByteArray)(h:Zmk P)(hx:x ∉ P):Zmk (insB P x P.length):=by
 obtain⟨i,h1,h2,h3,h4⟩:=Zrm P x
 rw[h2]
 have hle:∀ y∈P.take i,ZdY y x=true:=fun y hy=>by
  obtain⟨k,hk,rfl⟩:=List.mem_iff_getElem.1 hy
  rw[List.length_take]at hk
  rw[List.getElem_take]
  have hlast:=h4 (by omega) (by omega)
  have hlt1:ZdY P[i - 1] x=true:=by
   cases hq:ZdY P[i - 1] x with
   | true=>rfl
   | false=>exact absurd (Zyo hlast hq▸List.getElem_mem _) hx
  rcases Nat.eq_or_lt_of_le (show k<=i - 1 by omega) with e|hlt
  ·subst e;exact hlt1
  ·exact Zu8 ((List.pairwise_iff_getElem.1 h) k (i - 1) (by omega) (by omega) hlt) hlt1
 unfold Zmk Zcq
 rw[List.pairwise_append,List.pairwise_cons]
 have hs:=h
 rw[Zmk,<- List.take_append_drop i P,List.pairwise_append]at hs
 refine⟨hs.1,⟨fun y hy=>h3 y hy,hs.2.1⟩,fun y hy z hz=>?_⟩
 rcases List.mem_cons.1 hz with rfl|hz
 ·exact hle y hy
 ·exact hs.2.2 y hy z hz
theorem Zvo (P:List ByteArray)(x y:ByteArray):y∈insB P x P.length↔y=x\/y∈P:=by
 obtain⟨i,_,h2,_⟩:=Zrm P x
 rw[h2,ZuE]
theorem ZqT:∀ (l m:List ByteArray),Zmk l->Zmk m->(∀ y,y∈l↔y∈m)->l=m
 | [],[],_,_,_=>rfl
 | [],b::m,_,_,h=>by have:=(h b).2 List.mem_cons_self;simp at this
 | a::l,[],_,_,h=>by have:=(h a).1 List.mem_cons_self;simp at this
 | a::l,b::m,hl,hm,h=>by
  obtain⟨ha,hl'⟩:=List.pairwise_cons.1 hl
  obtain⟨hb,hm'⟩:=List.pairwise_cons.1 hm
  have hab:a=b:=by
   rcases List.mem_cons.1 ((h a).1 List.mem_cons_self) with e|e
   ·exact e
   ·rcases List.mem_cons.1 ((h b).2 List.mem_cons_self) with e2|e2
    ·exact e2.symm
    ·have:=Zu8 (ha b e2) (hb a e)
     rw[ZlR]at this
     cases this
  subst hab
  rw[ZqT l m hl' hm' fun y=>?_]
  constructor
  ·intro hy
   rcases List.mem_cons.1 ((h y).1 (List.mem_cons_of_mem _ hy)) with e|e
   ·subst e
    have:=ha y hy
    rw[ZlR]at this
    cases this
   ·exact e
  ·intro hy
   rcases List.mem_cons.1 ((h y).2 (List.mem_cons_of_mem _ hy)) with e|e
   ·subst e
    have:=hb y hy
    rw[ZlR]at this
    cases this
   ·exact e
end Go.Proofs.YtbjomhdhkpgbaaaGreatDoor
set_option maxHeartbeats 4000000
namespace Go.Proofs.YtbjomhdhkpgbaaaGreatDoor
open Go Go.RowKit Go.Wk
theorem Znk (x:ByteArray):∀ (l m:List (ByteArray × Value)),(mget (Zew m l) x).isSome=true↔(mget m x).isSome=true\/x∈l.map Prod.fst
 | [],m=>by simp[Zew]
 | e::l,m=>by
  rw[Zew,Znk x l,Zed,List.map_cons,List.mem_cons]
  by_cases h:x=e.1
  ·rw[if_pos h];simp[h]
  ·rw[if_neg h];simp[h]
theorem Zrb:∀ (l:List (ByteArray × Value)){m:List (ByteArray × Value)},Nd m->Nd (Zew m l)
 | [],_,h=>h
 | e::l,_,h=>Zrb l (h.set e.1 e.2)
theorem Znj:∀ (l m:List (ByteArray × Value)),(Zew m l).length<=m.length+l.length
 | [],m=>Nat.le_refl _
 | e::l,m=>by
  have h1:=Znj l (mset m e.1 e.2)
  have h2:=Ziq e.1 e.2 m
  rw[Zew,List.length_cons]
  omega
theorem Zuh:∀ (l acc:List ByteArray),Zmk acc->l.Nodup->(∀ x∈l,x ∉ acc)->Zmk (l.foldl (fun P x=>insB P x P.length) acc)/\∀ y,y∈l.foldl (fun P x=>insB P x P.length) acc↔y∈acc\/y∈l
 | [],acc,h,_,_=>⟨h,fun y=>by simp⟩
 | x::l,acc,h,hn,hd=>by
  obtain⟨hn1,hn2⟩:=List.nodup_cons.1 hn
  obtain⟨h1,h2⟩:=Zuh l (insB acc x acc.length) (ZDg x h (hd x List.mem_cons_self)) hn2 fun y hy hm=>by
   rcases(Zvo acc x y).1 hm with rfl|hm
   ·exact hn1 hy
   ·exact hd y (List.mem_cons_of_mem _ hy) hm
  refine⟨h1,fun y=>?_⟩
  rw[List.foldl_cons,h2 y,Zvo,List.mem_cons]
  constructor
  ·rintro((rfl|h)|h)
   ·exact .inr (.inl rfl)
   ·exact .inl h
   ·exact .inr (.inr h)
  ·rintro(h|rfl|h)
   ·exact .inl (.inr h)
   ·exact .inl (.inl rfl)
   ·exact .inr h
theorem Zjq (x:ByteArray):∀ (l:List ZaO) (k:Nat),(Zbd x l k).isSome=true↔x∈l.map ZaO.name
 | [],_=>by simp[Zbd]
 | z::l,k=>by
  rw[Zbd,List.map_cons,List.mem_cons]
  by_cases h:z.name=x
  ·rw[if_pos h];simp[h]
  ·rw[if_neg h,Zjq x l]
   have h':¬ x=z.name:=fun e=>h e.symm
   simp[h']
theorem Zjt (x:ByteArray):∀ (l:List Zbl) (k:Nat),(ZbV x l k).isSome=true↔x∈l.map Zbl.name
 | [],_=>by simp[ZbV]
 | z::l,k=>by
  rw[ZbV,List.map_cons,List.mem_cons]
  by_cases h:z.name=x
  ·rw[if_pos h];simp[h]
  ·rw[if_neg h,Zjt x l]
   have h':¬ x=z.name:=fun e=>h e.symm
   simp[h']
theorem Znl (x:ByteArray)(m:List (ByteArray × Value)):(mget m x).isSome=true↔x∈m.map Prod.fst:=by
 have:=Zex x m
 cases h:mget m x with
 | none =>
  have h3:=this.1 h
  exact⟨fun e=>(by cases e),fun e=>absurd e h3⟩
 | some v =>
  have h2:x∈m.map Prod.fst:=Classical.byContradiction fun hn=>by rw[this.2 hn]at h;cases h
  exact⟨fun _=>h2,fun _=>rfl⟩
def ZlQ (a:Zac)(ns:List ByteArray):Prop:=Zmk ns/\∀ x,x∈ns↔x∈a.zones.map ZaO.name\/x∈a.links.map Zbl.name
theorem ZA5 {a:Zac}{m1 m2 l d:List (ByteArray × Value)}(h1:IxM m1 fun x=>Zbd x a.zones 0)(h2:IxM m2 fun x=>ZbV x a.links 0)(hd1:Nd m1)(hl:l.Perm m2)(hd:d.Perm (Zew m1 l)):ZlQ a (Zdd (d.map Prod.fst)):=by
 have hn:(d.map Prod.fst).Nodup:=(hd.map Prod.fst).nodup_iff.2 (Zrb l hd1)
 obtain⟨s1,s2⟩:=Zuh (d.map Prod.fst) [] List.Pairwise.nil hn (by simp)
 refine⟨s1,fun x=>?_⟩
 have e1:x∈Zdd (d.map Prod.fst)↔x∈d.map Prod.fst:=by
  have:=s2 x
  rw[show Zdd (d.map Prod.fst)=(d.map Prod.fst).foldl (fun P x=>insB P x P.length) [] from rfl,this]
  exact⟨fun h=>h.elim (fun h=>(by cases h)) id,.inr⟩
 have e2:x∈d.map Prod.fst↔x∈(Zew m1 l).map Prod.fst:=(hd.map Prod.fst).mem_iff
 have e3:x∈l.map Prod.fst↔x∈m2.map Prod.fst:=(hl.map Prod.fst).mem_iff
 have e4:=Znk x l m1
 rw[Znl,h1 x,Option.isSome_map,Zjq]at e4
 have e5:=Znl x m2
 rw[h2 x,Option.isSome_map,Zjt]at e5
 rw[e1,e2,e4,e3,e5]
attribute [local irreducible] W RL Does Zar Zal retQ Calls Pu Stp RD Qy Ay Zak RLI WI
theorem Zvj (b:Nat)(w:World):Does Tryz.prog 39 [.map (some b)] w (fun v O=>∃ bx,v = .func (.func 75) #[] #[.pointer (some ⟨bx,0,none⟩)]/\O=[.blk bx [.map (some b)] 98]):=by
 refine Zaa Tryz.func39 rfl rfl rfl rfl ?_
 repeat (first|(refine js ?_;(refine bx ?_;intro bk))|refine walk ?_)
 exact ret_1 _ _ (.tmp rfl) (.refl _) ⟨_,rfl,rfl⟩
theorem Zn8 (bx b:Nat)(m:List (ByteArray × Value))(hm:m.length<=1000000)(wr:World) :
  Zak Tryz.prog 73 [.func (.func 75) #[] #[.pointer (some ⟨bx,0,none⟩)]] wr [.blk bx [.map (some b)] 98,.mp b m] (Zzf m):=by
 refine ZaD Tryz.func73 rfl rfl rfl rfl ?_
 repeat (first|(refine js ?_;(apply ZaM (h:=Zkp bx b m hm wr);rfl;exact SOA;rintro v O' ⟨A,c,d,h1,rfl,h3,h4,h5,rfl⟩))|refine walk ?_)
 exact ret_1 _ [.row (.slice A (d.map Prod.fst).length c) 9 1 (d.map Prod.fst).length ((d.map Prod.fst).flatMap Zav)] (.tmp rfl) SOA ⟨A,c,d,h1,rfl,h3,h4,h5,rfl⟩
theorem Zo6 (bx b:Nat)(m:List (ByteArray × Value))(hm:m.length<=12)(wr:World) :
  Zak Tryz.prog 38 [.func (.func 75) #[] #[.pointer (some ⟨bx,0,none⟩)]] wr [.blk bx [.map (some b)] 98,.mp b m]
   (fun v O=>∃ (A:Option Addr) (c:Nat) (d:List (ByteArray × Value)),d.Perm m/\v = .slice A (Zdd (d.map Prod.fst)).length c/\O=[rowS A c (Zdd (d.map Prod.fst))]):=by
 refine ZaD Tryz.func38 rfl rfl rfl rfl ?_
 repeat (first|(refine js ?_;(first|(apply ZaM (h:=Zn8 bx b m (by omega) wr);rfl;exact SOA;rintro v O' ⟨A,c,d,h1,rfl,h3,h4,h5,rfl⟩)|(apply ZaM (h:=Zui A c (d.map Prod.fst) wr [] (by rw[List.length_map,h1.length_eq];exact hm) h5);rfl;exact SOA;rintro v O' rfl)))|refine walk ?_)
 have hl:=Zm2 (d.map Prod.fst)
 exact ret_1 _ [rowS A c (Zdd (d.map Prod.fst))] (.tmp rfl) SOA ⟨A,c,d,h1,by rw[hl],rfl⟩
theorem Zf5 (Ar Az Al As:Option Addr)(cr cz cl cs:Nat)(a:Zac)(w:World)(hA:Zan w Ar Az Al As cr cz cl cs a)(hn:a.zones.length+a.links.length<=12) :
  Does Tryz.prog 18 [srcV Ar Az Al As cr cz cl cs a] w (fun v O=>∃ (A:Option Addr) (c:Nat) (ns:List ByteArray),ZlQ a ns/\v = .slice A ns.length c/\O=[rowS A c ns]):=by
 refine Zaa Tryz.func18 rfl rfl rfl rfl ?_
 repeat (first|(refine js ?_;(first|(apply Zad (h:=fun w' hw _=>Zgq Ar Az Al As cr cz cl cs a w' (hA.up hw) (by omega));rfl;rintro v O' ⟨b1,m1,rfl,rfl,i1,d1,n1⟩)|(apply Zad (h:=fun w' hw _=>Zey Ar Az Al As cr cz cl cs a w' (hA.up hw) (by omega));rfl;rintro v O' ⟨b2,m2,rfl,rfl,i2,d2,n2⟩)|(apply ZaM (h:=ZsM b1 b2 m1 m2 w);rfl;exact SOA;rintro v O' ⟨rfl,l,hl,rfl⟩)|(apply Zad (h:=fun w' _ _=>Zvj b1 w');rfl;rintro v O' ⟨bx,rfl,rfl⟩)|(apply ZaM (h:=Zo6 bx b1 (Zew m1 l) (by have:=Znj l m1;have:=hl.length_eq;omega) w);rfl;exact SOA;rintro v O' ⟨A,c,d,hd,rfl,rfl⟩)|(refine bx ?_;intro bk)))|refine walk ?_)
 exact ret_1 _ [rowS A c (Zdd (d.map Prod.fst))] (.tmp rfl) SOA ⟨A,c,_,ZA5 i1 i2 d1 hl hd,rfl,rfl⟩
end Go.Proofs.YtbjomhdhkpgbaaaGreatDoor
namespace Go.Proofs.YtbjomhdhkpgbaaaGreatDoor
open Go Go.RowKit Go.Wk
theorem ZxD {X:ByteArray->Int}{e:DEra}(h:e.kind≠2):yE X e=0:=if_neg h
theorem ZmI {X:ByteArray->Int}{e:DEra}(h:e.kind=2):yE X e=X e.set:=if_pos h
theorem ZlI {rs:List Zab}{e:DEra}(h:e.kind≠2):Zaz rs e=[]:=if_neg h
theorem Zfb {rs:List Zab}{e:DEra}(h:e.kind=2):Zaz rs e=ofB rs e.set:=if_pos h
theorem ZrM {e:DEra}{l:List Zab}(h : -10800<=Zaj l)(h0:e.kind≠2->l=[]):Go.Wk.bsE e l=Zaj l:=by
 unfold Go.Wk.bsE
 split
 ·omega
 ·rw[h0 ‹_›]
  rfl
section
variable {X:ByteArray->Int}{rs:List Zab}{e:DEra}{b:Bool}(h:E9 X rs e b){G:DEra->ByteArray}(g:TrOk X G rs e)
include h g
theorem E9.ends (hi:e.til.is=true):ZaI (trE X G e).til (Go.Wk.bsE (trE X G e) (ruEr (rs.map (trR X)) (trE X G e)))=ZaI e.til (Go.Wk.bsE e (ruEr rs e))/\endB (trE X G e) (ruEr (rs.map (trR X)) (trE X G e))=endB e (ruEr rs e)+yE X e/\endT (trE X G e) (ruEr (rs.map (trR X)) (trE X G e))=endT e (ruEr rs e):=by
 have s:=g.sh
 have t:=g.til
 have l:=g.least
 have b1:Go.Wk.bsE e (ruEr rs e)=Zaj (Zaz rs e):=ZrM s.lo.1 fun hk=>ZlI hk
 have b2:Go.Wk.bsE (trE X G e) (ruEr (rs.map (trR X)) (trE X G e))=Zaj (Zaz (rs.map (trR X)) (trE X G e)):=ZrM (by
  show -10800<=Zaj (Zaz (rs.map (trR X)) (trE X G e))
  rw[l]
  exact s.lo'.1) fun hk=>ZlI hk
 have hb:endB (trE X G e) (ruEr (rs.map (trR X)) (trE X G e))=endB e (ruEr rs e)+yE X e:=by
  unfold endB
  rw[b1,b2,t.2]
  unfold bfE
  rcases h.kind with hk|hk|hk
  ·rw[if_neg (show ¬ (trE X G e).kind=1 by show ¬ e.kind=1;omega),if_neg (show ¬ (trE X G e).kind=2 by show ¬ e.kind=2;omega),if_neg (by omega),if_neg (by omega),ZxD (by omega)]
   rfl
  ·rw[if_pos (show(trE X G e).kind=1 from hk),if_pos hk,ZxD (by omega),Int.add_zero]
   rfl
  ·rw[if_neg (show ¬ (trE X G e).kind=1 by show ¬ e.kind=1;omega),if_pos (show(trE X G e).kind=2 from hk),if_neg (by omega),if_pos hk]
   have hd:=(h.set hk).sh
   have e1:ruEr (rs.map (trR X)) (trE X G e)=(ofB rs e.set).map (shR (X e.set)):=by
    show Zaz (rs.map (trR X)) (trE X G e)=_
    rw[Zep,Zfb hk,ZmI hk]
   have e2:ruEr rs e=ofB rs e.set:=Zfb hk
   rw[e1,e2,ZmI hk,hd.shl.befS hd.ini]
 refine⟨by rw[b1,b2];exact t.1,hb,?_⟩
 have ht:(trE X G e).til={ e.til with at_:=mvC e.til.at_ (yE X e) }:=by
  show shU e.til (yE X e)=_
  unfold shU
  rw[if_pos hi]
 unfold endT
 rw[hb,ht,show(trE X G e).off=e.off - yE X e from rfl]
 dsimp only
 unfold mvC
 by_cases hb1:e.til.at_.base=1
 ·rw[if_pos hb1]
  dsimp only
  rw[if_neg (by omega),if_pos hb1,if_neg (by omega),if_pos hb1]
  omega
 ·simp only[if_neg hb1]
  split
  ·omega
  ·rfl
end
theorem E9.state {X:ByteArray->Int}{rs:List Zab}{e:DEra}{b:Bool}(h:E9 X rs e b)(G:DEra->ByteArray)(t:Int):Zbj (rs.map (trR X)) (trE X G e) t=((Zbj rs e t).1+yE X e,(Zbj rs e t).2):=by
 unfold Zbj
 rcases h.kind with hk|hk|hk
 ·rw[if_pos (show(trE X G e).kind=0 from hk),if_pos hk,ZxD (by omega)]
  rfl
 ·rw[if_neg (show ¬ (trE X G e).kind=0 by show ¬ e.kind=0;omega),if_pos (show(trE X G e).kind=1 from hk),if_neg (by omega),if_pos hk,ZxD (by omega),Int.add_zero]
  rfl
 ·rw[if_neg (show ¬ (trE X G e).kind=0 by show ¬ e.kind=0;omega),if_neg (show ¬ (trE X G e).kind=1 by show ¬ e.kind=1;omega),if_neg (by omega),if_neg (by omega)]
  have hd:=(h.set hk).sh
  have:=hd.shl.atS hd.ini e.off t
  rw[show(trE X G e).set=e.set from rfl,ZhX,show(trE X G e).off=e.off - yE X e from rfl,ZmI hk]
  exact this
theorem ZrP {l:List Zab}{e:Zaf}(he:EvOf l e):behS l e∈l.map fun r=>(r.save,r.letter):=by
 obtain⟨r,hr⟩:=he.at
 unfold behS ruE
 rw[List.getD_eq_getElem?_getD,hr]
 exact List.mem_map.2 ⟨r,List.mem_of_getElem? hr,rfl⟩
theorem Zzy {l:List Zab}(hi:fstD l true 0≠none):iniS l∈l.map fun r=>(r.save,r.letter):=by
 unfold iniS
 cases he:fstD l true 0 with
 | none=>exact absurd he hi
 | some e =>
  dsimp only
  cases ho:fstD l false (ruE l e).save with
  | none=>exact ZrP (ZlY he)
  | some o=>exact ZrP (ZlY ho)
theorem ZBn {l:List Zab}(hi:fstD l true 0≠none)(n:Int):befS l n∈l.map fun r=>(r.save,r.letter):=by
 unfold befS
 cases hb:befD l n with
 | none=>exact Zzy hi
 | some e=>exact ZrP (Zmg hb).1
theorem Zwb {l:List Zab}(hi:fstD l true 0≠none)(off t:Int):∀ (k:Nat) (n:Int),atGo l off t k n∈l.map fun r=>(r.save,r.letter)
 | 0,n=>ZBn hi n
 | k+1,n=>by
  rw[atGo]
  cases hb:befD l n with
  | none=>exact Zzy hi
  | some e =>
   dsimp only
   split
   ·exact ZrP (Zmg hb).1
   ·exact Zwb hi off t k _
theorem E9.stIn {X:ByteArray->Int}{rs:List Zab}{e:DEra}{b:Bool}(h:E9 X rs e b)(t:Int):Zbj rs e t∈ZaE rs e:=by
 unfold Zbj ZaE
 rcases h.kind with hk|hk|hk
 ·rw[if_pos hk,if_neg (by omega),if_neg (by omega)]
  exact List.mem_singleton.2 rfl
 ·rw[if_neg (show ¬ e.kind=0 by omega),if_pos hk,if_pos hk]
  exact List.mem_singleton.2 rfl
 ·rw[if_neg (show ¬ e.kind=0 by omega),if_neg (show ¬ e.kind=1 by omega),if_neg (show ¬ e.kind=1 by omega),if_pos hk,Zfb hk]
  exact Zwb (h.set hk).sh.ini _ _ _ _
theorem E9.dst {X:ByteArray->Int}{rs:List Zab}{e:DEra}{b:Bool}(h:E9 X rs e b)(t:Int):(!decide ((Zbj rs e t).1+yE X e=0))=((!decide ((Zbj rs e t).1=0))!=!decide (yE X e=0)):=by
 rcases h.y with hy|⟨hy,hk⟩
 ·rw[hy,Int.add_zero]
  simp
 ·have hm:=h.stIn t
  unfold ZaE at hm
  rw[if_neg (by omega),if_pos hk,Zfb hk]at hm
  obtain⟨r,hr,he⟩:=List.mem_map.1 hm
  have hx:X e.set=3600:=(ZmI (X:=X) hk).symm.trans hy
  rcases(h.set hk).sh.x with h0|⟨_,hs⟩
  ·omega
  ·have hs:=hs r hr
   have h1:(Zbj rs e t).1=r.save:=(congrArg Prod.fst he).symm
   rw[h1,hy]
   rcases hs with hs|hs <;> rw[hs] <;> rfl
section
variable {X:ByteArray->Int}{rs:List Zab}{e:DEra}{b:Bool}(h:E9 X rs e b){G:DEra->ByteArray}(g:TrOk X G rs e)
include h g
theorem E9.loc (t:Int):ZgP (trE X G e) (Zbj (rs.map (trR X)) (trE X G e) t)=⟨(ZgP e (Zbj rs e t)).off,(ZgP e (Zbj rs e t)).dst !=!decide (yE X e=0),(ZgP e (Zbj rs e t)).abbr⟩:=by
 rw[h.state G t]
 have ha:=g.ab _ (h.stIn t)
 have hd:=h.dst t
 unfold ZgP Ztv
 rw[<- hd]
 dsimp only
 rw[show(trE X G e).off=e.off - yE X e from rfl,show(trE X G e).format=G e from rfl,ha]
 congr 1
 omega
end
theorem E9.trRs {d:DD23}{f:Int}{X:ByteArray->Int}{sh:List ByteArray}{e:DEra}{b:Bool}(h:E9 X (Zai d).rules e b){G:DEra->ByteArray}(he:in23 d f=trS X G sh (Zai d)):RsSm (ruEr (in23 d f).rules (trE X G e)):=by
 rw[he]
 show RsSm (Zaz ((Zai d).rules.map (trR X)) (trE X G e))
 rw[Zep]
 by_cases hk:e.kind=2
 ·rw[Zfb hk,ZmI hk]
  have hd:=(h.set hk).sh
  have hn:(ofB (Zai d).rules e.set).length<=(Zai d).rules.length:=List.length_filter_le _ _
  have:=(Zdp d).nr
  have hx:=hd.x0
  refine⟨by rw[List.length_map];omega,fun r hr=>?_,fun r hr=>?_,fun r hr=>?_⟩
  ·obtain⟨q,hq,rfl⟩:=List.mem_map.1 hr
   have hs:=(hd.set.rule q hq).save
   exact⟨show -1000000000<=q.save+X e.set by omega,show q.save+X e.set<=1000000000 by omega⟩
  ·obtain⟨q,hq,rfl⟩:=List.mem_map.1 hr
   have:=(hd.set.rule q hq).f1
   exact(show q.from_<=4611686018427387904 by omega)
  ·obtain⟨q,hq,rfl⟩:=List.mem_map.1 hr
   have:=(hd.set.rule q hq).ft
   have:=(hd.set.rule q hq).f0
   exact(show -4611686018427387904<=q.to by omega)
 ·rw[ZlI hk]
  exact⟨Nat.zero_le _,(fun r hr=>by cases hr),(fun r hr=>by cases hr),(fun r hr=>by cases hr)⟩
theorem Zug {X:ByteArray->Int}{G:DEra->ByteArray}{rs:List Zab}:∀ (l:List DEra) (st:Int) (i:Nat),(∀ k e,l[k]?=some e->k+1<l.length->endT (trE X G e) (ruEr (rs.map (trR X)) (trE X G e))=endT e (ruEr rs e))->spGo (rs.map (trR X)) (l.map (trE X G)) st i=spGo rs l st i
 | [],_,_,_=>rfl
 | [_],_,_,_=>rfl
 | e::f::l,st,i,h=>by
  have h0:=h 0 e rfl (by simp)
  have ih:=Zug (f::l) (endT e (ruEr rs e)) (i+1) fun k g hg hl=>h (k+1) g hg (by simp only[List.length_cons]at hl ⊢;omega)
  rw[List.map_cons,List.map_cons,spGo,spGo,h0]
  rw[List.map_cons]at ih
  rw[ih]
structure InF (d:DD23)(f:Int)(X:ByteArray->Int)(G:DEra->ByteArray)(sh:List ByteArray):Prop where
 eq:in23 d f=trS X G sh (Zai d)
 ok:ShOk d X
 tr:∀ z∈(Zai d).zones,∀ e∈z.eras,TrOk X G (Zai d).rules e
 mem:∀ n,memB n sh = !decide (X n=0)
theorem Zzl (e:DEra):trE (fun _=>0) DEra.format e=e:=by rw[ZAE]
theorem ZcZ (d:DD23)(f:Int):∃ X G sh,InF d f X G sh:=by
 have tr0:∀ z∈(Zai d).zones,∀ e∈z.eras,TrOk (fun _=>0) (outF (fun _=>0) (Zai d).rules) (Zai d).rules e:=fun z hz e he=>by
  obtain⟨b,hb⟩:=(ShOk.none d).e9 hz he
  exact hb.tr
 have m0:∀ n,memB n ([]:List ByteArray) = !decide ((0:Int)=0):=fun n=>rfl
 by_cases h1:f=1
 ·refine⟨fun _=>0,DEra.format,[],?_,ShOk.none d,fun z hz e he=>?_,m0⟩
  ·unfold in23
   rw[if_pos h1]
   unfold trS
   rw[ZAD]
   have hz:(Zai d).zones.map (Za4 (trE (fun _=>0) DEra.format))=(Zai d).zones:=by
    refine(List.map_congr_left fun z _=>?_).trans (List.map_id _)
    unfold Za4
    rw[(List.map_congr_left fun e _=>Zzl e:z.eras.map (trE (fun _=>0) DEra.format)=z.eras.map id),List.map_id]
    rfl
   rw[hz]
   rfl
  ·obtain⟨b,hb⟩:=(ShOk.none d).e9 hz he
   have q:=hb.tr
   have y0:yE (fun _=>0) e=0:=by unfold yE;split <;> rfl
   refine⟨q.sh,q.clk,q.off,?_,fun x hx=>?_⟩
   ·rw[Zzl,y0,show(Zaz (Zai d).rules e).map (shR 0)=Zaz (Zai d).rules e from(List.map_congr_left fun r _=>ZiR r).trans (List.map_id _)]
    exact ZeD hb.chk
   ·rw[y0,Int.sub_zero,Int.add_zero]
 by_cases h2:f=2
 ·refine⟨fun _=>0,_,[],?_,ShOk.none d,tr0,m0⟩
  unfold in23
  rw[if_neg h1,if_pos h2]
  rfl
 ·obtain⟨s1,s2,s3⟩:=ZiS d
  refine⟨X23 d,outF (X23 d) (Zai d).rules,sh23 d,?_,ShOk.all d,fun z hz e he=>?_,fun n=>?_⟩
  ·unfold in23
   rw[if_neg h1,if_neg h2]
   rfl
  ·obtain⟨b,hb⟩:=(ShOk.all d).e9 hz he
   exact hb.tr
  ·cases hm:memB n (sh23 d) with
   | true=>rw[decide_eq_false (s1 n ((Zdg _ _).1 hm))];rfl
   | false =>
    rw[decide_eq_true]
    ·rfl
    ·exact Decidable.byContradiction fun hh=>by
      rw[(Zdg _ _).2 (ZlH hh)]at hm
      cases hm
section
variable {d:DD23}{f:Int}{X:ByteArray->Int}{G:DEra->ByteArray}{sh:List ByteArray}(h:InF d f X G sh)
include h
theorem InF.zone {i:Nat}{z:ZaO}(hz:(Zai d).zones[i]?=some z):(in23 d f).zones[i]?=some (Za4 (trE X G) z):=by
 rw[h.eq]
 show((Zai d).zones.map _)[i]?=_
 rw[List.getElem?_map,hz]
 rfl
theorem InF.mem_z {z':ZaO}(hz:z'∈(in23 d f).zones):∃ z∈(Zai d).zones,z'=Za4 (trE X G) z:=by
 rw[h.eq]at hz
 obtain⟨z,h1,h2⟩:=List.mem_map.1 (show z'∈(Zai d).zones.map _ from hz)
 exact⟨z,h1,h2.symm⟩
theorem InF.endT {z:ZaO}(hz:z∈(Zai d).zones){k:Nat}{e:DEra}(he:z.eras[k]?=some e)(hk:k+1<z.eras.length):UnOk (trE X G e) (ruEr (in23 d f).rules (trE X G e))/\Go.Wk.endT (trE X G e) (ruEr (in23 d f).rules (trE X G e))=Go.Wk.endT e (ruEr (Zai d).rules e):=by
 obtain⟨Y,hY⟩:=ZbF d z hz
 obtain⟨_,u⟩:=hY.un k e he hk
 have hm:=List.mem_of_getElem? he
 obtain⟨b,hb⟩:=h.ok.e9 hz hm
 have hi:e.til.is=true:=by
  cases hi:e.til.is with
  | true=>rfl
  | false =>
   have:=u.c
   unfold ZaI at this
   split at this
   ·cases this
   ·cases this
 obtain⟨q1,q2,q3⟩:=hb.ends (h.tr z hz e hm) hi
 rw[h.eq]
 refine⟨⟨u.k,?_,u.s,q1.trans u.c,?_⟩,q3⟩
 ·have:=hb.offs
  have:=hb.y
  exact ZgR (show -604799<=e.off - yE X e/\e.off - yE X e<=604799 by omega)
 ·rw[show(trS X G sh (Zai d)).rules=(Zai d).rules.map (trR X) from rfl,q2]
  have:=hb.dr.bf (ZaF e.til (Go.Wk.bsE e (ruEr (Zai d).rules e))).1
  have:=hb.y
  unfold endB
  exact ZgR (by omega)
theorem InF.sp {z:ZaO}(hz:z∈(Zai d).zones):Zm1 (in23 d f).rules (Za4 (trE X G) z).eras=Zm1 (Zai d).rules z.eras:=by
 have hE:=fun k e he hk=>(h.endT hz (k:=k) (e:=e) he hk).2
 rw[h.eq]at hE ⊢
 exact Zug z.eras _ 0 hE
theorem InF.era {z:ZaO}(hz:z∈(Zai d).zones)(t:Int):ZfZ (in23 d f).rules (Za4 (trE X G) z).eras t=ZfZ (Zai d).rules z.eras t:=by
 unfold ZfZ
 rw[h.sp hz]
theorem InF.mn:MnOk (in23 d f):=by
 have hsm:=ZgS d f
 refine⟨Zis d f,fun z' hz k e' he hk=>?_,fun z' hz hn=>?_,fun z' hz=>?_,fun z' hz e' he=>?_,fun z' hz e' he t=>?_⟩
 ·obtain⟨z,hz0,rfl⟩:=h.mem_z hz
  obtain⟨e,he0,rfl⟩:∃ e,z.eras[k]?=some e/\e'=trE X G e:=by
   rw[show(Za4 (trE X G) z).eras=z.eras.map (trE X G) from rfl,List.getElem?_map]at he
   obtain⟨e,h1,h2⟩:=Option.map_eq_some_iff.1 he
   exact⟨e,h1,h2.symm⟩
  have hk0:k+1<z.eras.length:=by
   have:(Za4 (trE X G) z).eras.length=z.eras.length:=List.length_map ..
   omega
  refine⟨?_,(h.endT hz0 he0 hk0).1⟩
  have hm:=List.mem_of_getElem? he0
  obtain⟨b,hb⟩:=h.ok.e9 hz0 hm
  exact hb.trRs h.eq
 ·obtain⟨z,hz0,rfl⟩:=h.mem_z hz
  exact(mn23 d).ne z hz0 (List.map_eq_nil_iff.1 hn)
 ·obtain⟨z,hz0,rfl⟩:=h.mem_z hz
  rw[h.sp hz0]
  exact(mn23 d).sp z hz0
 ·have hs:=(hsm.zs z' hz).2.2 e' he
  obtain⟨z,hz0,rfl⟩:=h.mem_z hz
  obtain⟨e,hm,rfl⟩:=List.mem_map.1 (show e'∈z.eras.map (trE X G) from he)
  obtain⟨b,hb⟩:=h.ok.e9 hz0 hm
  have l:=(mn23 d).lc z hz0 e hm
  have o:=hs.off
  refine⟨l.k,by omega,l.s,fun hk=>?_,by have:=hs.fmt;omega⟩
  have:=hb.trRs (G:=G) h.eq
  rwa[ruEr,if_pos hk]at this
 ·obtain⟨z,hz0,rfl⟩:=h.mem_z hz
  obtain⟨e,hm,rfl⟩:=List.mem_map.1 (show e'∈z.eras.map (trE X G) from he)
  obtain⟨b,hb⟩:=h.ok.e9 hz0 hm
  obtain⟨s1,s2,s3⟩:=(mn23 d).st z hz0 e hm t
  obtain⟨_,v2,_⟩:=hb.dr.state t
  have hy:=hb.y
  have ht:=h.tr z hz0 e hm
  have hst:=hb.state G t
  have ha:=ht.ab _ (hb.stIn t)
  rw[show(in23 d f).rules=(Zai d).rules.map (trR X) from congrArg Zac.rules h.eq,hst]
  refine⟨by dsimp only;omega,s2,?_⟩
  unfold abE at s3 ⊢
  rw[show(trE X G e).off=e.off - yE X e from rfl,show(trE X G e).format=G e from rfl,ha]
  exact s3
theorem InF.loc {z:ZaO}(hz:z∈(Zai d).zones){t:Int}(ht : -9223372036854775808<=t/\t<9223372036854775807):∃ k e,ZfZ (Zai d).rules z.eras t=k/\z.eras[k]?=some e/\∃ y:Zgf,ZpA (Zai d).rules z.eras t=y/\ZpA (in23 d f).rules (Za4 (trE X G) z).eras t=⟨y.off,y.dst !=(decide (e.kind=2)&&memB e.set sh),y.abbr⟩:=by
 obtain⟨r,hr⟩:=(mn23 d).sp z hz
 obtain⟨x,hk,_⟩:=Zo4 hr ((mn23 d).ne z hz) (t:=t) ht.1 ht.2
 obtain⟨e,he,hd⟩:=Zjg (d:=dE0) hk
 refine⟨_,e,rfl,he,_,rfl,?_⟩
 have hm:=List.mem_of_getElem? he
 obtain⟨b,hb⟩:=h.ok.e9 hz hm
 have hl:=hb.loc (h.tr z hz e hm) t
 unfold ZpA
 rw[h.era hz,show(Za4 (trE X G) z).eras=z.eras.map (trE X G) from rfl,ZgT hk,hd,show(in23 d f).rules=(Zai d).rules.map (trR X) from congrArg Zac.rules h.eq,hl]
 congr 2
 unfold yE
 by_cases hk2:e.kind=2
 ·rw[if_pos hk2,decide_eq_true hk2,h.mem,Bool.true_and]
 ·rw[if_neg hk2,decide_eq_false hk2]
  rfl
end
theorem Zjr {f:DEra->DEra}(x:ByteArray):∀ (l:List ZaO) (k:Nat),Zbd x (l.map (Za4 f)) k=Zbd x l k
 | [],_=>rfl
 | z::l,k=>by
  rw[List.map_cons,Zbd,Zbd,Zjr x l]
  rfl
theorem Zjj (X:ByteArray->Int)(G:DEra->ByteArray)(sh:List ByteArray)(s:Zac):∀ (f:Nat) (seen:List ByteArray) (x:ByteArray),ZaW (trS X G sh s) f seen x=ZaW s f seen x
 | 0,_,_=>rfl
 | f+1,seen,x=>by
  rw[ZaW,ZaW,show(trS X G sh s).zones=s.zones.map (Za4 (trE X G)) from rfl,Zjr,show(trS X G sh s).links=s.links from rfl]
  cases Zbd x s.zones 0 with
  | some i=>rfl
  | none =>
   dsimp only
   cases ZbV x s.links 0 with
   | none=>rfl
   | some i =>
    dsimp only
    rw[Zjj X G sh s f]
theorem InF.zoneD {d:DD23}{f:Int}{X:ByteArray->Int}{G:DEra->ByteArray}{sh:List ByteArray}(h:InF d f X G sh)(x:ByteArray):Go.Proofs.YtbjomhdhkpgbaaaGreatDoor.zoneD (in23 d f) x=Go.Proofs.YtbjomhdhkpgbaaaGreatDoor.zoneD (Zai d) x:=by
 unfold Go.Proofs.YtbjomhdhkpgbaaaGreatDoor.zoneD
 rw[Zis,ZfH]
 dsimp only
 rw[h.eq,show(trS X G sh (Zai d)).links=(Zai d).links from rfl,Zjj]
theorem Zgs (d:DD23)(f:Int):(in23 d f).zones.map ZaO.name=(Zai d).zones.map ZaO.name:=by
 obtain⟨X,G,sh,h⟩:=ZcZ d f
 rw[h.eq]
 show((Zai d).zones.map _).map _=_
 rw[List.map_map]
 rfl
theorem ZfL (d:DD23)(f:Int):(in23 d f).links=(Zai d).links:=by
 obtain⟨X,G,sh,h⟩:=ZcZ d f
 rw[h.eq]
 rfl
theorem Zs2 {d:DD23}{f g:Int}{ns ms:List ByteArray}(h1:ZlQ (in23 d f) ns)(h2:ZlQ (in23 d g) ms):ms=ns:=by
 refine ZqT ms ns h2.1 h1.1 fun y=>?_
 rw[h1.2,h2.2,Zgs,Zgs,ZfL,ZfL]
theorem Zs3 (d:DD23)(f g:Int){x:ByteArray}(hx:x∈(in23 d f).zones.map ZaO.name\/x∈(in23 d f).links.map Zbl.name){t:Int}(ht : -9223372036854775808<=t/\t<9223372036854775807) :
  ∃ (i k:Nat) (za zb:ZaO) (e:DEra) (p q:Zgf),zoneD (in23 d f) x=(((i:Nat):Int),0)/\zoneD (in23 d g) x=(((i:Nat):Int),0)/\(in23 d f).zones[i]?=some za/\(in23 d g).zones[i]?=some zb/\(ZaW (in23 d f) ((in23 d f).links.length+1) [] x)=(i,0) /\
   ZfZ (in23 d f).rules za.eras t=k/\ZfZ (in23 d g).rules zb.eras t=k/\za.eras[k]?=some e/\ZpA (in23 d f).rules za.eras t=p/\ZpA (in23 d g).rules zb.eras t=q/\p.off=q.off/\p.abbr=q.abbr/\(p.dst !=q.dst)=oppB e (in23 d f) (in23 d g):=by
 rw[Zgs,ZfL]at hx
 obtain⟨i,z,hzd,hz,hf1,hf2⟩:=nm23 d hx
 obtain⟨X,G,sh,hF⟩:=ZcZ d f
 obtain⟨X2,G2,sh2,hG⟩:=ZcZ d g
 have hzm:=List.mem_of_getElem? hz
 obtain⟨k,e,hk,he,y,hy,hl⟩:=hF.loc hzm ht
 obtain⟨k2,e2,hk2,he2,y2,hy2,hl2⟩:=hG.loc hzm ht
 obtain rfl:k2=k:=hk2.symm.trans hk
 obtain rfl:e2=e:=Option.some.inj (he2.symm.trans he)
 obtain rfl:y2=y:=hy2.symm.trans hy
 refine⟨i,k2,_,_,trE X G e2,_,_,(hF.zoneD x).trans hzd,(hG.zoneD x).trans hzd,hF.zone hz,hG.zone hz,?_,(hF.era hzm t).trans hk,(hG.era hzm t).trans hk,?_,hl,hl2,rfl,rfl,?_⟩
 ·rw[hF.eq,show(trS X G sh (Zai d)).links=(Zai d).links from rfl,Zjj,<- hf1,<- hf2]
 ·show(z.eras.map (trE X G))[k2]?=_
  rw[List.getElem?_map,he]
  rfl
 ·unfold oppB
  rw[hF.eq,hG.eq]
  show((y2.dst !=(decide (e2.kind=2)&&memB e2.set sh))!=(y2.dst !=(decide (e2.kind=2)&&memB e2.set sh2)))=(decide (e2.kind=2)&&(memB e2.set sh !=memB e2.set sh2))
  cases y2.dst <;> cases decide (e2.kind=2) <;> cases memB e2.set sh <;> cases memB e2.set sh2 <;> rfl
theorem ZyF (d:DD23)(f g:Int):(in23 d f).rules.length=(in23 d g).rules.length/\(in23 d f).zones.length=(in23 d g).zones.length/\(in23 d f).links=(in23 d g).links:=by
 obtain⟨X,G,sh,hF⟩:=ZcZ d f
 obtain⟨X2,G2,sh2,hG⟩:=ZcZ d g
 rw[hF.eq,hG.eq]
 unfold trS
 dsimp only
 rw[List.length_map,List.length_map,List.length_map,List.length_map]
 exact⟨rfl,rfl,rfl⟩
end Go.Proofs.YtbjomhdhkpgbaaaGreatDoor
set_option maxHeartbeats 8000000
namespace Go.Wk
open Go Go.RowKit
theorem Zza {P:Program}{n:Nat}{wr:World}{fr:Fr}{O:List It}{ty t t':TypeId}{x y:Operand}{i j b:Bool}[hT:BoolT P t](hx:ev fr x=some (.bool i))(hy:ev fr y=some (.bool j))(h:(!(i==j))=b) :
  Pu P n wr fr O (.binOp .neq t x y t') ty (.bool b):=h▸Pu_neqB hx hy
end Go.Wk
namespace Go.Proofs.YtbjomhdhkpgbaaaGreatDoor
open Go Go.RowKit Go.Wk
attribute [local irreducible] W RL Does Zar Zal retQ Calls Pu Stp RD Qy Ay Zak RW Zai in23
theorem ZAx {Zs:List ZE}{zs:List ZaO}(h:Zs.map ZE.z=zs){j:Nat}{z:ZaO}(hg:zs[j]?=some z):∃ q,Zs[j]?=some q/\q.z=z:=by
 subst h
 rw[List.getElem?_map]at hg
 exact Option.map_eq_some_iff.1 hg
theorem ZwU {G:Prop}(h:G:=by(first|(apply Pu_remE;rfl;rfl;omega;decide)|(apply Zr7;rfl;first|exact hcv|exact hct)|(apply ZaH;rfl;rfl;first|exact e0|exact e1|exact e5)|(apply ZaA;rfl;rfl;exact e2)|(apply ZeN;rfl;rfl;exact e6)|(apply Za2;rfl;rfl;first|exact e3|exact e4)|(apply ZcJ;rfl;rfl;first|exact g1|exact g2))):G:=h
theorem ZwT {G:Prop}(h:G:=by(first|(apply Zj5;rfl;rfl;exact hkm)|(apply Pu_sliceHE;rfl;rfl;omega;omega;rfl))):G:=h
theorem Zqv {G:Prop}(h:G:=by(first|(apply ZaB;rfl;rfl;omega;omega;(intro w' _ hO;exact Zca (hO.of (A:=rowS An cn ms) (by repeat' constructor)) (by omega)))|(apply ZdU;rfl;(focus repeat' constructor);exact hx1)|(apply ZaH;rfl;rfl;first|exact e0|exact e1|exact e5)|(apply ZaA;rfl;rfl;exact e2)|(apply ZeN;rfl;rfl;exact e6)|(apply Za2;rfl;rfl;first|exact e3|exact e4)|(apply ZcJ;rfl;rfl;first|exact g1|exact g2)|(apply ZaB;rfl;rfl;omega;omega;(intro w' _ hO;exact Zca (hO.of (A:=rowZ Za za Qa) (by repeat' constructor)) (by omega)))|(apply Zek;rfl;(focus repeat' constructor);exact hgz)|(apply Zza;rfl;rfl;first|exact hds|exact e7)|(apply ZaB;rfl;rfl;omega;omega;(intro w' _ hO;exact(((Za6 (S:=Fa) (p:=ZaN Qa) (hO.of (by repeat' constructor))) q hqm).rd j _ hek).1))|(apply ZfU (cs:=e.enc);rfl;rfl;(intro w' _ hO;exact(((Za6 (S:=Fa) (p:=ZaN Qa) (hO.of (by repeat' constructor))) q hqm).rd j _ hek).2)))):G:=h
theorem Zws {G:Prop}(h:G:=by first|(apply Qy_y;rfl;exact Zqv)|exact QyA):G:=h
theorem ZwD {G:Prop}(h:G:=by repeat (first|exact QF.nil|(apply QF.mk;rfl;rfl;decide +kernel;exact Zws))):G:=h
set_option maxRecDepth 20000 in
theorem Zgk (As Az Al:Option Addr)(cs cz cl:Nat)(d:DD23)(f s n:Int)(w:World)(hL:LibW w)(hG:Glob w)(hM:MeG w)(hS:RdLL w As cs Zei 1 d.sets)(hZ:RdLL w Az cz E23.enc 8 d.zones)(hD:RdSl w Al cl Zei 1 d.links)(hrs:∀ l∈d.sets,∀ x∈l,inR .u8 x)(hrz:∀ l∈d.zones,∀ x∈l,x.ok)(hrl:∀ x∈d.links,inR .u8 x)(hf:inR .u8 f)(hs:inR .u8 s)(hn:inR .u64 n) :
  Does Tryz.prog 7 [d23V As Az Al cs cz cl d,.int .u8 f,.int .u8 s,.int .u64 n] w (fun v O=>v = .bool true/\O=[]):=by
 have hwk:=fun w' (hw:Bel w.heap.size w w')=>ZmJ w' (hL.up hw) (hG.up hw)
 have hin:=fun w' (hw:Bel w.heap.size w w')=>Zvq As Az Al cs cz cl d f w' (hL.up hw) (hG.up hw) (hS.up hw) (hZ.up hw) (hD.up hw) hrs hrz hrl hf
 rw[Zjf]at hs
 have hn0:0<=n/\n<=18446744073709551615:=hn
 have hform:1+s % 3=1\/1+s % 3=2\/1+s % 3=3:=by omega
 have hto:=fun R Z L H r z l h w' (hw:Bel w.heap.size w w')=>toIn R Z L H r z l h d (1+f % 3) (1+s % 3) w' (hL.up hw) (hG.up hw) hform
 have hcv:IntKind.i64.wrap (s % 3)=s % 3:=ZbS (by omega)
 have hct:IntKind.i64.wrap (n % 6469175160)=n % 6469175160:=ZbS (by omega)
 have hln:=ZyF d (1+f % 3) (1+s % 3)
 have h12:(in23 d (1+f % 3)).zones.length+(in23 d (1+f % 3)).links.length<=12:=by
  have h1:=ZCn d
  rw[Zhz,ZfL]
  exact h1
 have h12b:(in23 d (1+s % 3)).zones.length+(in23 d (1+s % 3)).links.length<=12:=by
  rw[<- hln.2.1,<- hln.2.2]
  exact h12
 have hnz:1<=(in23 d (1+f % 3)).zones.length:=by
  rw[Zhz]
  exact Zi6 d
 have hsma:=ZgS d (1+f % 3)
 have hsmb:=ZgS d (1+s % 3)
 have hnm:=fun{ns ms}=>Zs2 (d:=d) (f:=1+f % 3) (g:=1+s % 3) (ns:=ns) (ms:=ms)
 have hmn:=fun{x} hx {t} ht=>Zs3 d (1+f % 3) (1+s % 3) (x:=x) hx (t:=t) ht
 have hma:MnOk (in23 d (1+f % 3)):=by
  obtain⟨X,G,sh,hF⟩:=ZcZ d (1+f % 3)
  exact hF.mn
 have hmb:MnOk (in23 d (1+s % 3)):=by
  obtain⟨X,G,sh,hF⟩:=ZcZ d (1+s % 3)
  exact hF.mn
 unfold ZC5 at hin
 unfold ToS at hto
 simp only[plV,Zas.enc]at hto
 generalize in23 d (1+f % 3)=a at *
 generalize in23 d (1+s % 3)=b at *
 have e0:(!decide ((0:Int)=0))=false:=rfl
 have heqs:=fun A B ca cb (ns:List ByteArray) w' (h1:RdSl w' A ca Zav 1 ns) (h2:RdSl w' B cb Zav 1 ns)=>Zgu A B ca cb ns ns w' h1 h2
 simp only[decide_eq_true]at heqs
 refine Zaa Tryz.func7 rfl rfl rfl rfl ?_
 repeat (first|refine und ?_|(apply RL_pu;rfl;exact ZwU)|(apply RD_Q;rfl;rfl;decide +kernel;rfl;rfl;exact QyTrMe0)|refine walk1 ?_|(refine jg ?_;(try intro F);(first|(apply Zad (h:=fun w' hw _=>hin w' hw);rfl;rintro v O' ⟨u,rfl,Ra,ra,Za,za,La,la,Ha,ha,Qa,Fa,rfl,hZa,rfl⟩)|(apply Zad (h:=fun w' hw hO=>hto Ra Za La Ha ra za la ha w' hw (Zbt hZa (hO.of (A:=rowR Ra ra a.rules) (by repeat' constructor)) (hO.of (A:=rowZ Za za Qa) (by repeat' constructor)) (hO.of (A:=rowL La la a.links) (by repeat' constructor)) (hO.of (A:=rowS Ha ha a.shifts) (by repeat' constructor)) (hO.of (A := .fact Fa (ZaN Qa)) (by repeat' constructor))));rfl;rintro v O' ⟨u,rfl,Rb,rb,Zb,zb,Lb,lb,Hb,hb,Qb,Fb,rfl,hZb,rfl⟩)|(apply Zad (h:=fun w' hw hO=>Zf5 Ra Za La Ha ra za la ha a w' (Zbt hZa (hO.of (A:=rowR Ra ra a.rules) (by repeat' constructor)) (hO.of (A:=rowZ Za za Qa) (by repeat' constructor)) (hO.of (A:=rowL La la a.links) (by repeat' constructor)) (hO.of (A:=rowS Ha ha a.shifts) (by repeat' constructor)) (hO.of (A := .fact Fa (ZaN Qa)) (by repeat' constructor))) h12);rfl;rintro v O' ⟨An,cn,ns,hns,rfl,rfl⟩)|(refine bx ?_;intro bk)|(refine stA ?_));first|refine⟨_,EndsA,QFTrMe0,?_⟩|refine fin ?_)|(refine jn ?_;(try intro F);(first|(refine bx ?_;intro bk)|(refine stA ?_)|(apply Zag;first|exact ZwU|exact PuA));first|refine⟨_,EndsA,QFTrMe0,?_⟩|refine fin ?_)|(apply RD_W;rfl;intro bk))
 have hnl:0<ns.length:=by
  obtain⟨z,hz⟩:∃ z,a.zones[0]?=some z:=⟨_,List.getElem?_eq_getElem (by omega)⟩
  exact List.length_pos_of_mem ((hns.2 z.name).2 (.inl (List.mem_map.2 ⟨z,List.mem_of_getElem? hz,rfl⟩)))
 have e2:decide ((ns.length:Int)=0)=false:=decide_eq_false (by omega)
 rw[e2]
 repeat (first|refine und ?_|refine walk ?_|(refine jg ?_;(try intro F);(first|(apply Zad (h:=fun w' hw hO=>Zf5 Rb Zb Lb Hb rb zb lb hb b w' (Zbt hZb (hO.of (A:=rowR Rb rb b.rules) (by repeat' constructor)) (hO.of (A:=rowZ Zb zb Qb) (by repeat' constructor)) (hO.of (A:=rowL Lb lb b.links) (by repeat' constructor)) (hO.of (A:=rowS Hb hb b.shifts) (by repeat' constructor)) (hO.of (A := .fact Fb (ZaN Qb)) (by repeat' constructor))) h12b);rfl;rintro v O' ⟨Am,cm,ms,hms,rfl,rfl⟩)|(refine bx ?_;intro bk)|(refine stA ?_));refine fin ?_)|(refine jn ?_;(try intro F);(first|(refine bx ?_;intro bk)|(refine stA ?_)|(apply Zag;exact PuA));refine fin ?_)|(apply RD_W;rfl;intro bk))
 obtain rfl:ms=ns:=hnm hns hms
 repeat (first|refine und ?_|refine walk ?_|(refine jg ?_;(try intro F);(first|(refine ZaX (fun w' _ hO=>heqs An Am cn cm ms w' (Zbc Zav.len (hO.of (A:=rowS An cn ms) (by repeat' constructor))) (Zbc Zav.len (hO.of (A:=rowS Am cm ms) (by repeat' constructor)))) ?_)|(refine bx ?_;intro bk)|(refine stA ?_));refine fin ?_)|(refine jn ?_;(try intro F);(first|(refine bx ?_;intro bk)|(refine stA ?_)|(apply Zag;exact PuA));refine fin ?_)|(apply RD_W;rfl;intro bk))
 rw[Zjf]at hf
 have htb : -2366771400<=n % 6469175160 - 2366771400/\n % 6469175160 - 2366771400<=4102403760:=by omega
 generalize n % 6469175160 - 2366771400=t at *
 obtain⟨km,hkm,hkm2,hkm3⟩:∃ km:Nat,(if (3:Int)<(ms.length:Int) then 3 else (ms.length:Int))=(km:Nat)/\km<=ms.length/\km<=3:=⟨min ms.length 3,by split <;> omega,by omega,by omega⟩
 refine ZBG (φ:=ms.length<=cn) (fun w' _ hH=>(Zbc Zav.len (hH.sat (rowS An cn ms) (by repeat' constructor))).le) (fun hcap=>?_)
 repeat (first|refine und ?_|(apply RL_pu;rfl;exact ZwT)|(apply RD_Q;rfl;rfl;decide +kernel;rfl;rfl;exact QyTrMe1)|refine walk1 ?_|(refine jn ?_;(try intro F);(first|(refine bx ?_;intro bk)|(refine stA ?_)|(apply Zag;first|exact ZwT|exact PuA));first|refine⟨_,EndsA,QFTrMe1,?_⟩|refine fin ?_)|(apply RD_W;rfl;intro bk))
 generalize bk=b12
 rename_i b4 b9 b11
 have hQa:a.zones.length=Qa.length:=by rw[<- hZa,List.length_map]
 have hnza:=hsma.nz
 have hnzb:=hsmb.nz
 have hnla:=hsma.nl
 have hnlb:=hsmb.nl
 have htk:tOk t=true:=ZlB.2 (by omega)
 refine Zaq [(9,.pointer (some ⟨b9,0,none⟩)),(11,.pointer (some ⟨b11,0,none⟩)),(14,.int .i64 t),(66,.slice An km cn),(67,.int .i64 km)] [.blk b9 [.slice Ra a.rules.length ra,.slice Za a.zones.length za,.slice La a.links.length la,.slice Ha a.shifts.length ha] 32,.blk b11 [.slice Rb b.rules.length rb,.slice Zb b.zones.length zb,.slice Lb b.links.length lb,.slice Hb b.shifts.length hb] 32,rowS An cn ms,rowR Ra ra a.rules,rowZ Za za Qa,rowL La la a.links,rowS Ha ha a.shifts,.fact Fa (ZaN Qa),rowR Rb rb b.rules,rowZ Zb zb Qb,rowL Lb lb b.links,rowS Hb hb b.shifts,.fact Fb (ZaN Qb)] (fun k:Nat=>[(68,.int .i64 k)]) (fun _=>[]) (fun k=>k<=km) (fun k=>km - k) 0 SFA SOA (Nat.zero_le _) ?_
 intro k hk
 repeat (first|refine walk ?_|(refine jn ?_;(try intro F);(first|(refine bx ?_;intro bk)|(refine stA ?_)|(apply Zag;exact PuA));refine fin ?_)|(apply RD_W;rfl;intro bk))
 refine Zah rfl (fun hc=>?_) (fun hc=>?_)
 ·have hkl:k<km:=by
   have:=of_decide_eq_true hc
   omega
  obtain⟨x,hx⟩:∃ x,ms[k]?=some x:=⟨_,List.getElem?_eq_getElem (by omega)⟩
  have hx1:(ms.flatMap Zav)[(k:Int).toNat*1]?=some (.string x):=ZaK Zav.len ms k _ 0 _ hx rfl
  obtain⟨i,j,zA,zB,e,p,q',hza,hzb,hia,hib,hfo,hja,hjb,hek,hlp,hlq,hoff,hab,hds⟩:=hmn ((hns.2 x).1 (List.mem_of_getElem? hx)) (t:=t) ⟨by omega,by omega⟩
  obtain⟨q,hq,hqe⟩:=ZAx hZa hia
  subst hqe
  have hqm:=List.mem_of_getElem? hq
  have hil:i<Qa.length:=(List.getElem?_eq_some_iff.1 hq).1
  have hjl:j<q.z.eras.length:=(List.getElem?_eq_some_iff.1 hek).1
  have hgz:(Qa.flatMap ZE.enc)[(i:Int).toNat*2+1]?=some (.slice q.A q.z.eras.length q.c):=ZaK ZE.len Qa i q 1 _ hq rfl
  have hfn:=fun w' (hA:Zan w' Ra Za La Ha ra za la ha a)=>ZkV Ra Za La Ha ra za la ha a x w' hA (by omega)
  have hea:=fun w' (hw:Bel w.heap.size w w') (hA:Zan w' Ra Za La Ha ra za la ha a)=>mEra Ra Za La Ha ra za la ha a x t w' (hsma.acc (hL.up hw) (hG.up hw) hA) (by omega) hma htk hza hia
  have heb:=fun w' (hw:Bel w.heap.size w w') (hA:Zan w' Rb Zb Lb Hb rb zb lb hb b)=>mEra Rb Zb Lb Hb rb zb lb hb b x t w' (hsmb.acc (hL.up hw) (hG.up hw) hA) (by omega) hmb htk hzb hib
  have haa:=fun w' (hw:Bel w.heap.size w w') (hA:Zan w' Ra Za La Ha ra za la ha a)=>mAt Ra Za La Ha ra za la ha a x t w' (hsma.acc (hL.up hw) (hG.up hw) hA) (hM.up hw) (by omega) hma htk hza hia
  have hab':=fun w' (hw:Bel w.heap.size w w') (hA:Zan w' Rb Zb Lb Hb rb zb lb hb b)=>mAt Rb Zb Lb Hb rb zb lb hb b x t w' (hsmb.acc (hL.up hw) (hG.up hw) hA) (hM.up hw) (by omega) hmb htk hzb hib
  have hop:=fun w' (hA:Zan w' Ra Za La Ha ra za la ha a) (hB:Zan w' Rb Zb Lb Hb rb zb lb hb b)=>ZlN e Ra Za La Ha ra za la ha a Rb Zb Lb Hb rb zb lb hb b w' hA hB
  rw[hfo]at hfn
  rw[hja]at hea
  rw[hjb]at heb
  rw[hlp]at haa
  rw[hlq]at hab'
  obtain⟨o1,d1,ab1⟩:=p
  obtain⟨o2,d2,ab2⟩:=q'
  dsimp only at hoff hab hds
  subst hoff hab
  have hds:(!(d1==d2))=oppB e a b:=hds
  generalize oppB e a b=ob at hop hds
  simp only[Zgf.enc]at haa hab'
  unfold srcV at hfn hea heb haa hab' hop
  have e1:(!decide ((j:Int)=(j:Int)))=false:=by rw[decide_eq_true rfl];rfl
  have e5:(!decide (o1=o1))=false:=by rw[decide_eq_true rfl];rfl
  have e6:(!decide (ab1=ab1))=false:=by rw[decide_eq_true rfl];rfl
  have e7:(!(ob==ob))=false:=by cases ob <;> rfl
  have e3:decide ((i:Int)<0)=false:=decide_eq_false (by omega)
  have e4:decide ((j:Int)<0)=false:=decide_eq_false (by omega)
  have g1:decide ((a.zones.length:Int)<=(i:Int))=false:=decide_eq_false (by omega)
  have g2:decide ((q.z.eras.length:Int)<=(j:Int))=false:=decide_eq_false (by omega)
  clear hlp hlq hza hzb hia hib hfo hja hjb hx
  repeat (first|refine und ?_|(apply RL_pu;rfl;exact Zqv)|(apply RD_Q;rfl;rfl;decide +kernel;rfl;rfl;exact Zws)|refine walk1 ?_|(refine jg ?_;(try intro F);(first|(refine ZaX (fun w' hw hO=>hfn w' (Zbt hZa (hO.of (A:=rowR Ra ra a.rules) (by repeat' constructor)) (hO.of (A:=rowZ Za za Qa) (by repeat' constructor)) (hO.of (A:=rowL La la a.links) (by repeat' constructor)) (hO.of (A:=rowS Ha ha a.shifts) (by repeat' constructor)) (hO.of (A := .fact Fa (ZaN Qa)) (by repeat' constructor)))) ?_)|(refine ZaX (fun w' hw hO=>hea w' hw (Zbt hZa (hO.of (A:=rowR Ra ra a.rules) (by repeat' constructor)) (hO.of (A:=rowZ Za za Qa) (by repeat' constructor)) (hO.of (A:=rowL La la a.links) (by repeat' constructor)) (hO.of (A:=rowS Ha ha a.shifts) (by repeat' constructor)) (hO.of (A := .fact Fa (ZaN Qa)) (by repeat' constructor)))) ?_)|(refine ZaX (fun w' hw hO=>heb w' hw (Zbt hZb (hO.of (A:=rowR Rb rb b.rules) (by repeat' constructor)) (hO.of (A:=rowZ Zb zb Qb) (by repeat' constructor)) (hO.of (A:=rowL Lb lb b.links) (by repeat' constructor)) (hO.of (A:=rowS Hb hb b.shifts) (by repeat' constructor)) (hO.of (A := .fact Fb (ZaN Qb)) (by repeat' constructor)))) ?_)|(refine ZaX (fun w' hw hO=>haa w' hw (Zbt hZa (hO.of (A:=rowR Ra ra a.rules) (by repeat' constructor)) (hO.of (A:=rowZ Za za Qa) (by repeat' constructor)) (hO.of (A:=rowL La la a.links) (by repeat' constructor)) (hO.of (A:=rowS Ha ha a.shifts) (by repeat' constructor)) (hO.of (A := .fact Fa (ZaN Qa)) (by repeat' constructor)))) ?_)|(refine ZaX (fun w' hw hO=>hab' w' hw (Zbt hZb (hO.of (A:=rowR Rb rb b.rules) (by repeat' constructor)) (hO.of (A:=rowZ Zb zb Qb) (by repeat' constructor)) (hO.of (A:=rowL Lb lb b.links) (by repeat' constructor)) (hO.of (A:=rowS Hb hb b.shifts) (by repeat' constructor)) (hO.of (A := .fact Fb (ZaN Qb)) (by repeat' constructor)))) ?_)|(refine ZaX (fun w' hw hO=>hop w' (Zbt hZa (hO.of (A:=rowR Ra ra a.rules) (by repeat' constructor)) (hO.of (A:=rowZ Za za Qa) (by repeat' constructor)) (hO.of (A:=rowL La la a.links) (by repeat' constructor)) (hO.of (A:=rowS Ha ha a.shifts) (by repeat' constructor)) (hO.of (A := .fact Fa (ZaN Qa)) (by repeat' constructor))) (Zbt hZb (hO.of (A:=rowR Rb rb b.rules) (by repeat' constructor)) (hO.of (A:=rowZ Zb zb Qb) (by repeat' constructor)) (hO.of (A:=rowL Lb lb b.links) (by repeat' constructor)) (hO.of (A:=rowS Hb hb b.shifts) (by repeat' constructor)) (hO.of (A := .fact Fb (ZaN Qb)) (by repeat' constructor)))) ?_)|(refine bx ?_;intro bk)|(refine stA ?_));first|refine⟨_,EndsA,ZwD,?_⟩|refine fin ?_)|(refine jn ?_;(try intro F);(first|(refine bx ?_;intro bk)|(refine stA ?_)|(apply Zag;first|exact Zqv|exact PuA));first|refine⟨_,EndsA,ZwD,?_⟩|refine fin ?_)|(apply RD_W;rfl;intro bk))
  exact⟨k+1,by omega,hkl,SFA,SOA⟩
 clear hc hk
 repeat (first|refine und ?_|refine walk ?_|(refine jg ?_;(try intro F);(first|(refine Zae hwk ?_)|(refine bx ?_;intro bk)|(refine stA ?_));refine fin ?_)|(refine jn ?_;(try intro F);(first|(refine bx ?_;intro bk)|(refine stA ?_)|(apply Zag;exact PuA));refine fin ?_)|(apply RD_W;rfl;intro bk))
 exact rtA
end Go.Proofs.YtbjomhdhkpgbaaaGreatDoor
namespace Go.Proofs.YtbjomhdhkpgbaaaGreatDoor
open Go Go.RowKit Go.Wk Go.ChangeShapes Go.WideShapes Go.ChangeAt
section
variable {H:Type}{enc:TypeId × Value->H}{w:World}{sp:Nat->Bool}{held:Bool}
theorem ZuQ {n:Nat}{cs:List Value}{y:DataW H × List MemPlace}(h:DataW.trod enc Tryz.prog w 0 sp held n 5 cs=some y):∃ d:Int,cs=Zei d/\inR .u8 d:=by
 obtain⟨x,e,_,b⟩:=DataW.trod_int Tryz.underlying5 h
 exact⟨x,e,Zf8 b⟩
def Zop {α:Type}(w:World)(en:α->List Value)(sz:Nat)(ok:α->Prop)(l:List α)(cs:List Value):Prop:=∃ B cb,RdSl w B cb en sz l/\cs=[.slice B l.length cb]/\∀ x∈l,ok x
theorem ZAZ {n:Nat}{cs:List Value}{y:DataW H × List MemPlace}(h:DataW.trod enc Tryz.prog w 0 sp held n 83 cs=some y):∃ l,Zop w Zei 1 (inR .u8) l cs:=by
 obtain⟨v,rfl⟩:∃ v,cs=[v]:=by
  rcases Deep.open_slice Tryz.underlying83 h with⟨h0,_⟩|⟨a,len,cap,m,n,D,Pl,hcs,_⟩
  ·exact⟨_,h0⟩
  ·exact⟨_,hcs⟩
 obtain⟨B,l,cb,rfl,h1,h2⟩:=ZlF Tryz.underlying83 Zei (inR .u8) (sz:=1) (by kernel_rfl) (fun n cs y h=>ZuQ h) h
 exact⟨l,B,cb,h1,rfl,h2⟩
theorem Zye {n:Nat}{cs:List Value}{y:DataW H × List MemPlace}(h:DataW.trod enc Tryz.prog w 0 sp held n 86 cs=some y):∃ l,Zop w E23.enc 8 E23.ok l cs:=by
 obtain⟨v,rfl⟩:∃ v,cs=[v]:=by
  rcases Deep.open_slice Tryz.underlying86 h with⟨h0,_⟩|⟨a,len,cap,m,n,D,Pl,hcs,_⟩
  ·exact⟨_,h0⟩
  ·exact⟨_,hcs⟩
 obtain⟨B,l,cb,rfl,h1,h2⟩:=ZlF Tryz.underlying86 E23.enc E23.ok (sz:=8) (by kernel_rfl) (fun n cs y h=>ZCd h) h
 exact⟨l,B,cb,h1,rfl,h2⟩
theorem ZuB {α:Type}{en:α->List Value}{sz:Nat}{ok:α->Prop}{A:Option Addr}{ls:List (List α)}{c:Nat}(s1:ls.length<=c)(s2:c<=maxLen)(s3:∀ k l,ls[k]?=some l->A≠none/\∃ cs,Zop w en sz ok l cs/\Zam w ((adr A).add (k*1)) cs) :
  RdLL w A c en sz ls/\∀ l∈ls,∀ x∈l,ok x:=by
 refine⟨⟨s1,s2,fun k l hk=>?_⟩,fun l hl=>?_⟩
 ·obtain⟨h4,cs',⟨B,cb,h5,rfl,_⟩,h6⟩:=s3 k l hk
  exact⟨h4,B,cb,h5,h6⟩
 ·obtain⟨k,hk⟩:=List.getElem?_of_mem hl
  obtain⟨_,_,⟨_,_,_,_,h5⟩,_⟩:=s3 k l hk
  exact h5
set_option maxRecDepth 100000 in
theorem Zya {v:Value}{r:Reach}{b0:Nat}{d:DataW H}{ps:List MemPlace}(hv:Value.okWide Tryz.prog w r b0 26 v)(h:DataW.Trod enc Tryz.prog w 0 sp held 26 v d ps) :
  ∃ As Az Al cs cz cl d,v=d23V As Az Al cs cz cl d/\RdLL w As cs Zei 1 d.sets/\RdLL w Az cz E23.enc 8 d.zones/\RdSl w Al cl Zei 1 d.links/\(∀ l∈d.sets,∀ x∈l,inR .u8 x)/\(∀ l∈d.zones,∀ x∈l,x.ok)/\(∀ x∈d.links,inR .u8 x):=by
 obtain⟨vs,rfl,hsz⟩:=okWide_struct Tryz.underlying26 hv
 obtain⟨fuel,h⟩:=h
 obtain⟨hl,hf⟩:=Zrv Tryz.underlying26 h
 rw[show Tryz.prog.cellsOf 26=3 from by kernel_rfl]at hl
 obtain⟨vs⟩:=vs
 simp only[Value.cells]at hl hf
 obtain⟨a0,cs0,rfl,hl0⟩:=ZbN hl
 obtain⟨a1,cs1,rfl,hl1⟩:=ZbN hl0
 obtain⟨a2,cs2,rfl,hl2⟩:=ZbN hl1
 obtain rfl:=List.eq_nil_of_length_eq_zero hl2
 obtain⟨n0,y0,h0⟩:=hf 0 22 0 1 rfl (by kernel_rfl)
 obtain⟨n1,y1,h1⟩:=hf 1 23 1 1 rfl (by kernel_rfl)
 obtain⟨n2,y2,h2⟩:=hf 2 24 2 1 rfl (by kernel_rfl)
 obtain⟨As,ls,cs,rfl,s1,s2,s3⟩:=ZlG Tryz.underlying22 (fun(l:List Int) cs=>Zop w Zei 1 (inR .u8) l cs) (fun n cs y h=>ZAZ h) h0
 obtain⟨Az,lz,cz,rfl,z1,z2,z3⟩:=ZlG Tryz.underlying23 (fun(l:List E23) cs=>Zop w E23.enc 8 E23.ok l cs) (fun n cs y h=>Zye h) h1
 obtain⟨Al,ll,cl,rfl,l1,l2⟩:=ZlF Tryz.underlying24 Zei (inR .u8) (sz:=1) (by kernel_rfl) (fun n cs y h=>ZuQ h) h2
 rw[show Tryz.prog.cellsOf 83=1 from by kernel_rfl]at s3
 rw[show Tryz.prog.cellsOf 86=1 from by kernel_rfl]at z3
 obtain⟨g1,g2⟩:=ZuB s1 s2 s3
 obtain⟨g3,g4⟩:=ZuB z1 z2 z3
 exact⟨As,Az,Al,cs,cz,cl,⟨ls,lz,ll⟩,rfl,g1,g3,l1,g2,g4,l2⟩
set_option maxRecDepth 100000 in
theorem ZCl {v:Value}{r:Reach}{b0:Nat}{d:DataW H}{ps:List MemPlace}(hv:Value.okWide Tryz.prog w r b0 5 v)(h:DataW.Trod enc Tryz.prog w 0 sp held 5 v d ps):∃ x:Int,v = .int .u8 x/\inR .u8 x:=by
 obtain⟨n,rfl⟩:=okWide_int Tryz.underlying5 hv
 obtain⟨fuel,h⟩:=h
 obtain⟨x,e,b⟩:=ZuQ h
 simp only[Value.cells,Zei,List.cons.injEq,and_true]at e
 exact⟨x,e,b⟩
end
end Go.Proofs.YtbjomhdhkpgbaaaGreatDoor
