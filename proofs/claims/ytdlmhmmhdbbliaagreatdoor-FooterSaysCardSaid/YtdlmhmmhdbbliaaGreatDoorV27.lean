/- Parts of the proof. -/
import Derived.Test.YtdlmhmmhdbbliaaGreatDoorV09
import Derived.Test.YtdlmhmmhdbbliaaGreatDoorV21
set_option maxHeartbeats 4000000
set_option linter.unusedVariables false
set_option linter.unusedSimpArgs false
namespace Go.Wk
open Go Go.RowKit
section
variable {κ:Type}
def cent (kv:κ->Value):Nat->List (κ × Int)->List MapEntry
 | _,[]=>[]
 | i,x::l=>⟨kv x.1,.int .i64 x.2,i⟩::cent kv (i+1) l
def Zhw (l:List (κ × Int))(t:Nat):Prop:=∀ x∈l,1<=x.2/\x.2<=(t:Int)
theorem Zhw.nil (t:Nat):Zhw ([]:List (κ × Int)) t:=fun _ h=>by cases h
theorem Zqn (kv:κ->Value):∀ (i:Nat) (l:List (κ × Int)),(cent kv i l).length=l.length
 | _,[]=>rfl
 | i,x::l=>by unfold cent;rw[List.length_cons,List.length_cons,Zqn kv (i+1) l]
theorem Zqp (kv:κ->Value):∀ (i:Nat) (a b:List (κ × Int)),cent kv i (a++b)=cent kv i a++cent kv (i+a.length) b
 | _,[],_=>rfl
 | i,x::a,b=>by
  rw[List.cons_append]
  unfold cent
  rw[Zqp kv (i+1) a b,List.cons_append,List.length_cons,show i+1+a.length=i+(a.length+1) by omega]
  cases b <;> rfl
theorem Zqo (kv:κ->Value):∀ (i:Nat) (l:List (κ × Int)) (s:Nat),s<l.length->(cent kv i l).findIdx? (fun e=>(e.born:Int)==((i+s:Nat):Int))=some s
 | _,[],_,h=>by simp at h
 | i,x::l,0,_=>by unfold cent;rw[List.findIdx?_cons];simp
 | i,x::l,s+1,h=>by
  unfold cent
  rw[List.findIdx?_cons]
  have hne:((i:Int)==((i+(s+1):Nat):Int))=false:=by simp;omega
  dsimp only
  rw[hne]
  have:=Zqo kv (i+1) l s (by simpa using h)
  rw[show i+1+s=i+(s+1) by omega]at this
  rw[this]
  rfl
def cmIt (kv:κ->Value)(b:Nat)(l:List (κ × Int)):It := .fact (fun i=>i=b) fun w=>w.heap[b]?=some (.map (cent kv 0 l).toArray l.length)
theorem cmIt.heap {kv:κ->Value}{b:Nat}{l:List (κ × Int)}{w:World}(h:(cmIt kv b l).sat w):w.heap[b]?=some (.map (cent kv 0 l).toArray l.length):=h w fun _ _=>rfl
theorem cmIt.mk {kv:κ->Value}{b:Nat}{l:List (κ × Int)}{w:World}(h:w.heap[b]?=some (.map (cent kv 0 l).toArray l.length)):(cmIt kv b l).sat w:=fun _ ha=>(ha b rfl).trans h
end
section
variable {κ:Type}[DecidableEq κ]
def ZoO (k:κ):List (κ × Int)->Nat->Option (Nat × Value)
 | [],_=>none
 | x::l,i=>if k=x.1 then some (i,.int .i64 x.2) else ZoO k l (i+1)
def cget (k:κ):List (κ × Int)->Int
 | []=>0
 | x::l=>if k=x.1 then x.2 else cget k l
def cins (k:κ):List (κ × Int)->List (κ × Int)
 | []=>[(k,0)]
 | x::l=>if k=x.1 then x::l else x::cins k l
def cidx (k:κ):List (κ × Int)->Nat
 | []=>0
 | x::l=>if k=x.1 then 0 else cidx k l+1
def cput (k:κ)(v:Int):List (κ × Int)->List (κ × Int)
 | []=>[]
 | x::l=>if k=x.1 then (k,v)::l else x::cput k v l
theorem Zlt (k:κ):∀ (l:List (κ × Int)) (i:Nat),ZoO k l i=if k∈l.map (·.1) then some (i+cidx k l,.int .i64 (cget k l)) else none
 | [],_=>rfl
 | x::l,i=>by
  unfold ZoO cidx cget
  by_cases h:k=x.1
  ·rw[if_pos h,if_pos h,if_pos h,if_pos (by rw[h];simp)];rfl
  ·rw[if_neg h,if_neg h,if_neg h,Zlt k l (i+1)]
   by_cases hm:k∈l.map (·.1)
   ·rw[if_pos hm,if_pos (show k∈(x::l).map (·.1) from List.mem_cons_of_mem _ hm)]
    congr 2
    omega
   ·rw[if_neg hm,if_neg (show k ∉ (x::l).map (·.1) from fun hh=>(List.mem_cons.1 hh).elim h hm)]
theorem Zls (k:κ):∀ l:List (κ × Int),k∈l.map (·.1)->cins k l=l
 | [],h=>by cases h
 | x::l,h=>by
  unfold cins
  by_cases e:k=x.1
  ·rw[if_pos e]
  ·rw[if_neg e,Zls k l ((List.mem_cons.1 h).resolve_left e)]
theorem Zh4 (k:κ):∀ l:List (κ × Int),k ∉ l.map (·.1)->cins k l=l++[(k,0)]
 | [],_=>rfl
 | x::l,h=>by
  unfold cins
  rw[if_neg (fun e=>h (by rw[e];simp)),Zh4 k l (fun e=>h (List.mem_cons_of_mem _ e))]
  rfl
theorem Zql (k:κ):∀ l:List (κ × Int),k ∉ l.map (·.1)->cidx k l=l.length
 | [],_=>rfl
 | x::l,h=>by
  unfold cidx
  rw[if_neg (fun e=>h (by rw[e];simp)),Zql k l (fun e=>h (List.mem_cons_of_mem _ e))]
  rfl
theorem Zek (k:κ):∀ l:List (κ × Int),k ∉ l.map (·.1)->cget k l=0
 | [],_=>rfl
 | x::l,h=>by
  unfold cget
  rw[if_neg (fun e=>h (by rw[e];simp)),Zek k l (fun e=>h (List.mem_cons_of_mem _ e))]
theorem ZoN (k:κ):∀ l:List (κ × Int),k∈l.map (·.1)->(k,cget k l)∈l
 | [],h=>by cases h
 | x::l,h=>by
  unfold cget
  by_cases e:k=x.1
  ·rw[if_pos e,e];exact List.mem_cons_self
  ·rw[if_neg e]
   exact List.mem_cons_of_mem _ (ZoN k l ((List.mem_cons.1 h).resolve_left e))
theorem Zni (k:κ):∀ l:List (κ × Int),cidx k (cins k l)=cidx k l
 | []=>by simp[cins,cidx]
 | x::l=>by
  unfold cins
  by_cases e:k=x.1
  ·rw[if_pos e]
  ·rw[if_neg e];unfold cidx;rw[if_neg e,if_neg e,Zni k l]
theorem Zlr (k:κ):∀ l:List (κ × Int),k∈(cins k l).map (·.1)
 | []=>by simp[cins]
 | x::l=>by
  unfold cins
  by_cases e:k=x.1
  ·rw[if_pos e,e];simp
  ·rw[if_neg e];exact List.mem_cons_of_mem _ (Zlr k l)
theorem Zjb (k:κ)(v:Int):∀ l:List (κ × Int),(cput k v l).map (·.1)=l.map (·.1)
 | []=>rfl
 | x::l=>by
  unfold cput
  by_cases e:k=x.1
  ·rw[if_pos e,e];rfl
  ·rw[if_neg e,List.map_cons,List.map_cons,Zjb k v l]
theorem Zw2 (k:κ)(v:Int)(l:List (κ × Int)):(cput k v l).length=l.length:=by
 have:=congrArg List.length (Zjb k v l)
 simpa using this
theorem Znj (k:κ)(v:Int):∀ l:List (κ × Int),k∈l.map (·.1)->cget k (cput k v l)=v
 | [],h=>by cases h
 | x::l,h=>by
  unfold cput
  by_cases e:k=x.1
  ·rw[if_pos e];unfold cget;rw[if_pos rfl]
  ·rw[if_neg e];unfold cget;rw[if_neg e,Znj k v l ((List.mem_cons.1 h).resolve_left e)]
theorem Znk (k:κ):∀ l:List (κ × Int),cget k (cins k l)=cget k l
 | []=>by simp[cins,cget]
 | x::l=>by
  unfold cins
  by_cases e:k=x.1
  ·rw[if_pos e]
  ·rw[if_neg e];unfold cget;rw[if_neg e,if_neg e,Znk k l]
theorem Zqk (k:κ)(v:Int):∀ (l:List (κ × Int)) (x:κ × Int),x∈cput k v l->x∈l\/x=(k,v)
 | [],_,h=>by cases h
 | y::l,x,h=>by
  unfold cput at h
  by_cases e:k=y.1
  ·rw[if_pos e]at h
   rcases List.mem_cons.1 h with h|h
   ·exact .inr h
   ·exact .inl (List.mem_cons_of_mem _ h)
  ·rw[if_neg e]at h
   rcases List.mem_cons.1 h with h|h
   ·exact .inl (h▸List.mem_cons_self)
   ·rcases Zqk k v l x h with h|h
    ·exact .inl (List.mem_cons_of_mem _ h)
    ·exact .inr h
def cinc (k:κ)(l:List (κ × Int)):List (κ × Int):=cput k (cget k l+1) (cins k l)
theorem Znh (k:κ)(l:List (κ × Int)):(cinc k l).map (·.1)=if k∈l.map (·.1) then l.map (·.1) else l.map (·.1)++[k]:=by
 unfold cinc
 rw[Zjb]
 by_cases h:k∈l.map (·.1)
 ·rw[if_pos h,Zls k l h]
 ·rw[if_neg h,Zh4 k l h];simp
theorem Zhw.get {l:List (κ × Int)}{t:Nat}(h:Zhw l t)(k:κ):0<=cget k l/\cget k l<=(t:Int):=by
 by_cases hm:k∈l.map (·.1)
 ·have:=h _ (ZoN k l hm);dsimp only at this;omega
 ·rw[Zek k l hm];omega
theorem Zhw.new {l:List (κ × Int)}{t:Nat}(h:Zhw l t)(k:κ):cget k l+1=1↔k ∉ l.map (·.1):=by
 constructor
 ·intro e hm
  have:=h _ (ZoN k l hm);dsimp only at this;omega
 ·intro hm;rw[Zek k l hm];rfl
theorem Zhw.inc {l:List (κ × Int)}{t:Nat}(h:Zhw l t)(k:κ):Zhw (cinc k l) (t+1):=by
 have hg:=h.get k
 intro x hx
 by_cases hm:k∈l.map (·.1)
 ·unfold cinc at hx
  rw[Zls k l hm]at hx
  rcases Zqk k _ _ x hx with hx|rfl
  ·have:=h x hx;omega
  ·dsimp only;omega
 ·unfold cinc at hx
  rw[Zh4 k l hm]at hx
  have hx2:x∈l\/x=(k,cget k l+1):=by
   clear hg h
   induction l with
   | nil=>simp[cput]at hx;exact .inr (by simpa[cget] using hx)
   | cons y l ih =>
    have hne:k≠y.1:=fun e=>hm (by rw[e];simp)
    have hml:k ∉ l.map (·.1):=fun e=>hm (List.mem_cons_of_mem _ e)
    rw[Zek k _ hm]at hx ⊢
    rw[Zek k l hml]at ih
    rw[List.cons_append]at hx
    unfold cput at hx
    rw[if_neg hne]at hx
    rcases List.mem_cons.1 hx with hx|hx
    ·exact .inl (hx▸List.mem_cons_self)
    ·rcases ih hx hml with h|h
     ·exact .inl (List.mem_cons_of_mem _ h)
     ·exact .inr h
  rcases hx2 with hx|rfl
  ·have:=h x hx;omega
  ·dsimp only;omega
theorem Zui (kv:κ->Value)(k:κ):∀ (i:Nat) (l:List (κ × Int)),k∈l.map (·.1)->(cent kv i l)[cidx k l]?=some ⟨kv k,.int .i64 (cget k l),i+cidx k l⟩
 | _,[],h=>by cases h
 | i,x::l,h=>by
  unfold cent cidx cget
  by_cases e:k=x.1
  ·rw[if_pos e,if_pos e,e];rfl
  ·rw[if_neg e,if_neg e,List.getElem?_cons_succ,Zui kv k (i+1) l ((List.mem_cons.1 h).resolve_left e)]
   congr 2
   omega
theorem Zuf (k:κ):∀ l:List (κ × Int),k∈l.map (·.1)->cidx k l<l.length
 | [],h=>by cases h
 | x::l,h=>by
  unfold cidx
  by_cases e:k=x.1
  ·rw[if_pos e];simp
  ·rw[if_neg e,List.length_cons]
   have:=Zuf k l ((List.mem_cons.1 h).resolve_left e)
   omega
theorem Zqm (kv:κ->Value)(k:κ)(v:Int):∀ (i:Nat) (l:List (κ × Int)),k∈l.map (·.1)->(cent kv i l).modify (cidx k l) (fun e=>{ e with val := .int .i64 v })=cent kv i (cput k v l)
 | _,[],h=>by cases h
 | i,x::l,h=>by
  unfold cidx cput
  by_cases e:k=x.1
  ·rw[if_pos e,if_pos e,e];rfl
  ·rw[if_neg e,if_neg e]
   unfold cent
   rw[List.modify_succ_cons,Zqm kv k v (i+1) l ((List.mem_cons.1 h).resolve_left e)]
end
class KeyT (P:Program) (kt:TypeId) (κ:outParam Type) [DecidableEq κ] (kv:outParam (κ->Value)):Prop where
 ask:∀ (k:κ) (l:List (κ × Int)) (w:World),(Instr.findKey kt (kv k) (cent kv 0 l)).run P w = .ok (ZoO k l 0) w
 chk:∀ (b:Bool) (k:κ) (w:World),(Instr.checkKey b 10000 kt (kv k)).run P w = .ok () w
 stay:∀ (k:κ) (w:World),(Instr.keyThatStays (kv k) (kv k)).run P w = .ok (kv k) w
section
variable {κ:Type}{kv:κ->Value}
variable {P:Program}{n:Nat}{wr:World}{fr:Fr}{O:List It}{ty:TypeId}{pos:String}{af:Array Edge}{dst:Option Tmp}{g:Option (Nat × Bool)}{Kp:Value->List It->Prop}
theorem setC {a:Act}{w:World}{b:Nat}{l l':List (κ × Int)}{O':List It}(hs:St n wr fr O a w)(hu:Upd O (cmIt kv b l) (cmIt kv b l') O') :
  Bel wr.heap.size wr { w with heap:=w.heap.setIfInBounds b (.map (cent kv 0 l').toArray l'.length) }/\Zay wr.heap.size O' { w with heap:=w.heap.setIfInBounds b (.map (cent kv 0 l').toArray l'.length) }:=by
 have hin:=hs.own.inb _ hu.mem b rfl
 refine⟨hs.old.trans ⟨⟨rfl,rfl,rfl,by simp,fun i hi=>Zd4 (by omega)⟩⟩,hs.own.upd hu hs.old.size (by simp) (fun i _ hi=>Zd4 hi) (cmIt.mk ?_) fun i hi => .inl hi⟩
 simp[Array.getElem?_setIfInBounds,hin.2]
theorem ZuG {t:TypeId}(kv:κ->Value)(k:∀ b,Kp (.map (some b)) (cmIt kv b []::O)):Stp P n wr fr O ⟨dst,.makeMap t none,ty,pos,af,g⟩ Kp :=
 Zce fun a w hs=>by
  have hB:Bel w.heap.size w (w.alloc (.map #[] 0)):=(Bel.refl _ _).alloc (Nat.le_refl _) _
  refine⟨.map (some w.heap.size),w.alloc (.map #[] 0),_,?_,hs.old.trans (hB.mono hs.old.size),hs.own.grow (O':=[cmIt kv w.heap.size []]) hB hs.old.size ⟨fun i hi=>?_,fun i hi b hb=>?_,List.pairwise_singleton _ _⟩,k _⟩
  ·simp only[execOp,Option.map_none,Sem.run_bind,run_makeMap (P:=P) t w,Result.andThen_ok,Sem.run_pure]
  ·rw[List.mem_singleton.1 hi]
   exact cmIt.mk (heap_alloc_new w _)
  ·rw[List.mem_singleton.1 hi]at hb
   simp only[It.S,cmIt]at hb
   subst hb
   exact⟨Nat.le_refl _,by simp⟩
theorem ZzZ {t kt et b:Nat}{x:Operand}{l:List (κ × Int)}{R:List It}[hM:MapT P t kt et](hx:ev fr x=some (.map (some b)))(hp:Pick (cmIt kv b l) O R) :
  Pu P n wr fr O (.call ⟨.builtin .len,#[x],#[t]⟩) ty (.int .i64 l.length):=fun a w hs _ _ _ _=>by
 have h1:=cmIt.heap (hs.own.sat _ (hp.perm.mem_iff.2 List.mem_cons_self))
 have hu:=run_underlying (w:=w) (MapT.parts hM.h)
 have hx':=hs.sim.ev hx
 simp[execOp,resolve,invoke,builtin,Builtin.len_,hx',hu,Zbh (P:=P) h1,goInt,Zqn]
end
section
variable {κ:Type}[DecidableEq κ]{kv:κ->Value}
variable {P:Program}{n:Nat}{wr:World}{fr:Fr}{O:List It}{ty:TypeId}{pos:String}{af:Array Edge}{dst:Option Tmp}{g:Option (Nat × Bool)}{Kp:Value->List It->Prop}
theorem ZsJ {t kt et b:Nat}{l:List (κ × Int)}{w:World}[hM:MapT P t kt et][hK:KeyT P kt κ kv][ZeroV P et (.int .i64 0)](h:(cmIt kv b l).sat w)(k:κ):(Instr.lookup t (.map (some b)) (kv k) false).run P w = .ok (.int .i64 (cget k l)) w:=by
 have h1:=cmIt.heap h
 have hu:=run_underlying (w:=w) (MapT.parts hM.h)
 have ha:=hK.ask k l w
 have hz:=Zgg (P:=P) (t:=et) (v := .int .i64 0) (w:=w)
 have hc:=fun b=>hK.chk b k w
 obtain⟨es,he⟩:∃ es:Array MapEntry,es=(cent kv 0 l).toArray:=⟨_,rfl⟩
 rw[<- he]at h1
 have hl:es.toList=cent kv 0 l:=by rw[he]
 simp only[Instr.lookup,Sem.run_bind,hu,Result.andThen_ok,Zbh (P:=P) h1,Sem.run_pure,hc,hl,ha]
 rw[Zlt]
 by_cases hm:k∈l.map (·.1)
 ·rw[if_pos hm]
  simp
 ·rw[if_neg hm,Zek k l hm]
  simp[hz]
theorem Zxi {t kt et b:Nat}{x ix:Operand}{l:List (κ × Int)}{k:κ}{v:Int}{R:List It}[hM:MapT P t kt et][hK:KeyT P kt κ kv][ZeroV P et (.int .i64 0)](hx:ev fr x=some (.map (some b)))(hi:ev fr ix=some (kv k))(hp:Pick (cmIt kv b l) O R)(hv:cget k l=v) :
  Pu P n wr fr O (.lookup t x ix false) ty (.int .i64 v):=fun a w hs _ _ _ _=>by
 have:=ZsJ (P:=P) (t:=t) (kt:=kt) (et:=et) (hs.own.sat _ (hp.perm.mem_iff.2 List.mem_cons_self)) k
 simp only[execOp,hs.sim.ev hx,hs.sim.ev hi,Sem.run_bind,this,Result.andThen_ok,Sem.run_pure,hv]
theorem Zq4 {t kt et b:Nat}{l:List (κ × Int)}{w:World}[hM:MapT P t kt et][hK:KeyT P kt κ kv][ZeroV P et (.int .i64 0)](h:(cmIt kv b l).sat w)(k:κ):(Instr.mapEntry t (.map (some b)) (kv k)).run P w =
  .ok (.tuple #[.int .i64 (cget k l),.int .i64 (cidx k l)]) { w with heap:=w.heap.setIfInBounds b (.map (cent kv 0 (cins k l)).toArray (cins k l).length) }:=by
 have h1:=cmIt.heap h
 have hu:=run_underlying (w:=w) (MapT.parts hM.h)
 have ha:=hK.ask k l w
 have hz:=Zgg (P:=P) (t:=et) (v := .int .i64 0) (w:=w)
 have hc:=fun b=>hK.chk b k w
 have hst:=hK.stay k w
 obtain⟨es,he⟩:∃ es:Array MapEntry,es=(cent kv 0 l).toArray:=⟨_,rfl⟩
 rw[<- he]at h1
 have hl:es.toList=cent kv 0 l:=by rw[he]
 simp only[Instr.mapEntry,Sem.run_bind,hu,Result.andThen_ok,Zbh (P:=P) h1,Sem.run_pure,hc,hl,ha]
 rw[Zlt]
 by_cases hm:k∈l.map (·.1)
 ·rw[if_pos hm,Zls k l hm]
  have hat:=Zui kv k 0 l hm
  rw[Nat.zero_add]at hat
  have hej:es[0+cidx k l]?=some ⟨kv k,.int .i64 (cget k l),cidx k l⟩:=by
   rw[he,Nat.zero_add]
   simpa using hat
  have hmod:(es.modify (0+cidx k l) fun e=>({ key:=kv k,val:=e.val,born:=e.born }:MapEntry))=es:=by
   apply Array.ext_getElem?
   intro i
   rw[Array.getElem?_modify]
   split
   ·rename_i hij
    subst hij
    rw[hej]
    rfl
   ·rfl
  have hke:(Option.map (fun x:MapEntry=>x.key) es[0+cidx k l]?).getD (kv k)=kv k:=by rw[hej];rfl
  simp only[hke,Sem.run_bind,hst,Result.andThen_ok,hmod,<- he]
  rw[Nat.zero_add]at hej ⊢
  simp[setObj,Sem.run,h1,goInt,hej]
 ·rw[if_neg hm,Zh4 k l hm,Zql k l hm,Zek k l hm]
  have hp:(es.push { key:=kv k,val := .int .i64 0,born:=l.length })=(cent kv 0 (l++[(k,0)])).toArray:=by
   rw[he,Zqp,Nat.zero_add]
   simp[cent]
  rw[<- hp]
  simp[hz,setObj,Sem.run,h1,goInt]
theorem Zq3 {t b:Nat}{l:List (κ × Int)}{w:World}{s:Nat}(h:(cmIt kv b l).sat w)(k:κ)(v:Int)(hk:k∈l.map (·.1))(hs:cidx k l=s):(Instr.entryStore t (.map (some b)) (.int .i64 s) (.int .i64 v)).run P w =
  .ok () { w with heap:=w.heap.setIfInBounds b (.map (cent kv 0 (cput k v l)).toArray (cput k v l).length) }:=by
 have h1:=cmIt.heap h
 have h2:=Zqo kv 0 l s (hs▸Zuf k l hk)
 rw[Nat.zero_add]at h2
 have h3:=Zqm kv k v 0 l hk
 rw[hs]at h3
 have hfi:((cent kv 0 l).toArray.findIdx? fun e=>(e.born:Int)==(s:Int))=some s:=by rw[List.findIdx?_toArray];exact h2
 simp only[Instr.entryStore,Sem.run_bind,Result.andThen_ok,Zbh (P:=P) h1,Sem.run_pure,asInt,asIntOf,Sem.run_map,hfi]
 rw[<- h3,Zw2]
 simp[setObj,Sem.run,h1]
theorem Zft {t kt et b:Nat}{x ix:Operand}{l:List (κ × Int)}{k:κ}{O':List It}[hM:MapT P t kt et][hK:KeyT P kt κ kv][ZeroV P et (.int .i64 0)](hx:ev fr x=some (.map (some b)))(hi:ev fr ix=some (kv k))(hu:Upd O (cmIt kv b l) (cmIt kv b (cins k l)) O')
  (kk:Kp (.tuple #[.int .i64 (cget k l),.int .i64 (cidx k l)]) O'):Stp P n wr fr O ⟨dst,.mapEntry t x ix,ty,pos,af,g⟩ Kp:=by
 refine Zce ?_
 intro a w hs
 have hst:=setC hs hu
 have hr:=Zq4 (P:=P) (t:=t) (kt:=kt) (et:=et) (hs.own.sat _ hu.mem) k
 refine⟨_,_,O',?_,hst.1,hst.2,kk⟩
 simp only[execOp,hs.sim.ev hx,hs.sim.ev hi,Sem.run_bind,hr,Result.andThen_ok,Sem.run_pure]
theorem Zfs {t b:Nat}{x sx y:Operand}{l:List (κ × Int)}{k:κ}{v:Int}{O':List It}(hx:ev fr x=some (.map (some b)))(hsx:ev fr sx=some (.int .i64 (cidx k l)))(hy:ev fr y=some (.int .i64 v))(hu:Upd O (cmIt kv b (cins k l)) (cmIt kv b (cput k v (cins k l))) O')
  (kk:Kp undef O'):Stp P n wr fr O ⟨dst,.entryStore t x sx y,ty,pos,af,g⟩ Kp :=
 Zh6 fun a w hst=>by
  have h2:=setC hst hu
  refine⟨_,O',?_,h2.1,h2.2,kk⟩
  have:=Zq3 (P:=P) (t:=t) (hst.own.sat _ hu.mem) k v (Zlr k l) (Zni k l)
  simp only[execOp,hst.sim.ev hx,hst.sim.ev hsx,hst.sim.ev hy,Sem.run_bind,this,Result.andThen_ok,Sem.run_pure]
end
end Go.Wk
namespace Go.Proofs.YtdlmhmmhdbbliaaGreatDoor
open Go Go.RowKit Go.Wk
def bz (l:List UInt8):ByteArray:=⟨l.toArray⟩
theorem ZxI {a b:List UInt8}(h:bz a=bz b):a=b:=by
 have:=congrArg (fun x:ByteArray=>x.data.toList) h
 simpa[bz] using this
theorem Zzu (l:List UInt8):(bz l).size=l.length:=by simp[bz,ByteArray.size]
def pz (x:Int × List UInt8):Int × ByteArray:=(x.1,bz x.2)
theorem ZAj {a b:Int × List UInt8}(h:pz a=pz b):a=b:=by
 obtain⟨a1,a2⟩:=a
 obtain⟨b1,b2⟩:=b
 simp only[pz,Prod.mk.injEq]at h
 rw[h.1,ZxI h.2]
theorem Ztm {α β:Type}{f:α->β}(hf:∀ {a b},f a=f b->a=b){x:α}{l:List α}:f x∈l.map f↔x∈l :=
 ⟨fun h=>by obtain⟨y,hy,e⟩:=List.mem_map.1 h;exact hf e▸hy,fun h=>List.mem_map.2 ⟨x,h,rfl⟩⟩
theorem ZgK {l:List UInt8}(h:ZcW l=true):l.length<=6:=by
 unfold ZcW Zdd at h
 simp only[Bool.and_eq_true,decide_eq_true_eq]at h
 exact h.1.2
theorem Zfd {l:List UInt8}(h:(ZbO l).isSome=true):l.length<=7:=by
 unfold ZbO at h
 cases hg:ZfY l [3600,60,1] 0 0 with
 | none=>rw[hg]at h;cases h
 | some o =>
  rw[hg]at h
  dsimp only at h
  by_cases hh:(l.isEmpty=true\/ZbS (if l.head?=some 45 then -o else o)≠l)
  ·rw[if_pos hh]at h;cases h
  ·have:ZbS (if l.head?=some 45 then -o else o)=l:=Decidable.of_not_not fun hn=>hh (.inr hn)
   rw[<- this]
   exact Zig _
theorem ZBs {f:List UInt8}(h:ZbQ f=1):ZcW f=true:=by
 unfold ZbQ at h
 dsimp only at h
 split at h
 ·assumption
 ·repeat' split at h
  all_goals cases h
theorem ZAw {f a b:List UInt8}(h:ZbQ f=2)(hc:ZdE [47] f []=some (a,b)):a.length<=6/\b.length<=6:=by
 unfold ZbQ at h
 dsimp only at h
 rw[hc]at h
 dsimp only at h
 split at h
 ·cases h
 ·split at h
  ·rename_i h2
   rw[Bool.and_eq_true]at h2
   exact⟨ZgK h2.1,ZgK h2.2⟩
  ·repeat' split at h
   all_goals cases h
theorem ZAv {f:List UInt8}(h:ZbQ f=5):((ZbO f).isSome||(match ZdE [47] f [] with|some (a,b)=>(ZbO a).isSome&&(ZbO b).isSome|none=>false))=true:=by
 unfold ZbQ at h
 dsimp only at h
 by_cases c1:ZcW f=true
 ·rw[if_pos c1]at h;omega
 rw[if_neg c1]at h
 cases hc:ZdE [47] f [] with
 | none =>
  rw[hc]at h
  dsimp only at h ⊢
  rw[if_neg (by decide)]at h
  by_cases c3:(Zcc f).isSome=true
  ·rw[if_pos c3]at h;omega
  rw[if_neg c3]at h
  by_cases c4:f=[37,122]
  ·rw[if_pos c4]at h;omega
  rw[if_neg c4]at h
  by_cases c5:((ZbO f).isSome||false)=true
  ·exact c5
  ·rw[if_neg c5]at h;omega
 | some x =>
  obtain⟨a,b⟩:=x
  rw[hc]at h
  dsimp only at h ⊢
  by_cases c2:(ZcW a&&ZcW b)=true
  ·rw[if_pos c2]at h;omega
  rw[if_neg c2]at h
  by_cases c3:(Zcc f).isSome=true
  ·rw[if_pos c3]at h;omega
  rw[if_neg c3]at h
  by_cases c4:f=[37,122]
  ·rw[if_pos c4]at h;omega
  rw[if_neg c4]at h
  by_cases c5:((ZbO f).isSome||(ZbO a).isSome&&(ZbO b).isSome)=true
  ·exact c5
  ·rw[if_neg c5]at h;omega
theorem Zrd {f a b:List UInt8}(h:ZcB f=some (a,b)):a.length<=7/\b.length<=7:=by
 unfold ZcB at h
 cases hc:ZdE [47] f [] with
 | none=>rw[hc]at h;cases h
 | some x =>
  obtain⟨a',b'⟩:=x
  rw[hc]at h
  dsimp only at h
  split at h
  ·rename_i hk
   simp only[Option.some.injEq,Prod.mk.injEq]at h
   obtain⟨rfl,rfl⟩:=h
   have hl:=Zne hc
   simp only[List.length_nil]at hl
   rcases hk with hk|hk
   ·have:=ZAw hk hc;omega
   ·have h5:=ZAv hk
    rw[hc]at h5
    dsimp only at h5
    rw[Bool.or_eq_true,Bool.and_eq_true]at h5
    rcases h5 with h5|⟨h5,h6⟩
    ·have:=Zfd h5;omega
    ·have:=Zfd h5
     have:=Zfd h6
     omega
  ·cases h
theorem ZuC (f:List UInt8)(off save:Int)(letter:List UInt8):(ZbR f off save letter).1.length<=7:=by
 unfold ZbR
 cases hp:ZcB f with
 | some x =>
  obtain⟨a,b⟩:=x
  have:=Zrd hp
  dsimp only
  split
  ·exact this.1
  ·exact this.2
 | none =>
  dsimp only
  split
  ·split
   ·split
    ·rename_i hl;have:=ZgK hl;dsimp only;omega
    ·simp
   ·simp
  ·split
   ·split
    ·exact Zig _
    ·simp
   ·split
    ·rename_i hk
     dsimp only
     rcases hk with hk|hk
     ·have:=ZgK (ZBs hk);omega
     ·have h5:=ZAv hk
      cases hc:ZdE [47] f [] with
      | none =>
       rw[hc,Bool.or_false]at h5
       exact Zfd h5
      | some x =>
       obtain⟨a,b⟩:=x
       unfold ZcB at hp
       rw[hc]at hp
       dsimp only at hp
       rw[if_pos (.inr hk)]at hp
       cases hp
    ·simp
theorem Zl8 (x:List UInt8):∀ l:List (List UInt8),Zc6 (l++[x])=Zc6 l+(x.length+1)
 | []=>by simp[Zc6]
 | y::l=>by rw[List.cons_append,Zc6,Zc6,Zl8 x l];omega
theorem ZpL:∀ l:List (List UInt8),(∀ x∈l,x.length<=7)->Zc6 l<=8*l.length
 | [],_=>Nat.le_refl _
 | y::l,h=>by
  have h1:=h y List.mem_cons_self
  have h2:=ZpL l fun x hx=>h x (List.mem_cons_of_mem _ hx)
  rw[Zc6,List.length_cons]
  omega
structure FewI (lp:List ((Int × ByteArray) × Int))(la:List (ByteArray × Int))(sz:Int)(acc:List (Int × List UInt8) × List (List UInt8))(t:Nat):Prop where
 kp:lp.map (·.1)=acc.1.map pz
 ka:la.map (·.1)=acc.2.map bz
 cp:Zhw lp t
 ca:Zhw la t
 le:acc.2.length<=t
 ls:∀ x∈acc.2,x.length<=7
 sz:sz=Zc6 acc.2
theorem FewI.nil:FewI [] [] 0 ([],[]) 0:=⟨rfl,rfl,Zhw.nil _,Zhw.nil _,Nat.le_refl _,(fun _ h=>by cases h),rfl⟩
theorem FewI.lim {lp:List ((Int × ByteArray) × Int)}{la:List (ByteArray × Int)}{sz:Int}{acc:List (Int × List UInt8) × List (List UInt8)}{t:Nat}(h:FewI lp la sz acc t):0<=sz/\sz<=8*(t:Int):=by
 have h1:=ZpL _ h.ls
 have h2:=h.le
 rw[h.sz]
 omega
theorem FewI.step {lp:List ((Int × ByteArray) × Int)}{la:List (ByteArray × Int)}{sz:Int}{acc:List (Int × List UInt8) × List (List UInt8)}{t:Nat}(h:FewI lp la sz acc t)(o:Int)(x:List UInt8)(hx:x.length<=7) :
  FewI (cinc (o,bz x) lp) (cinc (bz x) la) (if cget (bz x) la+1=1 then sz+(x.length+1) else sz) (addP (o,x) acc.1,addA x acc.2) (t+1):=by
 have hm:bz x∈la.map (·.1)↔x∈acc.2:=by rw[h.ka];exact Ztm ZxI
 have hp:(o,bz x)∈lp.map (·.1)↔(o,x)∈acc.1:=by rw[h.kp];show pz (o,x)∈List.map pz acc.1↔_;exact Ztm ZAj
 refine⟨?_,?_,h.cp.inc _,h.ca.inc _,?_,?_,?_⟩
 ·rw[Znh,h.kp]
  unfold addP
  rw[h.kp]at hp
  by_cases hh:(o,x)∈acc.1
  ·rw[if_pos (hp.2 hh),if_pos hh]
  ·rw[if_neg (fun e=>hh (hp.1 e)),if_neg hh,List.map_append];rfl
 ·rw[Znh,h.ka]
  unfold addA
  rw[h.ka]at hm
  by_cases hh:x∈acc.2
  ·rw[if_pos (hm.2 hh),if_pos hh]
  ·rw[if_neg (fun e=>hh (hm.1 e)),if_neg hh,List.map_append];rfl
 ·unfold addA
  have:=h.le
  split
  ·dsimp only;omega
  ·simp;omega
 ·unfold addA
  intro y hy
  dsimp only at hy
  split at hy
  ·exact h.ls y hy
  ·rcases List.mem_append.1 hy with hy|hy
   ·exact h.ls y hy
   ·rw[List.mem_singleton.1 hy];exact hx
 ·have hn:=h.ca.new (bz x)
  unfold addA
  dsimp only
  by_cases hh:x∈acc.2
  ·rw[if_pos hh,if_neg (fun e=>hn.1 e (hm.2 hh))];exact h.sz
  ·rw[if_neg hh,if_pos (hn.2 fun e=>hh (hm.1 e)),Zl8,h.sz];omega
theorem FewI.few {lp:List ((Int × ByteArray) × Int)}{la:List (ByteArray × Int)}{sz:Int}{acc:List (Int × List UInt8) × List (List UInt8)}{t:Nat}(h:FewI lp la sz acc t) :
  (decide ((lp.length:Int)<=120)&&decide (sz<=250))=(decide (acc.1.length<=120)&&decide (Zc6 acc.2<=250)):=by
 have h1:=congrArg List.length h.kp
 simp only[List.length_map]at h1
 rw[h1,h.sz]
 congr 1
 ·rw[decide_eq_decide];omega
 ·rw[decide_eq_decide];omega
theorem Zm3 {rs:List Zab}{e:DEra}{b:Bool}(h:ZeV rs e b=0):∀ x∈ZaR rs e,Zcl e.off x.1=true:=by
 intro x hx
 unfold ZeV at h
 split at h
 ·cases h
 ·split at h
  ·cases h
  ·split at h
   ·cases h
   ·split at h
    ·cases h
    ·split at h
     ·cases h
     ·rename_i hn
      cases hh:Zcl e.off x.1 with
      | true=>rfl
      | false=>exact absurd (.inr (List.any_eq_true.2 ⟨x,hx,by rw[hh];rfl⟩)) hn
theorem Zi3 {rs:List Zab}{l:List DEra}{i:Nat}:∀ (f k:Nat),ZdU rs l i f k=none->∀ j,k<=j->j<k+f->ZeV rs (l.getD j dE0) (decide (j=0))=0
 | 0,k,_,j,h1,h2=>by omega
 | f+1,k,h,j,h1,h2=>by
  rw[ZdU]at h
  split at h
  ·cases h
  ·rename_i h0
   split at h
   ·cases h
   ·by_cases hj:j=k
    ·rw[hj];exact Decidable.of_not_not h0
    ·exact Zi3 f (k+1) h j (by omega) (by omega)
theorem ZrH {rs:List Zab}{l:List DEra}{i:Nat}(h:ZdU rs l i l.length 0=none):∀ e∈l,∀ x∈ZaR rs e,Zcl e.off x.1=true:=by
 intro e he
 obtain⟨j,hj,rfl⟩:=List.mem_iff_getElem.1 he
 have:=Zi3 l.length 0 h j (Nat.zero_le _) (by omega)
 rw[List.getD_eq_getElem?_getD,List.getElem?_eq_getElem hj]at this
 exact Zm3 this
end Go.Proofs.YtdlmhmmhdbbliaaGreatDoor
