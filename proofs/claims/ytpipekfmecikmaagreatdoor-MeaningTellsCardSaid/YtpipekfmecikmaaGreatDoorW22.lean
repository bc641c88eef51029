/- Parts of the proof. -/
import Derived.Test.YtpipekfmecikmaaGreatDoorW10
import Derived.Test.YtpipekfmecikmaaGreatDoorW15
import Derived.Test.YtpipekfmecikmaaGreatDoorW20
import Derived.Test.YtpipekfmecikmaaGreatDoorW05
import Derived.Test.YtpipekfmecikmaaGreatDoorW21
set_option maxHeartbeats 4000000
set_option linter.unusedVariables false
set_option linter.unusedSimpArgs false
namespace Go.Wk
open Go Go.RowKit
section
variable {κ:Type}
def cent (kv:κ->Value):Nat->List (κ × Int)->List MapEntry
 | _,[]=>[]
 | i,x::l=>⟨kv x.1,.int .i64 x.2,i⟩::cent kv (i+1) l
def ZgS (l:List (κ × Int))(t:Nat):Prop:=∀ x∈l,1<=x.2/\x.2<=(t:Int)
theorem ZgS.nil (t:Nat):ZgS ([]:List (κ × Int)) t:=fun _ h=>by cases h
theorem Zqf (kv:κ->Value):∀ (i:Nat) (l:List (κ × Int)),(cent kv i l).length=l.length
 | _,[]=>rfl
 | i,x::l=>by unfold cent;rw[List.length_cons,List.length_cons,Zqf kv (i+1) l]
theorem Zqh (kv:κ->Value):∀ (i:Nat) (a b:List (κ × Int)),cent kv i (a++b)=cent kv i a++cent kv (i+a.length) b
 | _,[],_=>rfl
 | i,x::a,b=>by
  rw[List.cons_append]
  unfold cent
  rw[Zqh kv (i+1) a b,List.cons_append,List.length_cons,show i+1+a.length=i+(a.length+1) by omega]
  cases b <;> rfl
theorem Zqg (kv:κ->Value):∀ (i:Nat) (l:List (κ × Int)) (s:Nat),s<l.length->(cent kv i l).findIdx? (fun e=>(e.born:Int)==((i+s:Nat):Int))=some s
 | _,[],_,h=>by simp at h
 | i,x::l,0,_=>by unfold cent;rw[List.findIdx?_cons];simp
 | i,x::l,s+1,h=>by
  unfold cent
  rw[List.findIdx?_cons]
  have a:((i:Int)==((i+(s+1):Nat):Int))=false:=by simp;omega
  dsimp only
  rw[a]
  have:=Zqg kv (i+1) l s (by simpa using h)
  rw[show i+1+s=i+(s+1) by omega]at this
  rw[this]
  rfl
def cmIt (kv:κ->Value)(b:Nat)(l:List (κ × Int)):It := .fact (fun i=>i=b) fun w=>w.heap[b]?=some (.map (cent kv 0 l).toArray l.length)
theorem cmIt.heap {kv:κ->Value}{b:Nat}{l:List (κ × Int)}{w:World}(h:(cmIt kv b l).sat w):w.heap[b]?=some (.map (cent kv 0 l).toArray l.length):=h w fun _ _=>rfl
theorem cmIt.mk {kv:κ->Value}{b:Nat}{l:List (κ × Int)}{w:World}(h:w.heap[b]?=some (.map (cent kv 0 l).toArray l.length)):(cmIt kv b l).sat w:=fun _ a=>(a b rfl).trans h
end
section
variable {κ:Type}[DecidableEq κ]
def Zw2 (k:κ):List (κ × Int)->Nat->Option (Nat × Value)
 | [],_=>none
 | x::l,i=>if k=x.1 then some (i,.int .i64 x.2) else Zw2 k l (i+1)
def cget (k:κ):List (κ × Int)->Int
 | []=>0
 | x::l=>if k=x.1 then x.2 else cget k l
def cins (k:κ):List (κ × Int)->List (κ × Int)
 | []=>[(k,0)]
 | x::l=>if k=x.1 then x::l else x::cins k l
def cidx (k:κ):List (κ × Int)->Nat
 | []=>0
 | x::l=>if k=x.1 then 0 else cidx k l+1
def cput (k:κ)(v:Int):List (κ × Int)->List (κ × Int)
 | []=>[]
 | x::l=>if k=x.1 then (k,v)::l else x::cput k v l
theorem Zll (k:κ):∀ (l:List (κ × Int)) (i:Nat),Zw2 k l i=if k∈l.map (·.1) then some (i+cidx k l,.int .i64 (cget k l)) else none
 | [],_=>rfl
 | x::l,i=>by
  unfold Zw2 cidx cget
  by_cases h:k=x.1
  ·rw[if_pos h,if_pos h,if_pos h,if_pos (by rw[h];simp)];rfl
  ·rw[if_neg h,if_neg h,if_neg h,Zll k l (i+1)]
   by_cases a:k∈l.map (·.1)
   ·rw[if_pos a,if_pos (show k∈(x::l).map (·.1) from List.mem_cons_of_mem _ a)]
    congr 2
    omega
   ·rw[if_neg a,if_neg (show k ∉ (x::l).map (·.1) from fun b=>(List.mem_cons.1 b).elim h a)]
theorem Zlk (k:κ):∀ l:List (κ × Int),k∈l.map (·.1)->cins k l=l
 | [],h=>by cases h
 | x::l,h=>by
  unfold cins
  by_cases e:k=x.1
  ·rw[if_pos e]
  ·rw[if_neg e,Zlk k l ((List.mem_cons.1 h).resolve_left e)]
theorem Zhx (k:κ):∀ l:List (κ × Int),k ∉ l.map (·.1)->cins k l=l++[(k,0)]
 | [],_=>rfl
 | x::l,h=>by
  unfold cins
  rw[if_neg (fun e=>h (by rw[e];simp)),Zhx k l (fun e=>h (List.mem_cons_of_mem _ e))]
  rfl
theorem Zqd (k:κ):∀ l:List (κ × Int),k ∉ l.map (·.1)->cidx k l=l.length
 | [],_=>rfl
 | x::l,h=>by
  unfold cidx
  rw[if_neg (fun e=>h (by rw[e];simp)),Zqd k l (fun e=>h (List.mem_cons_of_mem _ e))]
  rfl
theorem ZdW (k:κ):∀ l:List (κ × Int),k ∉ l.map (·.1)->cget k l=0
 | [],_=>rfl
 | x::l,h=>by
  unfold cget
  rw[if_neg (fun e=>h (by rw[e];simp)),ZdW k l (fun e=>h (List.mem_cons_of_mem _ e))]
theorem ZoU (k:κ):∀ l:List (κ × Int),k∈l.map (·.1)->(k,cget k l)∈l
 | [],h=>by cases h
 | x::l,h=>by
  unfold cget
  by_cases e:k=x.1
  ·rw[if_pos e,e];exact List.mem_cons_self
  ·rw[if_neg e]
   exact List.mem_cons_of_mem _ (ZoU k l ((List.mem_cons.1 h).resolve_left e))
theorem Zm6 (k:κ):∀ l:List (κ × Int),cidx k (cins k l)=cidx k l
 | []=>by simp[cins,cidx]
 | x::l=>by
  unfold cins
  by_cases e:k=x.1
  ·rw[if_pos e]
  ·rw[if_neg e];unfold cidx;rw[if_neg e,if_neg e,Zm6 k l]
theorem Zlj (k:κ):∀ l:List (κ × Int),k∈(cins k l).map (·.1)
 | []=>by simp[cins]
 | x::l=>by
  unfold cins
  by_cases e:k=x.1
  ·rw[if_pos e,e];simp
  ·rw[if_neg e];exact List.mem_cons_of_mem _ (Zlj k l)
theorem ZiX (k:κ)(v:Int):∀ l:List (κ × Int),(cput k v l).map (·.1)=l.map (·.1)
 | []=>rfl
 | x::l=>by
  unfold cput
  by_cases e:k=x.1
  ·rw[if_pos e,e];rfl
  ·rw[if_neg e,List.map_cons,List.map_cons,ZiX k v l]
theorem ZwZ (k:κ)(v:Int)(l:List (κ × Int)):(cput k v l).length=l.length:=by
 have:=congrArg List.length (ZiX k v l)
 simpa using this
theorem Zm7 (k:κ)(v:Int):∀ l:List (κ × Int),k∈l.map (·.1)->cget k (cput k v l)=v
 | [],h=>by cases h
 | x::l,h=>by
  unfold cput
  by_cases e:k=x.1
  ·rw[if_pos e];unfold cget;rw[if_pos rfl]
  ·rw[if_neg e];unfold cget;rw[if_neg e,Zm7 k v l ((List.mem_cons.1 h).resolve_left e)]
theorem Zm8 (k:κ):∀ l:List (κ × Int),cget k (cins k l)=cget k l
 | []=>by simp[cins,cget]
 | x::l=>by
  unfold cins
  by_cases e:k=x.1
  ·rw[if_pos e]
  ·rw[if_neg e];unfold cget;rw[if_neg e,if_neg e,Zm8 k l]
theorem Zqc (k:κ)(v:Int):∀ (l:List (κ × Int)) (x:κ × Int),x∈cput k v l->x∈l\/x=(k,v)
 | [],_,h=>by cases h
 | y::l,x,h=>by
  unfold cput at h
  by_cases e:k=y.1
  ·rw[if_pos e]at h
   rcases List.mem_cons.1 h with h|h
   ·exact .inr h
   ·exact .inl (List.mem_cons_of_mem _ h)
  ·rw[if_neg e]at h
   rcases List.mem_cons.1 h with h|h
   ·exact .inl (h▸List.mem_cons_self)
   ·rcases Zqc k v l x h with h|h
    ·exact .inl (List.mem_cons_of_mem _ h)
    ·exact .inr h
def cinc (k:κ)(l:List (κ × Int)):List (κ × Int):=cput k (cget k l+1) (cins k l)
theorem Zm5 (k:κ)(l:List (κ × Int)):(cinc k l).map (·.1)=if k∈l.map (·.1) then l.map (·.1) else l.map (·.1)++[k]:=by
 unfold cinc
 rw[ZiX]
 by_cases h:k∈l.map (·.1)
 ·rw[if_pos h,Zlk k l h]
 ·rw[if_neg h,Zhx k l h];simp
theorem ZgS.get {l:List (κ × Int)}{t:Nat}(h:ZgS l t)(k:κ):0<=cget k l/\cget k l<=(t:Int):=by
 by_cases a:k∈l.map (·.1)
 ·have:=h _ (ZoU k l a);dsimp only at this;omega
 ·rw[ZdW k l a];omega
theorem ZgS.new {l:List (κ × Int)}{t:Nat}(h:ZgS l t)(k:κ):cget k l+1=1↔k ∉ l.map (·.1):=by
 constructor
 ·intro e a
  have:=h _ (ZoU k l a);dsimp only at this;omega
 ·intro a;rw[ZdW k l a];rfl
theorem ZgS.inc {l:List (κ × Int)}{t:Nat}(h:ZgS l t)(k:κ):ZgS (cinc k l) (t+1):=by
 have g:=h.get k
 intro x a
 by_cases b:k∈l.map (·.1)
 ·unfold cinc at a
  rw[Zlk k l b]at a
  rcases Zqc k _ _ x a with a|rfl
  ·have:=h x a;omega
  ·dsimp only;omega
 ·unfold cinc at a
  rw[Zhx k l b]at a
  have f:x∈l\/x=(k,cget k l+1):=by
   clear g h
   induction l with
   | nil=>simp[cput]at a;exact .inr (by simpa[cget] using a)
   | cons y l ih =>
    have d:k≠y.1:=fun e=>b (by rw[e];simp)
    have c:k ∉ l.map (·.1):=fun e=>b (List.mem_cons_of_mem _ e)
    rw[ZdW k _ b]at a ⊢
    rw[ZdW k l c]at ih
    rw[List.cons_append]at a
    unfold cput at a
    rw[if_neg d]at a
    rcases List.mem_cons.1 a with a|a
    ·exact .inl (a▸List.mem_cons_self)
    ·rcases ih a c with h|h
     ·exact .inl (List.mem_cons_of_mem _ h)
     ·exact .inr h
  rcases f with a|rfl
  ·have:=h x a;omega
  ·dsimp only;omega
theorem Zub (kv:κ->Value)(k:κ):∀ (i:Nat) (l:List (κ × Int)),k∈l.map (·.1)->(cent kv i l)[cidx k l]?=some ⟨kv k,.int .i64 (cget k l),i+cidx k l⟩
 | _,[],h=>by cases h
 | i,x::l,h=>by
  unfold cent cidx cget
  by_cases e:k=x.1
  ·rw[if_pos e,if_pos e,e];rfl
  ·rw[if_neg e,if_neg e,List.getElem?_cons_succ,Zub kv k (i+1) l ((List.mem_cons.1 h).resolve_left e)]
   congr 2
   omega
theorem Zt7 (k:κ):∀ l:List (κ × Int),k∈l.map (·.1)->cidx k l<l.length
 | [],h=>by cases h
 | x::l,h=>by
  unfold cidx
  by_cases e:k=x.1
  ·rw[if_pos e];simp
  ·rw[if_neg e,List.length_cons]
   have:=Zt7 k l ((List.mem_cons.1 h).resolve_left e)
   omega
theorem Zqe (kv:κ->Value)(k:κ)(v:Int):∀ (i:Nat) (l:List (κ × Int)),k∈l.map (·.1)->(cent kv i l).modify (cidx k l) (fun e=>{ e with val := .int .i64 v })=cent kv i (cput k v l)
 | _,[],h=>by cases h
 | i,x::l,h=>by
  unfold cidx cput
  by_cases e:k=x.1
  ·rw[if_pos e,if_pos e,e];rfl
  ·rw[if_neg e,if_neg e]
   unfold cent
   rw[List.modify_succ_cons,Zqe kv k v (i+1) l ((List.mem_cons.1 h).resolve_left e)]
end
class KeyT (P:Program) (kt:TypeId) (κ:outParam Type) [DecidableEq κ] (kv:outParam (κ->Value)):Prop where
 ask:∀ (k:κ) (l:List (κ × Int)) (w:World),(Instr.findKey kt (kv k) (cent kv 0 l)).run P w = .ok (Zw2 k l 0) w
 chk:∀ (b:Bool) (k:κ) (w:World),(Instr.checkKey b 10000 kt (kv k)).run P w = .ok () w
 stay:∀ (k:κ) (w:World),(Instr.keyThatStays (kv k) (kv k)).run P w = .ok (kv k) w
section
variable {κ:Type}{kv:κ->Value}
variable {P:Program}{n:Nat}{wr:World}{fr:Fr}{O:List It}{ty:TypeId}{pos:String}{af:Array Edge}{dst:Option Tmp}{g:Option (Nat × Bool)}{Kp:Value->List It->Prop}
theorem setC {a:Act}{w:World}{b:Nat}{l c:List (κ × Int)}{O':List It}(e:St n wr fr O a w)(g:Upd O (cmIt kv b l) (cmIt kv b c) O') :
  Bel wr.heap.size wr { w with heap:=w.heap.setIfInBounds b (.map (cent kv 0 c).toArray c.length) }/\Zaz wr.heap.size O' { w with heap:=w.heap.setIfInBounds b (.map (cent kv 0 c).toArray c.length) }:=by
 have f:=e.own.inb _ g.mem b rfl
 refine⟨e.old.trans ⟨⟨rfl,rfl,rfl,by simp,fun i d=>ZdN (by omega)⟩⟩,e.own.upd g e.old.size (by simp) (fun i _ d=>ZdN d) (cmIt.mk ?_) fun i d => .inl d⟩
 simp[Array.getElem?_setIfInBounds,f.2]
theorem Zuw {t:TypeId}(kv:κ->Value)(k:∀ b,Kp (.map (some b)) (cmIt kv b []::O)):Stp P n wr fr O ⟨dst,.makeMap t none,ty,pos,af,g⟩ Kp :=
 ZbQ fun a w c=>by
  have f:Bel w.heap.size w (w.alloc (.map #[] 0)):=(Bel.refl _ _).alloc (Nat.le_refl _) _
  refine⟨.map (some w.heap.size),w.alloc (.map #[] 0),_,?_,c.old.trans (f.mono c.old.size),c.own.grow (O':=[cmIt kv w.heap.size []]) f c.old.size ⟨fun i e=>?_,fun i e b d=>?_,List.pairwise_singleton _ _⟩,k _⟩
  ·simp only[execOp,Option.map_none,Sem.run_bind,run_makeMap (P:=P) t w,Result.andThen_ok,Sem.run_pure]
  ·rw[List.mem_singleton.1 e]
   exact cmIt.mk (heap_alloc_new w _)
  ·rw[List.mem_singleton.1 e]at d
   simp only[It.S,cmIt]at d
   subst d
   exact⟨Nat.le_refl _,by simp⟩
theorem ZAI {t kt et b:Nat}{x:Operand}{l:List (κ × Int)}{R:List It}[hM:MapT P t kt et](i:ev fr x=some (.map (some b)))(f:Pick (cmIt kv b l) O R) :
  Pu P n wr fr O (.call ⟨.builtin .len,#[x],#[t]⟩) ty (.int .i64 l.length):=fun a w d _ _ _ _=>by
 have e:=cmIt.heap (d.own.sat _ (f.perm.mem_iff.2 List.mem_cons_self))
 have g:=run_underlying (w:=w) (MapT.parts hM.h)
 have c:=d.sim.ev i
 simp[execOp,resolve,invoke,builtin,Builtin.len_,c,g,Zbh (P:=P) e,goInt,Zqf]
end
section
variable {κ:Type}[DecidableEq κ]{kv:κ->Value}
variable {P:Program}{n:Nat}{wr:World}{fr:Fr}{O:List It}{ty:TypeId}{pos:String}{af:Array Edge}{dst:Option Tmp}{g:Option (Nat × Bool)}{Kp:Value->List It->Prop}
theorem ZsU {t kt et b:Nat}{l:List (κ × Int)}{w:World}[hM:MapT P t kt et][hK:KeyT P kt κ kv][ZeroV P et (.int .i64 0)](h:(cmIt kv b l).sat w)(k:κ):(Instr.lookup t (.map (some b)) (kv k) false).run P w = .ok (.int .i64 (cget k l)) w:=by
 have d:=cmIt.heap h
 have j:=run_underlying (w:=w) (MapT.parts hM.h)
 have f:=hK.ask k l w
 have m:=ZfB (P:=P) (t:=et) (v := .int .i64 0) (w:=w)
 have g:=fun b=>hK.chk b k w
 obtain⟨a,e⟩:∃ a:Array MapEntry,a=(cent kv 0 l).toArray:=⟨_,rfl⟩
 rw[<- e]at d
 have i:a.toList=cent kv 0 l:=by rw[e]
 simp only[Instr.lookup,Sem.run_bind,j,Result.andThen_ok,Zbh (P:=P) d,Sem.run_pure,g,i,f]
 rw[Zll]
 by_cases c:k∈l.map (·.1)
 ·rw[if_pos c]
  simp
 ·rw[if_neg c,ZdW k l c]
  simp[m]
theorem Zxj {t kt et b:Nat}{x d:Operand}{l:List (κ × Int)}{k:κ}{v:Int}{R:List It}[hM:MapT P t kt et][hK:KeyT P kt κ kv][ZeroV P et (.int .i64 0)](h:ev fr x=some (.map (some b)))(e:ev fr d=some (kv k))(f:Pick (cmIt kv b l) O R)(g:cget k l=v) :
  Pu P n wr fr O (.lookup t x d false) ty (.int .i64 v):=fun a w c _ _ _ _=>by
 have:=ZsU (P:=P) (t:=t) (kt:=kt) (et:=et) (c.own.sat _ (f.perm.mem_iff.2 List.mem_cons_self)) k
 simp only[execOp,c.sim.ev h,c.sim.ev e,Sem.run_bind,this,Result.andThen_ok,Sem.run_pure,g]
theorem Zrj {t kt et b:Nat}{l:List (κ × Int)}{w:World}[hM:MapT P t kt et][hK:KeyT P kt κ kv][ZeroV P et (.int .i64 0)](h:(cmIt kv b l).sat w)(k:κ):(Instr.mapEntry t (.map (some b)) (kv k)).run P w =
  .ok (.tuple #[.int .i64 (cget k l),.int .i64 (cidx k l)]) { w with heap:=w.heap.setIfInBounds b (.map (cent kv 0 (cins k l)).toArray (cins k l).length) }:=by
 have m:=cmIt.heap h
 have y:=run_underlying (w:=w) (MapT.parts hM.h)
 have q:=hK.ask k l w
 have z:=ZfB (P:=P) (t:=et) (v := .int .i64 0) (w:=w)
 have r:=fun b=>hK.chk b k w
 have p:=hK.stay k w
 obtain⟨c,g⟩:∃ c:Array MapEntry,c=(cent kv 0 l).toArray:=⟨_,rfl⟩
 rw[<- g]at m
 have s:c.toList=cent kv 0 l:=by rw[g]
 simp only[Instr.mapEntry,Sem.run_bind,y,Result.andThen_ok,Zbh (P:=P) m,Sem.run_pure,r,s,q]
 rw[Zll]
 by_cases d:k∈l.map (·.1)
 ·rw[if_pos d,Zlk k l d]
  have f:=Zub kv k 0 l d
  rw[Nat.zero_add]at f
  have a:c[0+cidx k l]?=some ⟨kv k,.int .i64 (cget k l),cidx k l⟩:=by
   rw[g,Nat.zero_add]
   simpa using f
  have j:(c.modify (0+cidx k l) fun e=>({ key:=kv k,val:=e.val,born:=e.born }:MapEntry))=c:=by
   apply Array.ext_getElem?
   intro i
   rw[Array.getElem?_modify]
   split
   ·rename_i n
    subst n
    rw[a]
    rfl
   ·rfl
  have o:(Option.map (fun x:MapEntry=>x.key) c[0+cidx k l]?).getD (kv k)=kv k:=by rw[a];rfl
  simp only[o,Sem.run_bind,p,Result.andThen_ok,j,<- g]
  rw[Nat.zero_add]at a ⊢
  simp[setObj,Sem.run,m,goInt,a]
 ·rw[if_neg d,Zhx k l d,Zqd k l d,ZdW k l d]
  have u:(c.push { key:=kv k,val := .int .i64 0,born:=l.length })=(cent kv 0 (l++[(k,0)])).toArray:=by
   rw[g,Zqh,Nat.zero_add]
   simp[cent]
  rw[<- u]
  simp[z,setObj,Sem.run,m,goInt]
theorem Zri {t b:Nat}{l:List (κ × Int)}{w:World}{s:Nat}(h:(cmIt kv b l).sat w)(k:κ)(v:Int)(g:k∈l.map (·.1))(i:cidx k l=s):(Instr.entryStore t (.map (some b)) (.int .i64 s) (.int .i64 v)).run P w =
  .ok () { w with heap:=w.heap.setIfInBounds b (.map (cent kv 0 (cput k v l)).toArray (cput k v l).length) }:=by
 have c:=cmIt.heap h
 have d:=Zqg kv 0 l s (i▸Zt7 k l g)
 rw[Nat.zero_add]at d
 have f:=Zqe kv k v 0 l g
 rw[i]at f
 have a:((cent kv 0 l).toArray.findIdx? fun e=>(e.born:Int)==(s:Int))=some s:=by rw[List.findIdx?_toArray];exact d
 simp only[Instr.entryStore,Sem.run_bind,Result.andThen_ok,Zbh (P:=P) c,Sem.run_pure,asInt,asIntOf,Sem.run_map,a]
 rw[<- f,ZwZ]
 simp[setObj,Sem.run,c]
theorem Ze2 {t kt et b:Nat}{x f:Operand}{l:List (κ × Int)}{k:κ}{O':List It}[hM:MapT P t kt et][hK:KeyT P kt κ kv][ZeroV P et (.int .i64 0)](j:ev fr x=some (.map (some b)))(h:ev fr f=some (kv k))(e:Upd O (cmIt kv b l) (cmIt kv b (cins k l)) O')
  (m:Kp (.tuple #[.int .i64 (cget k l),.int .i64 (cidx k l)]) O'):Stp P n wr fr O ⟨dst,.mapEntry t x f,ty,pos,af,g⟩ Kp:=by
 refine ZbQ ?_
 intro a w d
 have c:=setC d e
 have i:=Zrj (P:=P) (t:=t) (kt:=kt) (et:=et) (d.own.sat _ e.mem) k
 refine⟨_,_,O',?_,c.1,c.2,m⟩
 simp only[execOp,d.sim.ev j,d.sim.ev h,Sem.run_bind,i,Result.andThen_ok,Sem.run_pure]
theorem Ze1 {t b:Nat}{x h y:Operand}{l:List (κ × Int)}{k:κ}{v:Int}{O':List It}(i:ev fr x=some (.map (some b)))(d:ev fr h=some (.int .i64 (cidx k l)))(j:ev fr y=some (.int .i64 v))(f:Upd O (cmIt kv b (cins k l)) (cmIt kv b (cput k v (cins k l))) O')
  (m:Kp undef O'):Stp P n wr fr O ⟨dst,.entryStore t x h y,ty,pos,af,g⟩ Kp :=
 Zhy fun a w c=>by
  have e:=setC c f
  refine⟨_,O',?_,e.1,e.2,m⟩
  have:=Zri (P:=P) (t:=t) (c.own.sat _ f.mem) k v (Zlj k l) (Zm6 k l)
  simp only[execOp,c.sim.ev i,c.sim.ev d,c.sim.ev j,Sem.run_bind,this,Result.andThen_ok,Sem.run_pure]
end
end Go.Wk
namespace Go.Proofs.YtpipekfmecikmaaGreatDoor
open Go Go.RowKit Go.Wk
def bz (l:List UInt8):ByteArray:=⟨l.toArray⟩
theorem Zqi {a b:List UInt8}(h:bz a=bz b):a=b:=by
 have:=congrArg (fun x:ByteArray=>x.data.toList) h
 simpa[bz] using this
theorem Zuc (l:List UInt8):(bz l).size=l.length:=by simp[bz,ByteArray.size]
def pz (x:Int × List UInt8):Int × ByteArray:=(x.1,bz x.2)
theorem ZAU {a b:Int × List UInt8}(h:pz a=pz b):a=b:=by
 obtain⟨c,a2⟩:=a
 obtain⟨d,e⟩:=b
 simp only[pz,Prod.mk.injEq]at h
 rw[h.1,Zqi h.2]
theorem Zto {α β:Type}{f:α->β}(c:∀ {a b},f a=f b->a=b){x:α}{l:List α}:f x∈l.map f↔x∈l :=
 ⟨fun h=>by obtain⟨y,d,e⟩:=List.mem_map.1 h;exact c e▸d,fun h=>List.mem_map.2 ⟨x,h,rfl⟩⟩
theorem Zf6 {l:List UInt8}(h:Zbs l=true):l.length<=6:=by
 unfold Zbs ZbV at h
 simp only[Bool.and_eq_true,decide_eq_true_eq]at h
 exact h.1.2
theorem ZeR {l:List UInt8}(h:(ZaT l).isSome=true):l.length<=7:=by
 unfold ZaT at h
 cases hg:ZcQ l [3600,60,1] 0 0 with
 | none=>rw[hg]at h;cases h
 | some o =>
  rw[hg]at h
  dsimp only at h
  by_cases a:(l.isEmpty=true\/ZaL (if l.head?=some 45 then -o else o)≠l)
  ·rw[if_pos a]at h;cases h
  ·have:ZaL (if l.head?=some 45 then -o else o)=l:=Decidable.of_not_not fun b=>a (.inr b)
   rw[<- this]
   exact Zee _
theorem ZA4 {f:List UInt8}(h:ZaQ f=1):Zbs f=true:=by
 unfold ZaQ at h
 dsimp only at h
 split at h
 ·assumption
 ·repeat' split at h
  all_goals cases h
theorem ZzZ {f a b:List UInt8}(h:ZaQ f=2)(d:Zbf [47] f []=some (a,b)):a.length<=6/\b.length<=6:=by
 unfold ZaQ at h
 dsimp only at h
 rw[d]at h
 dsimp only at h
 split at h
 ·cases h
 ·split at h
  ·rename_i c
   rw[Bool.and_eq_true]at c
   exact⟨Zf6 c.1,Zf6 c.2⟩
  ·repeat' split at h
   all_goals cases h
theorem ZA2 {f:List UInt8}(h:ZaQ f=5):((ZaT f).isSome||(match Zbf [47] f [] with|some (a,b)=>(ZaT a).isSome&&(ZaT b).isSome|none=>false))=true:=by
 unfold ZaQ at h
 dsimp only at h
 by_cases g:Zbs f=true
 ·rw[if_pos g]at h;omega
 rw[if_neg g]at h
 cases hc:Zbf [47] f [] with
 | none =>
  rw[hc]at h
  dsimp only at h ⊢
  rw[if_neg (by decide)]at h
  by_cases c:(Zbl f).isSome=true
  ·rw[if_pos c]at h;omega
  rw[if_neg c]at h
  by_cases d:f=[37,122]
  ·rw[if_pos d]at h;omega
  rw[if_neg d]at h
  by_cases e:((ZaT f).isSome||false)=true
  ·exact e
  ·rw[if_neg e]at h;omega
 | some x =>
  obtain⟨a,b⟩:=x
  rw[hc]at h
  dsimp only at h ⊢
  by_cases i:(Zbs a&&Zbs b)=true
  ·rw[if_pos i]at h;omega
  rw[if_neg i]at h
  by_cases c:(Zbl f).isSome=true
  ·rw[if_pos c]at h;omega
  rw[if_neg c]at h
  by_cases d:f=[37,122]
  ·rw[if_pos d]at h;omega
  rw[if_neg d]at h
  by_cases e:((ZaT f).isSome||(ZaT a).isSome&&(ZaT b).isSome)=true
  ·exact e
  ·rw[if_neg e]at h;omega
theorem ZrD {f a b:List UInt8}(h:ZcP f=some (a,b)):a.length<=7/\b.length<=7:=by
 unfold ZcP at h
 cases hc:Zbf [47] f [] with
 | none=>rw[hc]at h;cases h
 | some x =>
  obtain⟨g,i⟩:=x
  rw[hc]at h
  dsimp only at h
  split at h
  ·rename_i d
   simp only[Option.some.injEq,Prod.mk.injEq]at h
   obtain⟨rfl,rfl⟩:=h
   have e:=Zm2 hc
   simp only[List.length_nil]at e
   rcases d with d|d
   ·have:=ZzZ d hc;omega
   ·have c:=ZA2 d
    rw[hc]at c
    dsimp only at c
    rw[Bool.or_eq_true,Bool.and_eq_true]at c
    rcases c with c|⟨c,h6⟩
    ·have:=ZeR c;omega
    ·have:=ZeR c
     have:=ZeR h6
     omega
  ·cases h
theorem Znm (f:List UInt8)(g e:Int)(c:List UInt8):(Zdp f g e c).1.length<=7:=by
 unfold Zdp
 cases hp:ZcP f with
 | some x =>
  obtain⟨a,b⟩:=x
  have:=ZrD hp
  dsimp only
  split
  ·exact this.1
  ·exact this.2
 | none =>
  dsimp only
  split
  ·split
   ·split
    ·rename_i i;have:=Zf6 i;dsimp only;omega
    ·simp
   ·simp
  ·split
   ·split
    ·exact Zee _
    ·simp
   ·split
    ·rename_i d
     dsimp only
     rcases d with d|d
     ·have:=Zf6 (ZA4 d);omega
     ·have h:=ZA2 d
      cases hc:Zbf [47] f [] with
      | none =>
       rw[hc,Bool.or_false]at h
       exact ZeR h
      | some x =>
       obtain⟨a,b⟩:=x
       unfold ZcP at hp
       rw[hc]at hp
       dsimp only at hp
       rw[if_pos (.inr d)]at hp
       cases hp
    ·simp
theorem ZlY (x:List UInt8):∀ l:List (List UInt8),ZcZ (l++[x])=ZcZ l+(x.length+1)
 | []=>by simp[ZcZ]
 | y::l=>by rw[List.cons_append,ZcZ,ZcZ,ZlY x l];omega
theorem ZpP:∀ l:List (List UInt8),(∀ x∈l,x.length<=7)->ZcZ l<=8*l.length
 | [],_=>Nat.le_refl _
 | y::l,h=>by
  have b:=h y List.mem_cons_self
  have c:=ZpP l fun x a=>h x (List.mem_cons_of_mem _ a)
  rw[ZcZ,List.length_cons]
  omega
structure FewI (lp:List ((Int × ByteArray) × Int))(la:List (ByteArray × Int))(sz:Int)(acc:List (Int × List UInt8) × List (List UInt8))(t:Nat):Prop where
 kp:lp.map (·.1)=acc.1.map pz
 ka:la.map (·.1)=acc.2.map bz
 cp:ZgS lp t
 ca:ZgS la t
 le:acc.2.length<=t
 ls:∀ x∈acc.2,x.length<=7
 sz:sz=ZcZ acc.2
theorem FewI.nil:FewI [] [] 0 ([],[]) 0:=⟨rfl,rfl,ZgS.nil _,ZgS.nil _,Nat.le_refl _,(fun _ h=>by cases h),rfl⟩
theorem FewI.lim {c:List ((Int × ByteArray) × Int)}{b:List (ByteArray × Int)}{sz:Int}{a:List (Int × List UInt8) × List (List UInt8)}{t:Nat}(h:FewI c b sz a t):0<=sz/\sz<=8*(t:Int):=by
 have d:=ZpP _ h.ls
 have e:=h.le
 rw[h.sz]
 omega
theorem FewI.step {i:List ((Int × ByteArray) × Int)}{f:List (ByteArray × Int)}{sz:Int}{a:List (Int × List UInt8) × List (List UInt8)}{t:Nat}(h:FewI i f sz a t)(o:Int)(x:List UInt8)(k:x.length<=7) :
  FewI (cinc (o,bz x) i) (cinc (bz x) f) (if cget (bz x) f+1=1 then sz+(x.length+1) else sz) (addP (o,x) a.1,addA x a.2) (t+1):=by
 have d:bz x∈f.map (·.1)↔x∈a.2:=by rw[h.ka];exact Zto Zqi
 have g:(o,bz x)∈i.map (·.1)↔(o,x)∈a.1:=by rw[h.kp];show pz (o,x)∈List.map pz a.1↔_;exact Zto ZAU
 refine⟨?_,?_,h.cp.inc _,h.ca.inc _,?_,?_,?_⟩
 ·rw[Zm5,h.kp]
  unfold addP
  rw[h.kp]at g
  by_cases b:(o,x)∈a.1
  ·rw[if_pos (g.2 b),if_pos b]
  ·rw[if_neg (fun e=>b (g.1 e)),if_neg b,List.map_append];rfl
 ·rw[Zm5,h.ka]
  unfold addA
  rw[h.ka]at d
  by_cases b:x∈a.2
  ·rw[if_pos (d.2 b),if_pos b]
  ·rw[if_neg (fun e=>b (d.1 e)),if_neg b,List.map_append];rfl
 ·unfold addA
  have:=h.le
  split
  ·dsimp only;omega
  ·simp;omega
 ·unfold addA
  intro y c
  dsimp only at c
  split at c
  ·exact h.ls y c
  ·rcases List.mem_append.1 c with c|c
   ·exact h.ls y c
   ·rw[List.mem_singleton.1 c];exact k
 ·have j:=h.ca.new (bz x)
  unfold addA
  dsimp only
  by_cases b:x∈a.2
  ·rw[if_pos b,if_neg (fun e=>j.1 e (d.2 b))];exact h.sz
  ·rw[if_neg b,if_pos (j.2 fun e=>b (d.1 e)),ZlY,h.sz];omega
theorem FewI.few {c:List ((Int × ByteArray) × Int)}{d:List (ByteArray × Int)}{sz:Int}{a:List (Int × List UInt8) × List (List UInt8)}{t:Nat}(h:FewI c d sz a t) :
  (decide ((c.length:Int)<=120)&&decide (sz<=250))=(decide (a.1.length<=120)&&decide (ZcZ a.2<=250)):=by
 have b:=congrArg List.length h.kp
 simp only[List.length_map]at b
 rw[b,h.sz]
 congr 1
 ·rw[decide_eq_decide];omega
 ·rw[decide_eq_decide];omega
theorem ZmZ {rs:List DRule}{e:DEra}{b:Bool}(h:Zda rs e b=0):∀ x∈ZaB rs e,ZaW e.off x.1=true:=by
 intro x c
 unfold Zda at h
 split at h
 ·cases h
 ·split at h
  ·cases h
  ·split at h
   ·cases h
   ·split at h
    ·cases h
    ·split at h
     ·cases h
     ·rename_i a
      cases hh:ZaW e.off x.1 with
      | true=>rfl
      | false=>exact absurd (.inr (List.any_eq_true.2 ⟨x,c,by rw[hh];rfl⟩)) a
theorem ZiL {rs:List DRule}{l:List DEra}{i:Nat}:∀ (f k:Nat),Zb1 rs l i f k=none->∀ j,k<=j->j<k+f->Zda rs (l.getD j dE0) (decide (j=0))=0
 | 0,k,_,j,h1,h2=>by omega
 | f+1,k,h,j,h1,h2=>by
  rw[Zb1]at h
  split at h
  ·cases h
  ·rename_i a
   split at h
   ·cases h
   ·by_cases b:j=k
    ·rw[b];exact Decidable.of_not_not a
    ·exact ZiL f (k+1) h j (by omega) (by omega)
theorem Zkb {rs:List DRule}{l:List DEra}{i:Nat}(h:Zb1 rs l i l.length 0=none):∀ e∈l,∀ x∈ZaB rs e,ZaW e.off x.1=true:=by
 intro e a
 obtain⟨j,b,rfl⟩:=List.mem_iff_getElem.1 a
 have:=ZiL l.length 0 h j (Nat.zero_le _) (by omega)
 rw[List.getD_eq_getElem?_getD,List.getElem?_eq_getElem b]at this
 exact ZmZ this
attribute [local irreducible] W RL Does Zat Zaj retQ Calls Pu Stp RD Qy Ay Zak
def pEnc (x:Int × ByteArray):List Value:=[.int .i64 x.1,.string x.2]
def pkV (x:Int × ByteArray):Value := .agg (pEnc x).toArray
instance : EqE Tryz.prog 266 (Int × ByteArray) pEnc where
 h r s w:=by
  unfold pEnc
  simp[go_sem,Zcc]
  rcases r with⟨_,_⟩
  rcases s with⟨_,_⟩
  simp only[Zh9,Result.ok.injEq,and_true]
  rw[Bool.eq_iff_iff]
  simp
 g:=by kernel_rfl
theorem pk_asking (k : Int × ByteArray) (w : World) : ∀ (l : List ((Int × ByteArray) × Int)) (i j : Nat), (Instr.findAsking 266 (pkV k) (cent pkV j l) i).run Tryz.prog w = .ok (Zw2 k l i) w
  | [], _, _ => rfl
  | x :: l, i, j => by
    have h := EqE.h (P := Tryz.prog) (t := 266) (enc := pEnc) k x.1 w
    rw [cent, Instr.findAsking, Zw2]
    simp only [pkV, Op.equal, Op.maxDepth] at h ⊢
    simp only [Sem.run_bind, h, Result.andThen_ok]
    by_cases hk : k = x.1
    · rw [decide_eq_true hk, if_pos hk]; rfl
    · rw [decide_eq_false hk, if_neg hk]
      have ih := pk_asking k w l (i + 1) (j + 1)
      simp only [pkV] at ih
      simpa using ih
theorem pk_check' (b : Bool) (k : Int × ByteArray) (d : Nat) (w : World) : (Instr.checkKey b (d + 1 + 1) 266 (.agg (pEnc k).toArray)).run Tryz.prog w = .ok () w := by
  simp [Instr.checkKey, go_sem, pEnc]
instance : KeyT Tryz.prog 266 (Int × ByteArray) pkV where
  ask k l w := by
    cases l with
    | nil => simp [Instr.findKey, go_sem, cent, Instr.findNow, Zw2]
    | cons x l =>
      have h := pk_asking k w (x :: l) 0 0
      simp only [cent] at h ⊢
      simp [Instr.findKey, go_sem, Instr.findNow, Instr.sameNow, pkV]
      exact h
  chk b k w := pk_check' b k 9998 w
  stay k w := by simp [Instr.keyThatStays, Instr.sameBits, pkV, pEnc, Znf]
def toM (l:List (ByteArray × Int)):List (ByteArray × Value):=l.map fun x=>(x.1,Value.int .i64 x.2)
theorem ZnZ (k:ByteArray):∀ l:List (ByteArray × Int),(mget (toM l) k).getD (.int .i64 0) = .int .i64 (cget k l)
 | []=>rfl
 | x::l=>by
  have a:=ZnZ k l
  unfold toM at a ⊢
  rw[List.map_cons,mget,cget]
  by_cases h:k=x.1
  ·rw[if_pos h,if_pos h];rfl
  ·rw[if_neg h,if_neg h];exact a
theorem ZhN (k:ByteArray)(v:Int):∀ l:List (ByteArray × Int),mset (toM l) k (.int .i64 v)=toM (cput k v (cins k l))
 | []=>by simp[toM,mset,cins,cput]
 | x::l=>by
  have a:=ZhN k v l
  unfold toM at a ⊢
  rw[List.map_cons,mset,cins]
  by_cases h:k=x.1
  ·rw[if_pos h,if_pos h,cput,if_pos h];rfl
  ·rw[if_neg h,if_neg h,cput,if_neg h,a];rfl
theorem Zck {P:Program}{n:Nat}{wr:World}{fr:Fr}{O:List It}{ty:TypeId}{pos:String}{af:Array Edge}{a:Option Tmp}{g:Option (Nat × Bool)}{Kp:Value->List It->Prop}
  {t kt et b:Nat} {x c y:Operand} {m d:List (ByteArray × Value)} {k:ByteArray} {v:Value} {O':List It} [hM:MapT P t kt et] [StringT P kt] (i:ev fr x=some (.map (some b))) (e:ev fr c=some (.string k)) (j:ev fr y=some v) (f:mset m k v=d)
  (h:Upd O (.mp b m) (.mp b d) O') (l:Kp undef O'):Stp P n wr fr O ⟨a,.mapUpdate t x c y,ty,pos,af,g⟩ Kp:=Stp_mapUpdate i e j (f▸h) l
theorem Zeg (rs:List DRule)(e:DEra):(ZaB rs e).length<=rs.length+1:=by
 unfold ZaB
 have:=Zeh rs e
 split
 ·simp
 ·split
  ·rw[List.length_map];omega
  ·simp
theorem ZgV {rs:List DRule}{e:DEra}(b:∀ r∈rs,r.letter.size<=1000000000):∀ x∈ZaB rs e,x.2.size<=1000000000:=by
 intro x a
 unfold ZaB at a
 split at a
 ·simp only[List.mem_singleton]at a;subst a;exact Nat.zero_le _
 ·split at a
  ·obtain⟨r,h,rfl⟩:=List.mem_map.1 a
   exact b r (Zdv h)
  ·simp only[List.mem_singleton]at a;subst a;exact Nat.zero_le _
structure FwG where
 k:Nat
 lp:List ((Int × ByteArray) × Int)
 la:List (ByteArray × Int)
 sz:Int
 acc:List (Int × List UInt8) × List (List UInt8)
 t:Nat
theorem Zjn {G:Prop}(h:G:=by(first|(apply ZaG;rfl;rfl;omega;omega;(intro w' _ hO;exact(Za2 (hO.of (A := .row (.slice A5 S.length c5) 155 2 S.length (S.flatMap Za1)) (by repeat' constructor)) hg1).1))|(apply Zb8;rfl;(focus repeat' constructor);exact hgn;rfl)|(apply Zxj (kv:=pkV) (k:=(e.off+x.1,bz ab));rfl;rfl;(focus repeat' constructor);first|exact rfl|exact Zm8 _ _)|(apply ZgP;rfl;rfl;(focus repeat' constructor);first|exact ZnZ _ la|exact hl2)|(apply Zap;rfl;rfl;exact hb))):G:=h
theorem Zpb {G:Prop}(h:G:=by first|(apply Qy_y;rfl;exact Zjn)|exact QyA):G:=h
theorem ZuR {G:Prop}(h:G:=by repeat (first|exact QF.nil|(apply QF.mk;rfl;rfl;decide +kernel;exact Zpb))):G:=h
theorem ZlE {G:Prop}(h:G:=by(first|(apply ZAI (kv:=pkV);rfl;(focus repeat' constructor))|(apply ZbF;rfl;rfl;exact b1))):G:=h
set_option maxHeartbeats 2000000 in
theorem Zuo (Ar Az Al As:Option Addr)(K L J cs:Nat)(a:DSource)(z:DZone)(Ae:Option Addr)(W:Nat)(w:World)(hL:LibW w)(hA:Zal w Ar Az Al As K L J cs a)(hE:RdSl w Ae W DEra.enc 13 z.eras)(hS:ZcX a)(hV:ZgJ a)(hel:z.eras.length<=1000000)
  (hZ:∀ e∈z.eras,Zjs e) (hH:∀ e∈z.eras,∀ x∈ZaB a.rules e,ZaW e.off x.1=true) :
  Does Tryz.prog 184 [srcV Ar Az Al As K L J cs a,.agg #[.string z.name,.slice Ae z.eras.length W]] w (fun v O=>v = .bool (ZeA a.rules z)/\O=[]):=by
 have hn:=hS.nr
 unfold ZeA
 obtain⟨R,Z⟩:∃ R,erGo a.rules z.eras ([],[])=R:=⟨_,rfl⟩
 rw[Z]
 refine Zaa Tryz.func184 rfl rfl rfl rfl ?_
 repeat (first|refine walk ?_|(refine jn ?_;(try intro F);(first|(apply Zuw (t:=264) pkV;intro c)|(refine bx ?_;intro c)|(refine stA ?_)|(apply Zad;exact PuA));refine fin ?_)|(apply RD_W;rfl;intro c))
 rename_i b1 b2 U
 generalize c=ba
 refine Zai [(2,.pointer (some ⟨b1,0,none⟩)),(5,.map (some U)),(6,.map (some ba)),(17,.slice Ae z.eras.length W),(18,.int .i64 z.eras.length)] [.blk b1 [.slice Ar a.rules.length K,.slice Az a.zones.length L,.slice Al a.links.length J,.slice As a.shifts.length cs] 174]
  (fun g:FwG=>[(7,.int .i64 g.sz),(19,.int .i64 g.k)]) (fun g=>[cmIt pkV U g.lp,.mp ba (toM g.la)]) (fun g=>g.k<=z.eras.length/\FewI g.lp g.la g.sz g.acc g.t/\g.t<=g.k*2000000/\erGo a.rules (z.eras.drop g.k) g.acc=R)
  (fun g=>z.eras.length - g.k) ⟨0,[],[],0,([],[]),0⟩ SFA SOA ⟨Nat.zero_le _,FewI.nil,Nat.le_refl _,Z⟩ ?_
 clear Z
 rintro⟨k,lp,la,sz,acc,t⟩ ⟨hk,hI,ht,hi⟩
 dsimp only at hk hI ht hi ⊢
 repeat (first|refine walk ?_|(refine jn ?_;(try intro F);(first|(refine bx ?_;intro c)|(refine stA ?_)|(apply Zad;exact PuA));refine fin ?_)|(apply RD_W;rfl;intro c))
 refine Zaf rfl (fun I=>?_) (fun I=>?_)
 ·simp only[decide_eq_true_eq,Int.ofNat_lt]at I
  obtain⟨hna,hca⟩:=hE.rd k _ (List.getElem?_eq_getElem I)
  have D:=List.getElem_mem I
  rw[Zah I,erGo]at hi
  generalize z.eras[k]=e at *
  have hSl:=Zeg a.rules e
  have N:=ZgV (e:=e) fun r hr=>(hS.rs r hr).2
  have X:=Zfm (e:=e) (fun r h=>hV.i64 r h) (hZ e D).save
  have Q:=fun w' (T:Bel w.heap.size w w')=>ZhQ Ar Az Al As K L J cs a e w' (hA.up T) hn
  have M:=hZ e D
  have Y:=hH e D
  generalize ZaB a.rules e=S at *
  obtain⟨R2,y⟩:∃ R2,stGo e S acc=R2:=⟨_,rfl⟩
  rw[y]at hi
  simp only[DEra.enc]at Q hca
  repeat (first|(apply RL_pu;rfl;exact PuI)|(apply RD_Q;rfl;rfl;decide +kernel;rfl;rfl;exact QyI)|refine walk1 ?_|(refine jg ?_;(try intro F);(first|(apply Zae (h:=fun w' T _=>Q w' T);rfl;rintro v O' ⟨A5,c5,rfl,rfl⟩)|(refine bx ?_;intro c)|(refine stA ?_));first|refine⟨_,EndsA,QFI,?_⟩|refine fin ?_)|(refine jn ?_;(try intro F);(first|(refine bx ?_;intro c)|(refine stA ?_)|(apply Zad;first|exact PuI|exact PuA));first|refine⟨_,EndsA,QFI,?_⟩|refine fin ?_)|(apply RD_W;rfl;intro c))
  generalize c=b9
  refine Zai [(2,.pointer (some ⟨b1,0,none⟩)),(5,.map (some U)),(6,.map (some ba)),(9,.pointer (some ⟨b9,0,none⟩)),(17,.slice Ae z.eras.length W),(18,.int .i64 z.eras.length),(19,.int .i64 k),(25,.slice A5 S.length c5),(26,.int .i64 S.length)]
   [.blk b1 [.slice Ar a.rules.length K,.slice Az a.zones.length L,.slice Al a.links.length J,.slice As a.shifts.length cs] 174,.blk b9 [.int .i64 e.off,.int .i64 e.kind,.int .i64 e.save,.string e.set,.string e.format,.bool e.til.is,.int .i64 e.til.year,.int .i64 e.til.month,.int .i64 e.til.day.kind,.int .i64 e.til.day.week,.int .i64 e.til.day.day,.int .i64 e.til.at_.sec,.int .i64 e.til.at_.base] 75,.row (.slice A5 S.length c5) 155 2 S.length (S.flatMap Za1)]
   (fun g:FwG=>[(7,.int .i64 g.sz),(27,.int .i64 g.k)]) (fun g=>[cmIt pkV U g.lp,.mp ba (toM g.la)]) (fun g=>g.k<=S.length/\FewI g.lp g.la g.sz g.acc g.t/\g.t<=k*2000000+g.k/\stGo e (S.drop g.k) g.acc=R2)
   (fun g=>S.length - g.k) ⟨0,lp,la,sz,acc,t⟩ SFA SOA ⟨Nat.zero_le _,hI,Nat.le_trans ht (Nat.le_add_right _ _),y⟩ ?_
  clear y hI ht lp la sz acc t
  rintro⟨j,lp,la,sz,acc,t⟩ ⟨hj,hI,ht,hi2⟩
  dsimp only at hj hI ht hi2 ⊢
  repeat (first|refine walk ?_|(refine jn ?_;(try intro F);(first|(refine bx ?_;intro c)|(refine stA ?_)|(apply Zad;exact PuA));refine fin ?_)|(apply RD_W;rfl;intro c))
  refine Zaf rfl (fun m=>?_) (fun m=>?_)
  ·simp only[decide_eq_true_eq,Int.ofNat_lt]at m
   have hg1:=ZaC Za1.len S j _ 0 _ (List.getElem?_eq_getElem m) rfl
   have hgn:∀ i v,(Za1 S[j])[i]?=some v->(S.flatMap Za1)[j*2+i]?=some v:=fun i v hv=>ZaC Za1.len S j _ i v (List.getElem?_eq_getElem m) hv
   have H:=List.getElem_mem m
   rw[Zah m,stGo]at hi2
   generalize S[j]=x at *
   have f:=fun w' (T:Bel w.heap.size w w')=>Zgz e.format x.2 e.off x.1 w' (hL.up T) M.fmt (N x H) M.off (X x H)
   have hal:=Znm e.format.data.toList e.off x.1 x.2.data.toList
   have E:=Y x H
   unfold ZaW at E
   simp only[Bool.and_eq_true,decide_eq_true_eq]at E
   obtain⟨hh1,hh2⟩:=E
   generalize Zdp e.format.data.toList e.off x.1 x.2.data.toList=abr at *
   obtain⟨ab,er⟩:=abr
   dsimp only at hi2 hal
   replace f:∀ w',Bel w.heap.size w w'->Does Tryz.prog 99 [.string e.format,.int .i64 e.off,.agg #[.int .i64 x.1,.string x.2]] w' (fun v O=>v = .tuple #[.string (bz ab),.int .i64 er]/\O=[]):=f
   simp only[Za1]at hgn hg1
   have hcp:=hI.cp.get (e.off+x.1,bz ab)
   have hcq:=hI.ca.get (bz ab)
   have hsz:=Zuc ab
   have hlim:=hI.lim
   have s:=hI.step (e.off+x.1) ab hal
   have hl2:(mget (toM (cput (bz ab) (cget (bz ab) la+1) (cins (bz ab) la))) (bz ab)).getD (.int .i64 0) = .int .i64 (cget (bz ab) la+1):=(ZnZ _ _).trans (by rw[Zm7 _ _ _ (Zlj _ _)])
   by_cases q:cget (bz ab) la+1=1
   ·rw[if_pos q]at s
    have hb:decide (cget (bz ab) la+1=1)=true:=decide_eq_true q
    repeat (first|(apply RL_pu;rfl;exact Zjn)|(refine js ?_;(first|(refine Zab f ?_)|(apply Ze2 (kv:=pkV) (k:=(e.off+x.1,bz ab)) (l:=lp);rfl;rfl;(focus repeat' constructor))|(apply Ze1 (kv:=pkV) (k:=(e.off+x.1,bz ab)) (l:=lp);rfl;rfl;rfl;(focus repeat' constructor))|(apply Zck;rfl;rfl;rfl;exact ZhN _ _ la;(focus repeat' constructor))|(refine bx ?_;intro c)))|(apply RD_Q;rfl;rfl;decide +kernel;rfl;rfl;exact Zpb)|refine walk1 ?_|(refine Zdc ?_;intro F;(refine Zab f ?_);refine⟨_,EndsA,SubO.right _ _,?_⟩)|(refine RD_Lw ?_;intro F;(first|(refine Zab f ?_)|(apply Ze2 (kv:=pkV) (k:=(e.off+x.1,bz ab)) (l:=lp);rfl;rfl;(focus repeat' constructor))|(apply Ze1 (kv:=pkV) (k:=(e.off+x.1,bz ab)) (l:=lp);rfl;rfl;rfl;(focus repeat' constructor))|(apply Zck;rfl;rfl;rfl;exact ZhN _ _ la;(focus repeat' constructor))|(refine bx ?_;intro c)|(refine stA ?_)|(apply Zad;first|exact Zjn|exact PuA));refine⟨_,EndsA,ZuR,?_⟩)|(apply RD_W;rfl;intro c))
    exact⟨⟨j+1,cinc (e.off+x.1,bz ab) lp,cinc (bz ab) la,sz+(((bz ab).size:Int)+1),_,t+1⟩,OA,⟨OA,by dsimp only;rw[hsz];exact s,OA,hi2⟩,SFA,SOA⟩
   ·rw[if_neg q]at s
    have hb:decide (cget (bz ab) la+1=1)=false:=decide_eq_false q
    repeat (first|(apply RL_pu;rfl;exact Zjn)|(refine js ?_;(first|(refine Zab f ?_)|(apply Ze2 (kv:=pkV) (k:=(e.off+x.1,bz ab)) (l:=lp);rfl;rfl;(focus repeat' constructor))|(apply Ze1 (kv:=pkV) (k:=(e.off+x.1,bz ab)) (l:=lp);rfl;rfl;rfl;(focus repeat' constructor))|(apply Zck;rfl;rfl;rfl;exact ZhN _ _ la;(focus repeat' constructor))|(refine bx ?_;intro c)))|(apply RD_Q;rfl;rfl;decide +kernel;rfl;rfl;exact Zpb)|refine walk1 ?_|(refine Zdc ?_;intro F;(refine Zab f ?_);refine⟨_,EndsA,SubO.right _ _,?_⟩)|(refine RD_Lw ?_;intro F;(first|(refine Zab f ?_)|(apply Ze2 (kv:=pkV) (k:=(e.off+x.1,bz ab)) (l:=lp);rfl;rfl;(focus repeat' constructor))|(apply Ze1 (kv:=pkV) (k:=(e.off+x.1,bz ab)) (l:=lp);rfl;rfl;rfl;(focus repeat' constructor))|(apply Zck;rfl;rfl;rfl;exact ZhN _ _ la;(focus repeat' constructor))|(refine bx ?_;intro c)|(refine stA ?_)|(apply Zad;first|exact Zjn|exact PuA));refine⟨_,EndsA,ZuR,?_⟩)|(apply RD_W;rfl;intro c))
    exact⟨⟨j+1,cinc (e.off+x.1,bz ab) lp,cinc (bz ab) la,sz,_,t+1⟩,OA,⟨OA,s,OA,hi2⟩,SFA,SOA⟩
  ·simp only[decide_eq_false_iff_not,Int.ofNat_lt]at m
   rw[List.drop_eq_nil_of_le (by omega),stGo]at hi2
   subst hi2
   repeat (first|refine walk ?_|(refine jn ?_;(try intro F);(first|(refine bx ?_;intro c)|(refine stA ?_)|(apply Zad;exact PuA));refine fin ?_)|(apply RD_W;rfl;intro c))
   exact⟨⟨k+1,lp,la,sz,acc,t⟩,OA,⟨OA,hI,OA,hi⟩,SFA,SOA⟩
 ·simp only[decide_eq_false_iff_not,Int.ofNat_lt]at I
  rw[List.drop_eq_nil_of_le (by omega),erGo]at hi
  subst hi
  rw[<- hI.few]
  by_cases u:(lp.length:Int)<=120
  ·have b1:decide ((lp.length:Int)<=120)=true:=decide_eq_true u
   rw[b1]
   repeat (first|(apply RL_pu;rfl;exact ZlE)|(apply RD_Q;rfl;rfl;decide +kernel;rfl;rfl;exact QyFewB1)|refine walk1 ?_|(refine jn ?_;(try intro F);(first|(refine bx ?_;intro c)|(refine stA ?_)|(apply Zad;first|exact ZlE|exact PuA));first|refine⟨_,EndsA,QFFewB1,?_⟩|refine fin ?_)|(apply RD_W;rfl;intro c))
   exact rtA
  ·have b1:decide ((lp.length:Int)<=120)=false:=decide_eq_false u
   rw[b1]
   repeat (first|refine und ?_|(apply RL_pu;rfl;exact ZlE)|(apply RD_Q;rfl;rfl;decide +kernel;rfl;rfl;exact QyFewB1)|refine walk1 ?_|(refine jn ?_;(try intro F);(first|(refine bx ?_;intro c)|(refine stA ?_)|(apply Zad;first|exact ZlE|exact PuA));first|refine⟨_,EndsA,QFFewB1,?_⟩|refine fin ?_)|(apply RD_W;rfl;intro c))
   exact rtA
structure ZnG where
 k:Nat
 p:Int
theorem ZvY {G:Prop}(h:G:=by(first|exact PuI|(apply Zap;rfl;rfl;exact hb))):G:=h
theorem ZvX {G:Prop}(h:G:=by(first|exact PuI|(apply Zap;rfl;rfl;exact hbk))):G:=h
theorem ZvW {G:Prop}(h:G:=by(first|exact ZvX|(apply Zan;rfl;rfl;exact hb2))):G:=h
set_option maxHeartbeats 2000000 in
theorem Zo3 (Ar Az Al As:Option Addr)(B r A cs:Nat)(a:DSource)(w:World)(hL:LibW w)(hG:Glob w)(T:Zal w Ar Az Al As B r A cs a)(I:ZcX a)(V:ZgJ a)(hZ:∀ z∈a.zones,∀ e∈z.eras,Zjs e) :
  Does Tryz.prog 117 [srcV Ar Az Al As B r A cs a] w (fun v O=>v=ptV (Za8 a.rules a.zones 0)/\O=[]):=by
 have hnz:=I.nz
 obtain⟨D,q⟩:∃ D,Za8 a.rules a.zones 0=D:=⟨_,rfl⟩
 rw[q]
 refine Zaa Tryz.func117 rfl rfl rfl rfl ?_
 repeat (first|(refine js ?_;(refine bx ?_;intro j))|refine walk ?_)
 rename_i M
 obtain⟨E,hb2⟩:∃ E,j=E:=⟨_,rfl⟩
 rw[hb2]
 clear hb2 j
 refine Zai [(1,.pointer (some ⟨M,0,none⟩)),(2,.pointer (some ⟨E,0,none⟩)),(13,.slice Az a.zones.length r),(14,.int .i64 a.zones.length)] [.blk E [.int .i64 0,.int .i64 0,.int .i64 0] 138,.blk M [.slice Ar a.rules.length B,.slice Az a.zones.length r,.slice Al a.links.length A,.slice As a.shifts.length cs] 174]
  (fun k:Nat=>[(15,.int .i64 k)]) (fun _=>[]) (fun k=>k<=a.zones.length/\Za8 a.rules (a.zones.drop k) k=D) (fun k=>a.zones.length - k) 0 SFA SOA ⟨Nat.zero_le _,q⟩ ?_
 clear q
 rintro i ⟨hil,c⟩
 repeat (first|(refine js ?_;(refine bx ?_;intro j))|refine walk ?_)
 refine Zaf rfl (fun F=>?_) (fun F=>?_)
 ·simp only[decide_eq_true_eq,Int.ofNat_lt]at F
  obtain⟨hna,cs1,⟨Ae,H,C,rfl⟩,hca⟩:=T.z i _ (List.getElem?_eq_getElem F)
  have m:=List.getElem_mem F
  rw[Zah F,Za8]at c
  generalize a.zones[i]=z at *
  have K:=(I.zs z m).2.1
  by_cases y:z.eras=[]
  ·rw[if_pos y]at c
   subst c
   have hb:decide ((z.eras.length:Int)=0)=true:=by rw[y];rfl
   simp only[ptV,plV,Zaq.enc]
   repeat (first|(apply RL_pu;rfl;exact ZvY)|(refine js ?_;(refine bx ?_;intro j))|refine walk1 ?_)
   exact rtC
  have hb:decide ((z.eras.length:Int)=0)=false:=decide_eq_false (fun h=>y (List.eq_nil_of_length_eq_zero (by omega)))
  rw[if_neg y]at c
  obtain⟨U,x⟩:∃ U,Zb1 a.rules z.eras i z.eras.length 0=U:=⟨_,rfl⟩
  rw[x]at c
  have u:U=none->∀ w',Bel w.heap.size w w'->Does Tryz.prog 184 [srcV Ar Az Al As B r A cs a,.agg #[.string z.name,.slice Ae z.eras.length H]] w' (fun v O=>v = .bool (ZeA a.rules z)/\O=[]):=fun hn w' s =>
   Zuo Ar Az Al As B r A cs a z Ae H w' (hL.up s) (T.up s) (C.up s) I V K (fun e he=>hZ z m e he) (Zkb (x.trans hn))
  generalize ZeA a.rules z=fw at *
  repeat (first|(apply RL_pu;rfl;exact ZvY)|(refine js ?_;(refine bx ?_;intro j))|refine walk1 ?_)
  rename_i Z
  obtain⟨N,J⟩:∃ N,j=N:=⟨_,rfl⟩
  rw[J]
  clear J j
  refine Zai [(1,.pointer (some ⟨M,0,none⟩)),(2,.pointer (some ⟨E,0,none⟩)),(4,.int .i64 i),(5,.pointer (some ⟨Z,0,none⟩)),(6,.pointer (some ⟨N,0,none⟩)),(13,.slice Az a.zones.length r),(14,.int .i64 a.zones.length),(15,.int .i64 i),(28,.slice Ae z.eras.length H),(29,.int .i64 z.eras.length)] [.blk Z [.string z.name,.slice Ae z.eras.length H] 71,.blk E [.int .i64 0,.int .i64 0,.int .i64 0] 138,.blk M [.slice Ar a.rules.length B,.slice Az a.zones.length r,.slice Al a.links.length A,.slice As a.shifts.length cs] 174]
   (fun g:ZnG=>[(30,.int .i64 g.k)]) (fun g=>[.blk N [.int .i64 2,.int .i64 i,.int .i64 g.p] 138]) (fun g=>g.k<=z.eras.length/\Zb1 a.rules z.eras i (z.eras.length - g.k) g.k=U) (fun g=>z.eras.length - g.k) ⟨0,0⟩ SFA SOA ⟨Nat.zero_le _,x⟩ ?_
  clear x
  rintro⟨k,p⟩ ⟨hkl,hi2⟩
  dsimp only at hkl hi2 ⊢
  repeat (first|(refine js ?_;(refine bx ?_;intro j))|refine walk ?_)
  refine Zaf rfl (fun d=>?_) (fun d=>?_)
  ·simp only[decide_eq_true_eq,Int.ofNat_lt]at d
   clear hna hca
   obtain⟨hna,hca⟩:=C.rd k _ (List.getElem?_eq_getElem d)
   have W:=List.getElem_mem d
   have X:z.eras.getD k dE0=z.eras[k]:=by rw[List.getD_eq_getElem?_getD,List.getElem?_eq_getElem d];rfl
   obtain⟨f,hf⟩:∃ f,z.eras.length - k=f+1:=⟨z.eras.length - k - 1,by omega⟩
   rw[hf,Zb1,X]at hi2
   generalize z.eras[k]=e at *
   have hbk:decide ((k:Int)=0)=decide (k=0):=by rw[decide_eq_decide];omega
   generalize decide (k=0)=fst at *
   have t:=fun w' (s:Bel w.heap.size w w')=>Ztv Ar Az Al As B r A cs a e fst w' (hL.up s) (T.up s) I V (hZ z m e W)
   have L:=fun w' (s:Bel w.heap.size w w')=>Ztw Ar Az Al As B r A cs a Ae H z.eras k w' (hG.up s) (T.up s) I V (C.up s) K d
   generalize Zda a.rules e fst=ec at *
   generalize ZcS a.rules z.eras k=nc at *
   obtain⟨off,kind,save,set,Q,⟨is,year,Y,⟨dk,dw,dd⟩,⟨us,ub⟩⟩⟩:=e
   simp only[DEra.enc]at t hca
   by_cases R:ec=0
   ·rw[if_neg (fun h=>h R)]at hi2
    subst R
    by_cases S:nc=0
    ·rw[if_neg (fun h=>h S)]at hi2
     subst S
     repeat (first|(apply RL_pu;rfl;exact ZvX)|(refine js ?_;(first|(refine Zab t ?_)|(refine Zab L ?_)|(refine bx ?_;intro j)))|refine walk1 ?_)
     exact⟨⟨k+1,k⟩,OA,⟨OA,by dsimp only;rw[show z.eras.length - (k+1)=f by omega];exact hi2⟩,SFA,SOA⟩
    ·rw[if_pos S]at hi2
     subst hi2
     dsimp only at c
     subst c
     have hb2:(!decide (nc=0))=true:=by rw[decide_eq_false S];rfl
     simp only[ptV,plV,Zaq.enc]
     repeat (first|(apply RL_pu;rfl;exact ZvW)|(refine js ?_;(first|(refine Zab t ?_)|(refine Zab L ?_)|(refine bx ?_;intro j)))|refine walk1 ?_)
     exact rtC
   ·rw[if_pos R]at hi2
    subst hi2
    dsimp only at c
    subst c
    have hb2:(!decide (ec=0))=true:=by rw[decide_eq_false R];rfl
    simp only[ptV,plV,Zaq.enc]
    repeat (first|(apply RL_pu;rfl;exact ZvW)|(refine js ?_;(first|(refine Zab t ?_)|(refine bx ?_;intro j)))|refine walk1 ?_)
    exact rtC
  ·simp only[decide_eq_false_iff_not,Int.ofNat_lt]at d
   rw[show z.eras.length - k=0 by omega,Zb1]at hi2
   subst hi2
   replace u:=u rfl
   dsimp only at c
   cases fw with
   | false =>
    rw[if_pos rfl]at c
    subst c
    simp only[ptV,plV,Zaq.enc]
    repeat (first|(refine js ?_;(first|(refine Zab u ?_)|(refine bx ?_;intro j)))|refine walk ?_)
    exact rtC
   | true =>
    rw[if_neg (by decide)]at c
    repeat (first|(refine js ?_;(first|(refine Zab u ?_)|(refine bx ?_;intro j)))|refine walk ?_)
    exact⟨i+1,OA,⟨OA,c⟩,SFA,SOA⟩
 ·simp only[decide_eq_false_iff_not,Int.ofNat_lt]at F
  rw[List.drop_eq_nil_of_le (by omega),Za8]at c
  subst c
  repeat (first|(refine js ?_;(refine bx ?_;intro j))|refine walk ?_)
  exact rtC
end Go.Proofs.YtpipekfmecikmaaGreatDoor
