/- Parts of the proof. -/
import Derived.Test.YtbjomhdhkpgbaaaGreatDoorY09
import Derived.Test.YtbjomhdhkpgbaaaGreatDoorY12
import Derived.Test.YtbjomhdhkpgbaaaGreatDoorY19
import Derived.Test.YtbjomhdhkpgbaaaGreatDoorY05
set_option maxHeartbeats 4000000
set_option linter.unusedVariables false
set_option linter.unusedSimpArgs false
namespace Go.Wk
open Go Go.RowKit
section
variable {κ : Type}
def cent (kv : κ -> Value) : Nat -> List (κ × Int) -> List MapEntry
 | _, [] => []
 | i, x :: l => ⟨kv x.1, .int .i64 x.2, i⟩ :: cent kv (i + 1) l
def Zhe (l : List (κ × Int)) (t : Nat) : Prop := ∀ x ∈ l, 1 <= x.2 /\ x.2 <= (t : Int)
theorem Zhe.nil (t : Nat) : Zhe ([] : List (κ × Int)) t := fun _ h => by cases h
theorem ZqH (kv : κ -> Value) : ∀ (i : Nat) (l : List (κ × Int)), (cent kv i l).length = l.length
 | _, [] => rfl
 | i, x :: l => by unfold cent; rw [List.length_cons, List.length_cons, ZqH kv (i + 1) l]
theorem ZqJ (kv : κ -> Value) : ∀ (i : Nat) (a b : List (κ × Int)), cent kv i (a ++ b) = cent kv i a ++ cent kv (i + a.length) b
 | _, [], _ => rfl
 | i, x :: a, b => by
  rw [List.cons_append]
  unfold cent
  rw [ZqJ kv (i + 1) a b, List.cons_append, List.length_cons, show i + 1 + a.length = i + (a.length + 1) by omega]
  cases b <;> rfl
theorem ZqI (kv : κ -> Value) : ∀ (i : Nat) (l : List (κ × Int)) (s : Nat), s < l.length -> (cent kv i l).findIdx? (fun e => (e.born : Int) == ((i + s : Nat) : Int)) = some s
 | _, [], _, h => by simp at h
 | i, x :: l, 0, _ => by unfold cent; rw [List.findIdx?_cons]; simp
 | i, x :: l, s + 1, h => by
  unfold cent
  rw [List.findIdx?_cons]
  have hne : ((i : Int) == ((i + (s + 1) : Nat) : Int)) = false := by simp; omega
  dsimp only
  rw [hne]
  have := ZqI kv (i + 1) l s (by simpa using h)
  rw [show i + 1 + s = i + (s + 1) by omega] at this
  rw [this]
  rfl
def cmIt (kv : κ -> Value) (b : Nat) (l : List (κ × Int)) : It := .fact (fun i => i = b) fun w => w.heap[b]? = some (.map (cent kv 0 l).toArray l.length)
theorem cmIt.heap {kv : κ -> Value} {b : Nat} {l : List (κ × Int)} {w : World} (h : (cmIt kv b l).sat w) : w.heap[b]? = some (.map (cent kv 0 l).toArray l.length) := h w fun _ _ => rfl
theorem cmIt.mk {kv : κ -> Value} {b : Nat} {l : List (κ × Int)} {w : World} (h : w.heap[b]? = some (.map (cent kv 0 l).toArray l.length)) : (cmIt kv b l).sat w := fun _ ha => (ha b rfl).trans h
end
section
variable {κ : Type} [DecidableEq κ]
def ZoO (k : κ) : List (κ × Int) -> Nat -> Option (Nat × Value)
 | [], _ => none
 | x :: l, i => if k = x.1 then some (i, .int .i64 x.2) else ZoO k l (i + 1)
def cget (k : κ) : List (κ × Int) -> Int
 | [] => 0
 | x :: l => if k = x.1 then x.2 else cget k l
def cins (k : κ) : List (κ × Int) -> List (κ × Int)
 | [] => [(k, 0)]
 | x :: l => if k = x.1 then x :: l else x :: cins k l
def cidx (k : κ) : List (κ × Int) -> Nat
 | [] => 0
 | x :: l => if k = x.1 then 0 else cidx k l + 1
def cput (k : κ) (v : Int) : List (κ × Int) -> List (κ × Int)
 | [] => []
 | x :: l => if k = x.1 then (k, v) :: l else x :: cput k v l
theorem Zll (k : κ) : ∀ (l : List (κ × Int)) (i : Nat), ZoO k l i = if k ∈ l.map (·.1) then some (i + cidx k l, .int .i64 (cget k l)) else none
 | [], _ => rfl
 | x :: l, i => by
  unfold ZoO cidx cget
  by_cases h : k = x.1
  ·rw [if_pos h, if_pos h, if_pos h, if_pos (by rw [h]; simp)]; rfl
  ·rw [if_neg h, if_neg h, if_neg h, Zll k l (i + 1)]
   by_cases hm : k ∈ l.map (·.1)
   ·rw [if_pos hm, if_pos (show k ∈ (x :: l).map (·.1) from List.mem_cons_of_mem _ hm)]
    congr 2
    omega
   ·rw [if_neg hm, if_neg (show k ∉ (x :: l).map (·.1) from fun hh => (List.mem_cons.1 hh).elim h hm)]
theorem Zlh (k : κ) : ∀ l : List (κ × Int), k ∈ l.map (·.1) -> cins k l = l
 | [], h => by cases h
 | x :: l, h => by
  unfold cins
  by_cases e : k = x.1
  ·rw [if_pos e]
  ·rw [if_neg e, Zlh k l ((List.mem_cons.1 h).resolve_left e)]
theorem ZhP (k : κ) : ∀ l : List (κ × Int), k ∉ l.map (·.1) -> cins k l = l ++ [(k, 0)]
 | [], _ => rfl
 | x :: l, h => by
  unfold cins
  rw [if_neg (fun e => h (by rw [e]; simp)), ZhP k l (fun e => h (List.mem_cons_of_mem _ e))]
  rfl
theorem ZqF (k : κ) : ∀ l : List (κ × Int), k ∉ l.map (·.1) -> cidx k l = l.length
 | [], _ => rfl
 | x :: l, h => by
  unfold cidx
  rw [if_neg (fun e => h (by rw [e]; simp)), ZqF k l (fun e => h (List.mem_cons_of_mem _ e))]
  rfl
theorem Zee (k : κ) : ∀ l : List (κ × Int), k ∉ l.map (·.1) -> cget k l = 0
 | [], _ => rfl
 | x :: l, h => by
  unfold cget
  rw [if_neg (fun e => h (by rw [e]; simp)), Zee k l (fun e => h (List.mem_cons_of_mem _ e))]
theorem ZoN (k : κ) : ∀ l : List (κ × Int), k ∈ l.map (·.1) -> (k, cget k l) ∈ l
 | [], h => by cases h
 | x :: l, h => by
  unfold cget
  by_cases e : k = x.1
  ·rw [if_pos e, e]; exact List.mem_cons_self
  ·rw [if_neg e]
   exact List.mem_cons_of_mem _ (ZoN k l ((List.mem_cons.1 h).resolve_left e))
theorem Zna (k : κ) : ∀ l : List (κ × Int), cidx k (cins k l) = cidx k l
 | [] => by simp [cins, cidx]
 | x :: l => by
  unfold cins
  by_cases e : k = x.1
  ·rw [if_pos e]
  ·rw [if_neg e]; unfold cidx; rw [if_neg e, if_neg e, Zna k l]
theorem Zlg (k : κ) : ∀ l : List (κ × Int), k ∈ (cins k l).map (·.1)
 | [] => by simp [cins]
 | x :: l => by
  unfold cins
  by_cases e : k = x.1
  ·rw [if_pos e, e]; simp
  ·rw [if_neg e]; exact List.mem_cons_of_mem _ (Zlg k l)
theorem Zi3 (k : κ) (v : Int) : ∀ l : List (κ × Int), (cput k v l).map (·.1) = l.map (·.1)
 | [] => rfl
 | x :: l => by
  unfold cput
  by_cases e : k = x.1
  ·rw [if_pos e, e]; rfl
  ·rw [if_neg e, List.map_cons, List.map_cons, Zi3 k v l]
theorem Zxg (k : κ) (v : Int) (l : List (κ × Int)) : (cput k v l).length = l.length := by
 have := congrArg List.length (Zi3 k v l)
 simpa using this
theorem Znb (k : κ) (v : Int) : ∀ l : List (κ × Int), k ∈ l.map (·.1) -> cget k (cput k v l) = v
 | [], h => by cases h
 | x :: l, h => by
  unfold cput
  by_cases e : k = x.1
  ·rw [if_pos e]; unfold cget; rw [if_pos rfl]
  ·rw [if_neg e]; unfold cget; rw [if_neg e, Znb k v l ((List.mem_cons.1 h).resolve_left e)]
theorem Znc (k : κ) : ∀ l : List (κ × Int), cget k (cins k l) = cget k l
 | [] => by simp [cins, cget]
 | x :: l => by
  unfold cins
  by_cases e : k = x.1
  ·rw [if_pos e]
  ·rw [if_neg e]; unfold cget; rw [if_neg e, if_neg e, Znc k l]
theorem ZqE (k : κ) (v : Int) : ∀ (l : List (κ × Int)) (x : κ × Int), x ∈ cput k v l -> x ∈ l \/ x = (k, v)
 | [], _, h => by cases h
 | y :: l, x, h => by
  unfold cput at h
  by_cases e : k = y.1
  ·rw [if_pos e] at h
   rcases List.mem_cons.1 h with h | h
   ·exact .inr h
   ·exact .inl (List.mem_cons_of_mem _ h)
  ·rw [if_neg e] at h
   rcases List.mem_cons.1 h with h | h
   ·exact .inl (h ▸ List.mem_cons_self)
   ·rcases ZqE k v l x h with h | h
    ·exact .inl (List.mem_cons_of_mem _ h)
    ·exact .inr h
def cinc (k : κ) (l : List (κ × Int)) : List (κ × Int) := cput k (cget k l + 1) (cins k l)
theorem Zm9 (k : κ) (l : List (κ × Int)) : (cinc k l).map (·.1) = if k ∈ l.map (·.1) then l.map (·.1) else l.map (·.1) ++ [k] := by
 unfold cinc
 rw [Zi3]
 by_cases h : k ∈ l.map (·.1)
 ·rw [if_pos h, Zlh k l h]
 ·rw [if_neg h, ZhP k l h]; simp
theorem Zhe.get {l : List (κ × Int)} {t : Nat} (h : Zhe l t) (k : κ) : 0 <= cget k l /\ cget k l <= (t : Int) := by
 by_cases hm : k ∈ l.map (·.1)
 ·have := h _ (ZoN k l hm); dsimp only at this; omega
 ·rw [Zee k l hm]; omega
theorem Zhe.new {l : List (κ × Int)} {t : Nat} (h : Zhe l t) (k : κ) : cget k l + 1 = 1 ↔ k ∉ l.map (·.1) := by
 constructor
 ·intro e hm
  have := h _ (ZoN k l hm); dsimp only at this; omega
 ·intro hm; rw [Zee k l hm]; rfl
theorem Zhe.inc {l : List (κ × Int)} {t : Nat} (h : Zhe l t) (k : κ) : Zhe (cinc k l) (t + 1) := by
 have hg := h.get k
 intro x hx
 by_cases hm : k ∈ l.map (·.1)
 ·unfold cinc at hx
  rw [Zlh k l hm] at hx
  rcases ZqE k _ _ x hx with hx | rfl
  ·have := h x hx; omega
  ·dsimp only; omega
 ·unfold cinc at hx
  rw [ZhP k l hm] at hx
  have hx2 : x ∈ l \/ x = (k, cget k l + 1) := by
   clear hg h
   induction l with
   | nil => simp [cput] at hx; exact .inr (by simpa [cget] using hx)
   | cons y l ih =>
    have hne : k ≠ y.1 := fun e => hm (by rw [e]; simp)
    have hml : k ∉ l.map (·.1) := fun e => hm (List.mem_cons_of_mem _ e)
    rw [Zee k _ hm] at hx ⊢
    rw [Zee k l hml] at ih
    rw [List.cons_append] at hx
    unfold cput at hx
    rw [if_neg hne] at hx
    rcases List.mem_cons.1 hx with hx | hx
    ·exact .inl (hx ▸ List.mem_cons_self)
    ·rcases ih hx hml with h | h
     ·exact .inl (List.mem_cons_of_mem _ h)
     ·exact .inr h
  rcases hx2 with hx | rfl
  ·have := h x hx; omega
  ·dsimp only; omega
theorem Zur (kv : κ -> Value) (k : κ) : ∀ (i : Nat) (l : List (κ × Int)), k ∈ l.map (·.1) -> (cent kv i l)[cidx k l]? = some ⟨kv k, .int .i64 (cget k l), i + cidx k l⟩
 | _, [], h => by cases h
 | i, x :: l, h => by
  unfold cent cidx cget
  by_cases e : k = x.1
  ·rw [if_pos e, if_pos e, e]; rfl
  ·rw [if_neg e, if_neg e, List.getElem?_cons_succ, Zur kv k (i + 1) l ((List.mem_cons.1 h).resolve_left e)]
   congr 2
   omega
theorem Zuo (k : κ) : ∀ l : List (κ × Int), k ∈ l.map (·.1) -> cidx k l < l.length
 | [], h => by cases h
 | x :: l, h => by
  unfold cidx
  by_cases e : k = x.1
  ·rw [if_pos e]; simp
  ·rw [if_neg e, List.length_cons]
   have := Zuo k l ((List.mem_cons.1 h).resolve_left e)
   omega
theorem ZqG (kv : κ -> Value) (k : κ) (v : Int) : ∀ (i : Nat) (l : List (κ × Int)), k ∈ l.map (·.1) -> (cent kv i l).modify (cidx k l) (fun e => { e with val := .int .i64 v }) = cent kv i (cput k v l)
 | _, [], h => by cases h
 | i, x :: l, h => by
  unfold cidx cput
  by_cases e : k = x.1
  ·rw [if_pos e, if_pos e, e]; rfl
  ·rw [if_neg e, if_neg e]
   unfold cent
   rw [List.modify_succ_cons, ZqG kv k v (i + 1) l ((List.mem_cons.1 h).resolve_left e)]
end
class KeyT (P : Program) (kt : TypeId) (κ : outParam Type) [DecidableEq κ] (kv : outParam (κ -> Value)) : Prop where
 ask : ∀ (k : κ) (l : List (κ × Int)) (w : World), (Instr.findKey kt (kv k) (cent kv 0 l)).run P w = .ok (ZoO k l 0) w
 chk : ∀ (b : Bool) (k : κ) (w : World), (Instr.checkKey b 10000 kt (kv k)).run P w = .ok () w
 stay : ∀ (k : κ) (w : World), (Instr.keyThatStays (kv k) (kv k)).run P w = .ok (kv k) w
section
variable {κ : Type} {kv : κ -> Value}
variable {P : Program} {n : Nat} {wr : World} {fr : Fr} {O : List It} {ty : TypeId} {pos : String} {af : Array Edge} {dst : Option Tmp} {g : Option (Nat × Bool)} {Kp : Value -> List It -> Prop}
theorem setC {a : Act} {w : World} {b : Nat} {l l' : List (κ × Int)} {O' : List It} (hs : St n wr fr O a w) (hu : Upd O (cmIt kv b l) (cmIt kv b l') O') :
  Bel wr.heap.size wr { w with heap := w.heap.setIfInBounds b (.map (cent kv 0 l').toArray l'.length) } /\ Zat wr.heap.size O' { w with heap := w.heap.setIfInBounds b (.map (cent kv 0 l').toArray l'.length) } := by
 have hin := hs.own.inb _ hu.mem b rfl
 refine ⟨hs.old.trans ⟨⟨rfl, rfl, rfl, by simp, fun i hi => Zd0 (by omega)⟩⟩, hs.own.upd hu hs.old.size (by simp) (fun i _ hi => Zd0 hi) (cmIt.mk ?_) fun i hi => .inl hi⟩
 simp [Array.getElem?_setIfInBounds, hin.2]
theorem ZuQ {t : TypeId} (kv : κ -> Value) (k : ∀ b, Kp (.map (some b)) (cmIt kv b [] :: O)) : Stp P n wr fr O ⟨dst, .makeMap t none, ty, pos, af, g⟩ Kp :=
 Zce fun a w hs => by
  have hB : Bel w.heap.size w (w.alloc (.map #[] 0)) := (Bel.refl _ _).alloc (Nat.le_refl _) _
  refine ⟨.map (some w.heap.size), w.alloc (.map #[] 0), _, ?_, hs.old.trans (hB.mono hs.old.size), hs.own.grow (O' := [cmIt kv w.heap.size []]) hB hs.old.size ⟨fun i hi => ?_, fun i hi b hb => ?_, List.pairwise_singleton _ _⟩, k _⟩
  ·simp only [execOp, Option.map_none, Sem.run_bind, run_makeMap (P := P) t w, Result.andThen_ok, Sem.run_pure]
  ·rw [List.mem_singleton.1 hi]
   exact cmIt.mk (heap_alloc_new w _)
  ·rw [List.mem_singleton.1 hi] at hb
   simp only [It.S, cmIt] at hb
   subst hb
   exact ⟨Nat.le_refl _, by simp⟩
theorem ZzS {t kt et b : Nat} {x : Operand} {l : List (κ × Int)} {R : List It} [hM : MapT P t kt et] (hx : ev fr x = some (.map (some b))) (hp : Pick (cmIt kv b l) O R) :
  Pu P n wr fr O (.call ⟨.builtin .len, #[x], #[t]⟩) ty (.int .i64 l.length) := fun a w hs _ _ _ _ => by
 have h1 := cmIt.heap (hs.own.sat _ (hp.perm.mem_iff.2 List.mem_cons_self))
 have hu := run_underlying (w := w) (MapT.parts hM.h)
 have hx' := hs.sim.ev hx
 simp [execOp, resolve, invoke, builtin, Builtin.len_, hx', hu, Zbp (P := P) h1, goInt, ZqH]
end
section
variable {κ : Type} [DecidableEq κ] {kv : κ -> Value}
variable {P : Program} {n : Nat} {wr : World} {fr : Fr} {O : List It} {ty : TypeId} {pos : String} {af : Array Edge} {dst : Option Tmp} {g : Option (Nat × Bool)} {Kp : Value -> List It -> Prop}
theorem Zs9 {t kt et b : Nat} {l : List (κ × Int)} {w : World} [hM : MapT P t kt et] [hK : KeyT P kt κ kv] [ZeroV P et (.int .i64 0)] (h : (cmIt kv b l).sat w) (k : κ) : (Instr.lookup t (.map (some b)) (kv k) false).run P w = .ok (.int .i64 (cget k l)) w := by
 have h1 := cmIt.heap h
 have hu := run_underlying (w := w) (MapT.parts hM.h)
 have ha := hK.ask k l w
 have hz := Zf4 (P := P) (t := et) (v := .int .i64 0) (w := w)
 have hc := fun b => hK.chk b k w
 obtain ⟨es, he⟩ : ∃ es : Array MapEntry, es = (cent kv 0 l).toArray := ⟨_, rfl⟩
 rw [<- he] at h1
 have hl : es.toList = cent kv 0 l := by rw [he]
 simp only [Instr.lookup, Sem.run_bind, hu, Result.andThen_ok, Zbp (P := P) h1, Sem.run_pure, hc, hl, ha]
 rw [Zll]
 by_cases hm : k ∈ l.map (·.1)
 ·rw [if_pos hm]
  simp
 ·rw [if_neg hm, Zee k l hm]
  simp [hz]
theorem ZxC {t kt et b : Nat} {x ix : Operand} {l : List (κ × Int)} {k : κ} {v : Int} {R : List It} [hM : MapT P t kt et] [hK : KeyT P kt κ kv] [ZeroV P et (.int .i64 0)] (hx : ev fr x = some (.map (some b))) (hi : ev fr ix = some (kv k)) (hp : Pick (cmIt kv b l) O R) (hv : cget k l = v) :
  Pu P n wr fr O (.lookup t x ix false) ty (.int .i64 v) := fun a w hs _ _ _ _ => by
 have := Zs9 (P := P) (t := t) (kt := kt) (et := et) (hs.own.sat _ (hp.perm.mem_iff.2 List.mem_cons_self)) k
 simp only [execOp, hs.sim.ev hx, hs.sim.ev hi, Sem.run_bind, this, Result.andThen_ok, Sem.run_pure, hv]
theorem Zrn {t kt et b : Nat} {l : List (κ × Int)} {w : World} [hM : MapT P t kt et] [hK : KeyT P kt κ kv] [ZeroV P et (.int .i64 0)] (h : (cmIt kv b l).sat w) (k : κ) : (Instr.mapEntry t (.map (some b)) (kv k)).run P w =
  .ok (.tuple #[.int .i64 (cget k l), .int .i64 (cidx k l)]) { w with heap := w.heap.setIfInBounds b (.map (cent kv 0 (cins k l)).toArray (cins k l).length) } := by
 have h1 := cmIt.heap h
 have hu := run_underlying (w := w) (MapT.parts hM.h)
 have ha := hK.ask k l w
 have hz := Zf4 (P := P) (t := et) (v := .int .i64 0) (w := w)
 have hc := fun b => hK.chk b k w
 have hst := hK.stay k w
 obtain ⟨es, he⟩ : ∃ es : Array MapEntry, es = (cent kv 0 l).toArray := ⟨_, rfl⟩
 rw [<- he] at h1
 have hl : es.toList = cent kv 0 l := by rw [he]
 simp only [Instr.mapEntry, Sem.run_bind, hu, Result.andThen_ok, Zbp (P := P) h1, Sem.run_pure, hc, hl, ha]
 rw [Zll]
 by_cases hm : k ∈ l.map (·.1)
 ·rw [if_pos hm, Zlh k l hm]
  have hat := Zur kv k 0 l hm
  rw [Nat.zero_add] at hat
  have hej : es[0 + cidx k l]? = some ⟨kv k, .int .i64 (cget k l), cidx k l⟩ := by
   rw [he, Nat.zero_add]
   simpa using hat
  have hmod : (es.modify (0 + cidx k l) fun e => ({ key := kv k, val := e.val, born := e.born } : MapEntry)) = es := by
   apply Array.ext_getElem?
   intro i
   rw [Array.getElem?_modify]
   split
   ·rename_i hij
    subst hij
    rw [hej]
    rfl
   ·rfl
  have hke : (Option.map (fun x : MapEntry => x.key) es[0 + cidx k l]?).getD (kv k) = kv k := by rw [hej]; rfl
  simp only [hke, Sem.run_bind, hst, Result.andThen_ok, hmod, <- he]
  rw [Nat.zero_add] at hej ⊢
  simp [setObj, Sem.run, h1, goInt, hej]
 ·rw [if_neg hm, ZhP k l hm, ZqF k l hm, Zee k l hm]
  have hp : (es.push { key := kv k, val := .int .i64 0, born := l.length }) = (cent kv 0 (l ++ [(k, 0)])).toArray := by
   rw [he, ZqJ, Nat.zero_add]
   simp [cent]
  rw [<- hp]
  simp [hz, setObj, Sem.run, h1, goInt]
theorem Zrm {t b : Nat} {l : List (κ × Int)} {w : World} {s : Nat} (h : (cmIt kv b l).sat w) (k : κ) (v : Int) (hk : k ∈ l.map (·.1)) (hs : cidx k l = s) : (Instr.entryStore t (.map (some b)) (.int .i64 s) (.int .i64 v)).run P w =
  .ok () { w with heap := w.heap.setIfInBounds b (.map (cent kv 0 (cput k v l)).toArray (cput k v l).length) } := by
 have h1 := cmIt.heap h
 have h2 := ZqI kv 0 l s (hs ▸ Zuo k l hk)
 rw [Nat.zero_add] at h2
 have h3 := ZqG kv k v 0 l hk
 rw [hs] at h3
 have hfi : ((cent kv 0 l).toArray.findIdx? fun e => (e.born : Int) == (s : Int)) = some s := by rw [List.findIdx?_toArray]; exact h2
 simp only [Instr.entryStore, Sem.run_bind, Result.andThen_ok, Zbp (P := P) h1, Sem.run_pure, asInt, asIntOf, Sem.run_map, hfi]
 rw [<- h3, Zxg]
 simp [setObj, Sem.run, h1]
theorem Zfl {t kt et b : Nat} {x ix : Operand} {l : List (κ × Int)} {k : κ} {O' : List It} [hM : MapT P t kt et] [hK : KeyT P kt κ kv] [ZeroV P et (.int .i64 0)] (hx : ev fr x = some (.map (some b))) (hi : ev fr ix = some (kv k)) (hu : Upd O (cmIt kv b l) (cmIt kv b (cins k l)) O')
  (kk : Kp (.tuple #[.int .i64 (cget k l), .int .i64 (cidx k l)]) O') : Stp P n wr fr O ⟨dst, .mapEntry t x ix, ty, pos, af, g⟩ Kp := by
 refine Zce ?_
 intro a w hs
 have hst := setC hs hu
 have hr := Zrn (P := P) (t := t) (kt := kt) (et := et) (hs.own.sat _ hu.mem) k
 refine ⟨_, _, O', ?_, hst.1, hst.2, kk⟩
 simp only [execOp, hs.sim.ev hx, hs.sim.ev hi, Sem.run_bind, hr, Result.andThen_ok, Sem.run_pure]
theorem Zfk {t b : Nat} {x sx y : Operand} {l : List (κ × Int)} {k : κ} {v : Int} {O' : List It} (hx : ev fr x = some (.map (some b))) (hsx : ev fr sx = some (.int .i64 (cidx k l))) (hy : ev fr y = some (.int .i64 v)) (hu : Upd O (cmIt kv b (cins k l)) (cmIt kv b (cput k v (cins k l))) O')
  (kk : Kp undef O') : Stp P n wr fr O ⟨dst, .entryStore t x sx y, ty, pos, af, g⟩ Kp :=
 ZhR fun a w hst => by
  have h2 := setC hst hu
  refine ⟨_, O', ?_, h2.1, h2.2, kk⟩
  have := Zrm (P := P) (t := t) (hst.own.sat _ hu.mem) k v (Zlg k l) (Zna k l)
  simp only [execOp, hst.sim.ev hx, hst.sim.ev hsx, hst.sim.ev hy, Sem.run_bind, this, Result.andThen_ok, Sem.run_pure]
end
end Go.Wk
namespace Go.Proofs.YtbjomhdhkpgbaaaGreatDoor
open Go Go.RowKit Go.Wk
def bz (l : List UInt8) : ByteArray := ⟨l.toArray⟩
theorem Zx7 {a b : List UInt8} (h : bz a = bz b) : a = b := by
 have := congrArg (fun x : ByteArray => x.data.toList) h
 simpa [bz] using this
theorem Zzu (l : List UInt8) : (bz l).size = l.length := by simp [bz, ByteArray.size]
def pz (x : Int × List UInt8) : Int × ByteArray := (x.1, bz x.2)
theorem ZAh {a b : Int × List UInt8} (h : pz a = pz b) : a = b := by
 obtain ⟨a1, a2⟩ := a
 obtain ⟨b1, b2⟩ := b
 simp only [pz, Prod.mk.injEq] at h
 rw [h.1, Zx7 h.2]
theorem Ztx {α β : Type} {f : α -> β} (hf : ∀ {a b}, f a = f b -> a = b) {x : α} {l : List α} : f x ∈ l.map f ↔ x ∈ l :=
 ⟨fun h => by obtain ⟨y, hy, e⟩ := List.mem_map.1 h; exact hf e ▸ hy, fun h => List.mem_map.2 ⟨x, h, rfl⟩⟩
theorem Zgu {l : List UInt8} (h : ZcZ l = true) : l.length <= 6 := by
 unfold ZcZ Zdc at h
 simp only [Bool.and_eq_true, decide_eq_true_eq] at h
 exact h.1.2
theorem Zfa {l : List UInt8} (h : (ZbQ l).isSome = true) : l.length <= 7 := by
 unfold ZbQ at h
 cases hg : ZfN l [3600, 60, 1] 0 0 with
 | none => rw [hg] at h; cases h
 | some o =>
  rw [hg] at h
  dsimp only at h
  by_cases hh : (l.isEmpty = true \/ ZaS (if l.head? = some 45 then -o else o) ≠ l)
  ·rw [if_pos hh] at h; cases h
  ·have : ZaS (if l.head? = some 45 then -o else o) = l := Decidable.of_not_not fun hn => hh (.inr hn)
   rw [<- this]
   exact Zh2 _
theorem ZA6 {f : List UInt8} (h : ZaK f = 1) : ZcZ f = true := by
 unfold ZaK at h
 dsimp only at h
 split at h
 ·assumption
 ·repeat' split at h
  all_goals cases h
theorem ZAs {f a b : List UInt8} (h : ZaK f = 2) (hc : ZcT [47] f [] = some (a, b)) : a.length <= 6 /\ b.length <= 6 := by
 unfold ZaK at h
 dsimp only at h
 rw [hc] at h
 dsimp only at h
 split at h
 ·cases h
 ·split at h
  ·rename_i h2
   rw [Bool.and_eq_true] at h2
   exact ⟨Zgu h2.1, Zgu h2.2⟩
  ·repeat' split at h
   all_goals cases h
theorem ZAr {f : List UInt8} (h : ZaK f = 5) : ((ZbQ f).isSome || (match ZcT [47] f [] with | some (a, b) => (ZbQ a).isSome && (ZbQ b).isSome | none => false)) = true := by
 unfold ZaK at h
 dsimp only at h
 by_cases c1 : ZcZ f = true
 ·rw [if_pos c1] at h; omega
 rw [if_neg c1] at h
 cases hc : ZcT [47] f [] with
 | none =>
  rw [hc] at h
  dsimp only at h ⊢
  rw [if_neg (by decide)] at h
  by_cases c3 : (Zcc f).isSome = true
  ·rw [if_pos c3] at h; omega
  rw [if_neg c3] at h
  by_cases c4 : f = [37, 122]
  ·rw [if_pos c4] at h; omega
  rw [if_neg c4] at h
  by_cases c5 : ((ZbQ f).isSome || false) = true
  ·exact c5
  ·rw [if_neg c5] at h; omega
 | some x =>
  obtain ⟨a, b⟩ := x
  rw [hc] at h
  dsimp only at h ⊢
  by_cases c2 : (ZcZ a && ZcZ b) = true
  ·rw [if_pos c2] at h; omega
  rw [if_neg c2] at h
  by_cases c3 : (Zcc f).isSome = true
  ·rw [if_pos c3] at h; omega
  rw [if_neg c3] at h
  by_cases c4 : f = [37, 122]
  ·rw [if_pos c4] at h; omega
  rw [if_neg c4] at h
  by_cases c5 : ((ZbQ f).isSome || (ZbQ a).isSome && (ZbQ b).isSome) = true
  ·exact c5
  ·rw [if_neg c5] at h; omega
theorem Zru {f a b : List UInt8} (h : Zbk f = some (a, b)) : a.length <= 7 /\ b.length <= 7 := by
 unfold Zbk at h
 cases hc : ZcT [47] f [] with
 | none => rw [hc] at h; cases h
 | some x =>
  obtain ⟨a', b'⟩ := x
  rw [hc] at h
  dsimp only at h
  split at h
  ·rename_i hk
   simp only [Option.some.injEq, Prod.mk.injEq] at h
   obtain ⟨rfl, rfl⟩ := h
   have hl := Zm5 hc
   simp only [List.length_nil] at hl
   rcases hk with hk | hk
   ·have := ZAs hk hc; omega
   ·have h5 := ZAr hk
    rw [hc] at h5
    dsimp only at h5
    rw [Bool.or_eq_true, Bool.and_eq_true] at h5
    rcases h5 with h5 | ⟨h5, h6⟩
    ·have := Zfa h5; omega
    ·have := Zfa h5
     have := Zfa h6
     omega
  ·cases h
theorem ZuO (f : List UInt8) (off save : Int) (letter : List UInt8) : (Zb7 f off save letter).1.length <= 7 := by
 unfold Zb7
 cases hp : Zbk f with
 | some x =>
  obtain ⟨a, b⟩ := x
  have := Zru hp
  dsimp only
  split
  ·exact this.1
  ·exact this.2
 | none =>
  dsimp only
  split
  ·split
   ·split
    ·rename_i hl; have := Zgu hl; dsimp only; omega
    ·simp
   ·simp
  ·split
   ·split
    ·exact Zh2 _
    ·simp
   ·split
    ·rename_i hk
     dsimp only
     rcases hk with hk | hk
     ·have := Zgu (ZA6 hk); omega
     ·have h5 := ZAr hk
      cases hc : ZcT [47] f [] with
      | none =>
       rw [hc, Bool.or_false] at h5
       exact Zfa h5
      | some x =>
       obtain ⟨a, b⟩ := x
       unfold Zbk at hp
       rw [hc] at hp
       dsimp only at hp
       rw [if_pos (.inr hk)] at hp
       cases hp
    ·simp
theorem Zl9 (x : List UInt8) : ∀ l : List (List UInt8), Zc6 (l ++ [x]) = Zc6 l + (x.length + 1)
 | [] => by simp [Zc6]
 | y :: l => by rw [List.cons_append, Zc6, Zc6, Zl9 x l]; omega
theorem ZpS : ∀ l : List (List UInt8), (∀ x ∈ l, x.length <= 7) -> Zc6 l <= 8 * l.length
 | [], _ => Nat.le_refl _
 | y :: l, h => by
  have h1 := h y List.mem_cons_self
  have h2 := ZpS l fun x hx => h x (List.mem_cons_of_mem _ hx)
  rw [Zc6, List.length_cons]
  omega
structure FewI (lp : List ((Int × ByteArray) × Int)) (la : List (ByteArray × Int)) (sz : Int) (acc : List (Int × List UInt8) × List (List UInt8)) (t : Nat) : Prop where
 kp : lp.map (·.1) = acc.1.map pz
 ka : la.map (·.1) = acc.2.map bz
 cp : Zhe lp t
 ca : Zhe la t
 le : acc.2.length <= t
 ls : ∀ x ∈ acc.2, x.length <= 7
 sz : sz = Zc6 acc.2
theorem FewI.nil : FewI [] [] 0 ([], []) 0 := ⟨rfl, rfl, Zhe.nil _, Zhe.nil _, Nat.le_refl _, (fun _ h => by cases h), rfl⟩
theorem FewI.lim {lp : List ((Int × ByteArray) × Int)} {la : List (ByteArray × Int)} {sz : Int} {acc : List (Int × List UInt8) × List (List UInt8)} {t : Nat} (h : FewI lp la sz acc t) : 0 <= sz /\ sz <= 8 * (t : Int) := by
 have h1 := ZpS _ h.ls
 have h2 := h.le
 rw [h.sz]
 omega
theorem FewI.step {lp : List ((Int × ByteArray) × Int)} {la : List (ByteArray × Int)} {sz : Int} {acc : List (Int × List UInt8) × List (List UInt8)} {t : Nat} (h : FewI lp la sz acc t) (o : Int) (x : List UInt8) (hx : x.length <= 7) :
  FewI (cinc (o, bz x) lp) (cinc (bz x) la) (if cget (bz x) la + 1 = 1 then sz + (x.length + 1) else sz) (addP (o, x) acc.1, addA x acc.2) (t + 1) := by
 have hm : bz x ∈ la.map (·.1) ↔ x ∈ acc.2 := by rw [h.ka]; exact Ztx Zx7
 have hp : (o, bz x) ∈ lp.map (·.1) ↔ (o, x) ∈ acc.1 := by rw [h.kp]; show pz (o, x) ∈ List.map pz acc.1 ↔ _; exact Ztx ZAh
 refine ⟨?_, ?_, h.cp.inc _, h.ca.inc _, ?_, ?_, ?_⟩
 ·rw [Zm9, h.kp]
  unfold addP
  rw [h.kp] at hp
  by_cases hh : (o, x) ∈ acc.1
  ·rw [if_pos (hp.2 hh), if_pos hh]
  ·rw [if_neg (fun e => hh (hp.1 e)), if_neg hh, List.map_append]; rfl
 ·rw [Zm9, h.ka]
  unfold addA
  rw [h.ka] at hm
  by_cases hh : x ∈ acc.2
  ·rw [if_pos (hm.2 hh), if_pos hh]
  ·rw [if_neg (fun e => hh (hm.1 e)), if_neg hh, List.map_append]; rfl
 ·unfold addA
  have := h.le
  split
  ·dsimp only; omega
  ·simp; omega
 ·unfold addA
  intro y hy
  dsimp only at hy
  split at hy
  ·exact h.ls y hy
  ·rcases List.mem_append.1 hy with hy | hy
   ·exact h.ls y hy
   ·rw [List.mem_singleton.1 hy]; exact hx
 ·have hn := h.ca.new (bz x)
  unfold addA
  dsimp only
  by_cases hh : x ∈ acc.2
  ·rw [if_pos hh, if_neg (fun e => hn.1 e (hm.2 hh))]; exact h.sz
  ·rw [if_neg hh, if_pos (hn.2 fun e => hh (hm.1 e)), Zl9, h.sz]; omega
theorem FewI.few {lp : List ((Int × ByteArray) × Int)} {la : List (ByteArray × Int)} {sz : Int} {acc : List (Int × List UInt8) × List (List UInt8)} {t : Nat} (h : FewI lp la sz acc t) :
  (decide ((lp.length : Int) <= 120) && decide (sz <= 250)) = (decide (acc.1.length <= 120) && decide (Zc6 acc.2 <= 250)) := by
 have h1 := congrArg List.length h.kp
 simp only [List.length_map] at h1
 rw [h1, h.sz]
 congr 1
 ·rw [decide_eq_decide]; omega
 ·rw [decide_eq_decide]; omega
theorem ZmZ {rs : List DRule} {e : DEra} {b : Bool} (h : ZcJ rs e b = 0) : ∀ x ∈ ZaD rs e, Zbx e.off x.1 = true := by
 intro x hx
 unfold ZcJ at h
 split at h
 ·cases h
 ·split at h
  ·cases h
  ·split at h
   ·cases h
   ·split at h
    ·cases h
    ·split at h
     ·cases h
     ·rename_i hn
      cases hh : Zbx e.off x.1 with
      | true => rfl
      | false => exact absurd (.inr (List.any_eq_true.2 ⟨x, hx, by rw [hh]; rfl⟩)) hn
theorem ZiS {rs : List DRule} {l : List DEra} {i : Nat} : ∀ (f k : Nat), Zca rs l i f k = none -> ∀ j, k <= j -> j < k + f -> ZcJ rs (l.getD j dE0) (decide (j = 0)) = 0
 | 0, k, _, j, h1, h2 => by omega
 | f + 1, k, h, j, h1, h2 => by
  rw [Zca] at h
  split at h
  ·cases h
  ·rename_i h0
   split at h
   ·cases h
   ·by_cases hj : j = k
    ·rw [hj]; exact Decidable.of_not_not h0
    ·exact ZiS f (k + 1) h j (by omega) (by omega)
theorem ZrU {rs : List DRule} {l : List DEra} {i : Nat} (h : Zca rs l i l.length 0 = none) : ∀ e ∈ l, ∀ x ∈ ZaD rs e, Zbx e.off x.1 = true := by
 intro e he
 obtain ⟨j, hj, rfl⟩ := List.mem_iff_getElem.1 he
 have := ZiS l.length 0 h j (Nat.zero_le _) (by omega)
 rw [List.getD_eq_getElem?_getD, List.getElem?_eq_getElem hj] at this
 exact ZmZ this
attribute [local irreducible] W RL Does Zap Zak retQ Calls Pu Stp RD Qy Ay Zal
def pEnc (x : Int × ByteArray) : List Value := [.int .i64 x.1, .string x.2]
def pkV (x : Int × ByteArray) : Value := .agg (pEnc x).toArray
instance : EqE Tryz.prog 227 (Int × ByteArray) pEnc where
 h r s w := by
  unfold pEnc
  simp [go_sem, Zco]
  rcases r with ⟨_, _⟩
  rcases s with ⟨_, _⟩
  simp only [Zij, Result.ok.injEq, and_true]
  rw [Bool.eq_iff_iff]
  simp
 g := by kernel_rfl
theorem Zmj (k : Int × ByteArray) (w : World) : ∀ (l : List ((Int × ByteArray) × Int)) (i j : Nat), (Instr.findAsking 227 (pkV k) (cent pkV j l) i).run Tryz.prog w = .ok (ZoO k l i) w
 | [], _, _ => rfl
 | x :: l, i, j => by
  have h := EqE.h (P := Tryz.prog) (t := 227) (enc := pEnc) k x.1 w
  rw [cent, Instr.findAsking, ZoO]
  simp only [pkV, Op.equal, Op.maxDepth] at h ⊢
  simp only [Sem.run_bind, h, Result.andThen_ok]
  by_cases hk : k = x.1
  ·rw [decide_eq_true hk, if_pos hk]; rfl
  ·rw [decide_eq_false hk, if_neg hk]
   have ih := Zmj k w l (i + 1) (j + 1)
   simp only [pkV] at ih
   simpa using ih
theorem Zti (b : Bool) (k : Int × ByteArray) (d : Nat) (w : World) : (Instr.checkKey b (d + 1 + 1) 227 (.agg (pEnc k).toArray)).run Tryz.prog w = .ok () w := by
 simp [Instr.checkKey, go_sem, pEnc]
instance : KeyT Tryz.prog 227 (Int × ByteArray) pkV where
 ask k l w := by
  cases l with
  | nil => simp [Instr.findKey, go_sem, cent, Instr.findNow, ZoO]
  | cons x l =>
   have h := Zmj k w (x :: l) 0 0
   simp only [cent] at h ⊢
   simp [Instr.findKey, go_sem, Instr.findNow, Instr.sameNow, pkV]
   exact h
 chk b k w := Zti b k 9998 w
 stay k w := by simp [Instr.keyThatStays, Instr.sameBits, pkV, pEnc, Zi9]
def toM (l : List (ByteArray × Int)) : List (ByteArray × Value) := l.map fun x => (x.1, Value.int .i64 x.2)
theorem ZnU (k : ByteArray) : ∀ l : List (ByteArray × Int), (mget (toM l) k).getD (.int .i64 0) = .int .i64 (cget k l)
 | [] => rfl
 | x :: l => by
  have ih := ZnU k l
  unfold toM at ih ⊢
  rw [List.map_cons, mget, cget]
  by_cases h : k = x.1
  ·rw [if_pos h, if_pos h]; rfl
  ·rw [if_neg h, if_neg h]; exact ih
theorem Zh0 (k : ByteArray) (v : Int) : ∀ l : List (ByteArray × Int), mset (toM l) k (.int .i64 v) = toM (cput k v (cins k l))
 | [] => by simp [toM, mset, cins, cput]
 | x :: l => by
  have ih := Zh0 k v l
  unfold toM at ih ⊢
  rw [List.map_cons, mset, cins]
  by_cases h : k = x.1
  ·rw [if_pos h, if_pos h, cput, if_pos h]; rfl
  ·rw [if_neg h, if_neg h, cput, if_neg h, ih]; rfl
theorem ZcD {P : Program} {n : Nat} {wr : World} {fr : Fr} {O : List It} {ty : TypeId} {pos : String} {af : Array Edge} {dst : Option Tmp} {g : Option (Nat × Bool)} {Kp : Value -> List It -> Prop}
  {t kt et b : Nat} {x ix y : Operand} {m m' : List (ByteArray × Value)} {k : ByteArray} {v : Value} {O' : List It} [hM : MapT P t kt et] [StringT P kt] (hx : ev fr x = some (.map (some b))) (hi : ev fr ix = some (.string k)) (hy : ev fr y = some v) (hm : mset m k v = m')
  (hu : Upd O (.mp b m) (.mp b m') O') (kk : Kp undef O') : Stp P n wr fr O ⟨dst, .mapUpdate t x ix y, ty, pos, af, g⟩ Kp := Stp_mapUpdate hx hi hy (hm ▸ hu) kk
theorem Zl4 (rs : List DRule) (e : DEra) : (ZaD rs e).length <= rs.length + 1 := by
 unfold ZaD
 have := Zie rs e
 split
 ·simp
 ·split
  ·rw [List.length_map]; omega
  ·simp
theorem Zl3 {rs : List DRule} {e : DEra} (hr : ∀ r ∈ rs, r.letter.size <= 1000000000) : ∀ x ∈ ZaD rs e, x.2.size <= 1000000000 := by
 intro x hx
 unfold ZaD at hx
 split at hx
 ·simp only [List.mem_singleton] at hx; subst hx; exact Nat.zero_le _
 ·split at hx
  ·obtain ⟨r, h, rfl⟩ := List.mem_map.1 hx
   exact hr r (Zf3 h)
  ·simp only [List.mem_singleton] at hx; subst hx; exact Nat.zero_le _
structure FwG where
 k : Nat
 lp : List ((Int × ByteArray) × Int)
 la : List (ByteArray × Int)
 sz : Int
 acc : List (Int × List UInt8) × List (List UInt8)
 t : Nat
theorem Zjp {G : Prop} (h : G := by (first | (apply Zav; rfl; rfl; omega; omega; (intro w' _ hO; exact (ZbP (hO.of (A := .row (.slice A5 S.length c5) 156 2 S.length (S.flatMap Zch)) (by repeat' constructor)) hg1).1)) | (apply Za2; rfl; (focus repeat' constructor); exact hgn; rfl) | (apply ZxC (kv := pkV) (k := (e.off + x.1, bz ab)); rfl; rfl; (focus repeat' constructor); first | exact rfl | exact Znc _ _) | (apply Zha; rfl; rfl; (focus repeat' constructor); first | exact ZnU _ la | exact hl2) | (apply ZaH; rfl; rfl; exact hb))) : G := h
theorem Zpb {G : Prop} (h : G := by first | (apply Qy_y; rfl; exact Zjp) | exact QyA) : G := h
theorem Zu6 {G : Prop} (h : G := by repeat (first | exact QF.nil | (apply QF.mk; rfl; rfl; decide +kernel; exact Zpb))) : G := h
theorem ZlK {G : Prop} (h : G := by (first | (apply ZzS (kv := pkV); rfl; (focus repeat' constructor)) | (apply ZlA; rfl; rfl; exact b1))) : G := h
set_option maxHeartbeats 2000000 in
theorem ZuI (Ar Az Al As : Option Addr) (cr cz cl cs : Nat) (a : Zab) (z : ZaX) (Ae : Option Addr) (ce : Nat) (w : World) (hL : LibW w) (hA : Zaj w Ar Az Al As cr cz cl cs a) (hE : RdSl w Ae ce DEra.enc 13 z.eras) (hS : Zg8 a) (hV : Zlv a) (hel : z.eras.length <= 1000000)
  (hZ : ∀ e ∈ z.eras, ZvZ e) (hH : ∀ e ∈ z.eras, ∀ x ∈ ZaD a.rules e, Zbx e.off x.1 = true) :
  Does Tryz.prog 97 [srcV Ar Az Al As cr cz cl cs a, .agg #[.string z.name, .slice Ae z.eras.length ce]] w (fun v O => v = .bool (Zfy a.rules z) /\ O = []) := by
 have hn := hS.nr
 unfold Zfy
 obtain ⟨R, hR⟩ : ∃ R, erGo a.rules z.eras ([], []) = R := ⟨_, rfl⟩
 rw [hR]
 refine Zaa Tryz.func97 rfl rfl rfl rfl ?_
 repeat (first | refine walk ?_ | (refine jn ?_; (try intro F); (first | (apply ZuQ (t := 225) pkV; intro bk) | (refine bx ?_; intro bk) | (refine stA ?_) | (apply Zag; exact PuA)); refine fin ?_) | (apply RD_W; rfl; intro bk))
 rename_i b1 b2 bp
 generalize bk = ba
 refine Zaq [(2, .pointer (some ⟨b1, 0, none⟩)), (5, .map (some bp)), (6, .map (some ba)), (17, .slice Ae z.eras.length ce), (18, .int .i64 z.eras.length)] [.blk b1 [.slice Ar a.rules.length cr, .slice Az a.zones.length cz, .slice Al a.links.length cl, .slice As a.shifts.length cs] 117]
  (fun g : FwG => [(7, .int .i64 g.sz), (19, .int .i64 g.k)]) (fun g => [cmIt pkV bp g.lp, .mp ba (toM g.la)]) (fun g => g.k <= z.eras.length /\ FewI g.lp g.la g.sz g.acc g.t /\ g.t <= g.k * 2000000 /\ erGo a.rules (z.eras.drop g.k) g.acc = R)
  (fun g => z.eras.length - g.k) ⟨0, [], [], 0, ([], []), 0⟩ SFA SOA ⟨Nat.zero_le _, FewI.nil, Nat.le_refl _, hR⟩ ?_
 clear hR
 rintro ⟨k, lp, la, sz, acc, t⟩ ⟨hk, hI, ht, hi⟩
 dsimp only at hk hI ht hi ⊢
 repeat (first | refine walk ?_ | (refine jn ?_; (try intro F); (first | (refine bx ?_; intro bk) | (refine stA ?_) | (apply Zag; exact PuA)); refine fin ?_) | (apply RD_W; rfl; intro bk))
 refine Zah rfl (fun hc => ?_) (fun hc => ?_)
 ·simp only [decide_eq_true_eq, Int.ofNat_lt] at hc
  obtain ⟨hna, hca⟩ := hE.rd k _ (List.getElem?_eq_getElem hc)
  have hem := List.getElem_mem hc
  rw [Zan hc, erGo] at hi
  generalize z.eras[k] = e at *
  have hSl := Zl4 a.rules e
  have hlet := Zl3 (e := e) fun r hr => (hS.rs r hr).2
  have h64 := Zh7 (e := e) (fun r h => hV.i64 r h) (hZ e hem).save
  have hss := fun w' (hw : Bel w.heap.size w w') => Zh5 Ar Az Al As cr cz cl cs a e w' (hA.up hw) hn
  have hZe := hZ e hem
  have hHe := hH e hem
  generalize ZaD a.rules e = S at *
  obtain ⟨R2, hR2⟩ : ∃ R2, stGo e S acc = R2 := ⟨_, rfl⟩
  rw [hR2] at hi
  simp only [DEra.enc] at hss hca
  repeat (first | (apply RL_pu; rfl; exact PuI) | (apply RD_Q; rfl; rfl; decide +kernel; rfl; rfl; exact QyI) | refine walk1 ?_ | (refine jg ?_; (try intro F); (first | (apply Zac (h := fun w' hw _ => hss w' hw); rfl; rintro v O' ⟨A5, c5, rfl, rfl⟩) | (refine bx ?_; intro bk) | (refine stA ?_)); first | refine ⟨_, EndsA, QFI, ?_⟩ | refine fin ?_) | (refine jn ?_; (try intro F); (first | (refine bx ?_; intro bk) | (refine stA ?_) | (apply Zag; first | exact PuI | exact PuA)); first | refine ⟨_, EndsA, QFI, ?_⟩ | refine fin ?_) | (apply RD_W; rfl; intro bk))
  generalize bk = b9
  refine Zaq [(2, .pointer (some ⟨b1, 0, none⟩)), (5, .map (some bp)), (6, .map (some ba)), (9, .pointer (some ⟨b9, 0, none⟩)), (17, .slice Ae z.eras.length ce), (18, .int .i64 z.eras.length), (19, .int .i64 k), (25, .slice A5 S.length c5), (26, .int .i64 S.length)]
   [.blk b1 [.slice Ar a.rules.length cr, .slice Az a.zones.length cz, .slice Al a.links.length cl, .slice As a.shifts.length cs] 117, .blk b9 [.int .i64 e.off, .int .i64 e.kind, .int .i64 e.save, .string e.set, .string e.format, .bool e.til.is, .int .i64 e.til.year, .int .i64 e.til.month, .int .i64 e.til.day.kind, .int .i64 e.til.day.week, .int .i64 e.til.day.day, .int .i64 e.til.at_.sec, .int .i64 e.til.at_.base] 54, .row (.slice A5 S.length c5) 156 2 S.length (S.flatMap Zch)]
   (fun g : FwG => [(7, .int .i64 g.sz), (27, .int .i64 g.k)]) (fun g => [cmIt pkV bp g.lp, .mp ba (toM g.la)]) (fun g => g.k <= S.length /\ FewI g.lp g.la g.sz g.acc g.t /\ g.t <= k * 2000000 + g.k /\ stGo e (S.drop g.k) g.acc = R2)
   (fun g => S.length - g.k) ⟨0, lp, la, sz, acc, t⟩ SFA SOA ⟨Nat.zero_le _, hI, Nat.le_trans ht (Nat.le_add_right _ _), hR2⟩ ?_
  clear hR2 hI ht lp la sz acc t
  rintro ⟨j, lp, la, sz, acc, t⟩ ⟨hj, hI, ht, hi2⟩
  dsimp only at hj hI ht hi2 ⊢
  repeat (first | refine walk ?_ | (refine jn ?_; (try intro F); (first | (refine bx ?_; intro bk) | (refine stA ?_) | (apply Zag; exact PuA)); refine fin ?_) | (apply RD_W; rfl; intro bk))
  refine Zah rfl (fun hc2 => ?_) (fun hc2 => ?_)
  ·simp only [decide_eq_true_eq, Int.ofNat_lt] at hc2
   have hg1 := ZaF Zch.len S j _ 0 _ (List.getElem?_eq_getElem hc2) rfl
   have hgn : ∀ i v, (Zch S[j])[i]? = some v -> (S.flatMap Zch)[j * 2 + i]? = some v := fun i v hv => ZaF Zch.len S j _ i v (List.getElem?_eq_getElem hc2) hv
   have hxm := List.getElem_mem hc2
   rw [Zan hc2, stGo] at hi2
   generalize S[j] = x at *
   have hfa := fun w' (hw : Bel w.heap.size w w') => Zkb e.format x.2 e.off x.1 w' (hL.up hw) hZe.fmt (hlet x hxm) hZe.off (h64 x hxm)
   have hal := ZuO e.format.data.toList e.off x.1 x.2.data.toList
   have hho := hHe x hxm
   unfold Zbx at hho
   simp only [Bool.and_eq_true, decide_eq_true_eq] at hho
   obtain ⟨hh1, hh2⟩ := hho
   generalize Zb7 e.format.data.toList e.off x.1 x.2.data.toList = abr at *
   obtain ⟨ab, er⟩ := abr
   dsimp only at hi2 hal
   replace hfa : ∀ w', Bel w.heap.size w w' -> Does Tryz.prog 80 [.string e.format, .int .i64 e.off, .agg #[.int .i64 x.1, .string x.2]] w' (fun v O => v = .tuple #[.string (bz ab), .int .i64 er] /\ O = []) := hfa
   simp only [Zch] at hgn hg1
   have hcp := hI.cp.get (e.off + x.1, bz ab)
   have hcq := hI.ca.get (bz ab)
   have hsz := Zzu ab
   have hlim := hI.lim
   have hst := hI.step (e.off + x.1) ab hal
   have hl2 : (mget (toM (cput (bz ab) (cget (bz ab) la + 1) (cins (bz ab) la))) (bz ab)).getD (.int .i64 0) = .int .i64 (cget (bz ab) la + 1) := (ZnU _ _).trans (by rw [Znb _ _ _ (Zlg _ _)])
   by_cases hnew : cget (bz ab) la + 1 = 1
   ·rw [if_pos hnew] at hst
    have hb : decide (cget (bz ab) la + 1 = 1) = true := decide_eq_true hnew
    repeat (first | (apply RL_pu; rfl; exact Zjp) | (refine js ?_; (first | (refine Zad hfa ?_) | (apply Zfl (kv := pkV) (k := (e.off + x.1, bz ab)) (l := lp); rfl; rfl; (focus repeat' constructor)) | (apply Zfk (kv := pkV) (k := (e.off + x.1, bz ab)) (l := lp); rfl; rfl; rfl; (focus repeat' constructor)) | (apply ZcD; rfl; rfl; rfl; exact Zh0 _ _ la; (focus repeat' constructor)) | (refine bx ?_; intro bk))) | (apply RD_Q; rfl; rfl; decide +kernel; rfl; rfl; exact Zpb) | refine walk1 ?_ | (refine ZdC ?_; intro F; (refine Zad hfa ?_); refine ⟨_, EndsA, SubO.right _ _, ?_⟩) | (refine RD_Lw ?_; intro F; (first | (refine Zad hfa ?_) | (apply Zfl (kv := pkV) (k := (e.off + x.1, bz ab)) (l := lp); rfl; rfl; (focus repeat' constructor)) | (apply Zfk (kv := pkV) (k := (e.off + x.1, bz ab)) (l := lp); rfl; rfl; rfl; (focus repeat' constructor)) | (apply ZcD; rfl; rfl; rfl; exact Zh0 _ _ la; (focus repeat' constructor)) | (refine bx ?_; intro bk) | (refine stA ?_) | (apply Zag; first | exact Zjp | exact PuA)); refine ⟨_, EndsA, Zu6, ?_⟩) | (apply RD_W; rfl; intro bk))
    exact ⟨⟨j + 1, cinc (e.off + x.1, bz ab) lp, cinc (bz ab) la, sz + (((bz ab).size : Int) + 1), _, t + 1⟩, OA, ⟨OA, by dsimp only; rw [hsz]; exact hst, OA, hi2⟩, SFA, SOA⟩
   ·rw [if_neg hnew] at hst
    have hb : decide (cget (bz ab) la + 1 = 1) = false := decide_eq_false hnew
    repeat (first | (apply RL_pu; rfl; exact Zjp) | (refine js ?_; (first | (refine Zad hfa ?_) | (apply Zfl (kv := pkV) (k := (e.off + x.1, bz ab)) (l := lp); rfl; rfl; (focus repeat' constructor)) | (apply Zfk (kv := pkV) (k := (e.off + x.1, bz ab)) (l := lp); rfl; rfl; rfl; (focus repeat' constructor)) | (apply ZcD; rfl; rfl; rfl; exact Zh0 _ _ la; (focus repeat' constructor)) | (refine bx ?_; intro bk))) | (apply RD_Q; rfl; rfl; decide +kernel; rfl; rfl; exact Zpb) | refine walk1 ?_ | (refine ZdC ?_; intro F; (refine Zad hfa ?_); refine ⟨_, EndsA, SubO.right _ _, ?_⟩) | (refine RD_Lw ?_; intro F; (first | (refine Zad hfa ?_) | (apply Zfl (kv := pkV) (k := (e.off + x.1, bz ab)) (l := lp); rfl; rfl; (focus repeat' constructor)) | (apply Zfk (kv := pkV) (k := (e.off + x.1, bz ab)) (l := lp); rfl; rfl; rfl; (focus repeat' constructor)) | (apply ZcD; rfl; rfl; rfl; exact Zh0 _ _ la; (focus repeat' constructor)) | (refine bx ?_; intro bk) | (refine stA ?_) | (apply Zag; first | exact Zjp | exact PuA)); refine ⟨_, EndsA, Zu6, ?_⟩) | (apply RD_W; rfl; intro bk))
    exact ⟨⟨j + 1, cinc (e.off + x.1, bz ab) lp, cinc (bz ab) la, sz, _, t + 1⟩, OA, ⟨OA, hst, OA, hi2⟩, SFA, SOA⟩
  ·simp only [decide_eq_false_iff_not, Int.ofNat_lt] at hc2
   rw [List.drop_eq_nil_of_le (by omega), stGo] at hi2
   subst hi2
   repeat (first | refine walk ?_ | (refine jn ?_; (try intro F); (first | (refine bx ?_; intro bk) | (refine stA ?_) | (apply Zag; exact PuA)); refine fin ?_) | (apply RD_W; rfl; intro bk))
   exact ⟨⟨k + 1, lp, la, sz, acc, t⟩, OA, ⟨OA, hI, OA, hi⟩, SFA, SOA⟩
 ·simp only [decide_eq_false_iff_not, Int.ofNat_lt] at hc
  rw [List.drop_eq_nil_of_le (by omega), erGo] at hi
  subst hi
  rw [<- hI.few]
  by_cases h120 : (lp.length : Int) <= 120
  ·have b1 : decide ((lp.length : Int) <= 120) = true := decide_eq_true h120
   rw [b1]
   repeat (first | (apply RL_pu; rfl; exact ZlK) | (apply RD_Q; rfl; rfl; decide +kernel; rfl; rfl; exact QyFewB1) | refine walk1 ?_ | (refine jn ?_; (try intro F); (first | (refine bx ?_; intro bk) | (refine stA ?_) | (apply Zag; first | exact ZlK | exact PuA)); first | refine ⟨_, EndsA, QFFewB1, ?_⟩ | refine fin ?_) | (apply RD_W; rfl; intro bk))
   exact rtA
  ·have b1 : decide ((lp.length : Int) <= 120) = false := decide_eq_false h120
   rw [b1]
   repeat (first | refine und ?_ | (apply RL_pu; rfl; exact ZlK) | (apply RD_Q; rfl; rfl; decide +kernel; rfl; rfl; exact QyFewB1) | refine walk1 ?_ | (refine jn ?_; (try intro F); (first | (refine bx ?_; intro bk) | (refine stA ?_) | (apply Zag; first | exact ZlK | exact PuA)); first | refine ⟨_, EndsA, QFFewB1, ?_⟩ | refine fin ?_) | (apply RD_W; rfl; intro bk))
   exact rtA
structure ZnG where
 k : Nat
 p : Int
theorem ZvN {G : Prop} (h : G := by (first | exact PuI | (apply ZaH; rfl; rfl; exact hb))) : G := h
theorem ZvM {G : Prop} (h : G := by (first | exact PuI | (apply ZaH; rfl; rfl; exact hbk))) : G := h
theorem ZvL {G : Prop} (h : G := by (first | exact ZvM | (apply ZaG; rfl; rfl; exact hb2))) : G := h
set_option maxHeartbeats 2000000 in
theorem ZoW (Ar Az Al As : Option Addr) (cr cz cl cs : Nat) (a : Zab) (w : World) (hL : LibW w) (hG : Glob w) (hA : Zaj w Ar Az Al As cr cz cl cs a) (hS : Zg8 a) (hV : Zlv a) (hZ : ∀ z ∈ a.zones, ∀ e ∈ z.eras, ZvZ e) :
  Does Tryz.prog 54 [srcV Ar Az Al As cr cz cl cs a] w (fun v O => v = ptV (Zby a.rules a.zones 0) /\ O = []) := by
 have hnz := hS.nz
 obtain ⟨res, hres⟩ : ∃ res, Zby a.rules a.zones 0 = res := ⟨_, rfl⟩
 rw [hres]
 refine Zaa Tryz.func54 rfl rfl rfl rfl ?_
 repeat (first | (refine js ?_; (refine bx ?_; intro bk)) | refine walk ?_)
 rename_i b1
 obtain ⟨b2, hb2⟩ : ∃ b2, bk = b2 := ⟨_, rfl⟩
 rw [hb2]
 clear hb2 bk
 refine Zaq [(1, .pointer (some ⟨b1, 0, none⟩)), (2, .pointer (some ⟨b2, 0, none⟩)), (13, .slice Az a.zones.length cz), (14, .int .i64 a.zones.length)] [.blk b2 [.int .i64 0, .int .i64 0, .int .i64 0] 36, .blk b1 [.slice Ar a.rules.length cr, .slice Az a.zones.length cz, .slice Al a.links.length cl, .slice As a.shifts.length cs] 117]
  (fun k : Nat => [(15, .int .i64 k)]) (fun _ => []) (fun k => k <= a.zones.length /\ Zby a.rules (a.zones.drop k) k = res) (fun k => a.zones.length - k) 0 SFA SOA ⟨Nat.zero_le _, hres⟩ ?_
 clear hres
 rintro i ⟨hil, hi⟩
 repeat (first | (refine js ?_; (refine bx ?_; intro bk)) | refine walk ?_)
 refine Zah rfl (fun hc => ?_) (fun hc => ?_)
 ·simp only [decide_eq_true_eq, Int.ofNat_lt] at hc
  obtain ⟨hna, cs1, ⟨Ae, ce, hEz, rfl⟩, hca⟩ := hA.z i _ (List.getElem?_eq_getElem hc)
  have hmem := List.getElem_mem hc
  rw [Zan hc, Zby] at hi
  generalize a.zones[i] = z at *
  have hel := (hS.zs z hmem).2.1
  by_cases hz0 : z.eras = []
  ·rw [if_pos hz0] at hi
   subst hi
   have hb : decide ((z.eras.length : Int) = 0) = true := by rw [hz0]; rfl
   simp only [ptV, plV, Zao.enc]
   repeat (first | (apply RL_pu; rfl; exact ZvN) | (refine js ?_; (refine bx ?_; intro bk)) | refine walk1 ?_)
   exact rtC
  have hb : decide ((z.eras.length : Int) = 0) = false := decide_eq_false (fun h => hz0 (List.eq_nil_of_length_eq_zero (by omega)))
  rw [if_neg hz0] at hi
  obtain ⟨r2, hr2⟩ : ∃ r2, Zca a.rules z.eras i z.eras.length 0 = r2 := ⟨_, rfl⟩
  rw [hr2] at hi
  have hfw : r2 = none -> ∀ w', Bel w.heap.size w w' -> Does Tryz.prog 97 [srcV Ar Az Al As cr cz cl cs a, .agg #[.string z.name, .slice Ae z.eras.length ce]] w' (fun v O => v = .bool (Zfy a.rules z) /\ O = []) := fun hn w' hw =>
   ZuI Ar Az Al As cr cz cl cs a z Ae ce w' (hL.up hw) (hA.up hw) (hEz.up hw) hS hV hel (fun e he => hZ z hmem e he) (ZrU (hr2.trans hn))
  generalize Zfy a.rules z = fw at *
  repeat (first | (apply RL_pu; rfl; exact ZvN) | (refine js ?_; (refine bx ?_; intro bk)) | refine walk1 ?_)
  rename_i b5
  obtain ⟨b6, hb6⟩ : ∃ b6, bk = b6 := ⟨_, rfl⟩
  rw [hb6]
  clear hb6 bk
  refine Zaq [(1, .pointer (some ⟨b1, 0, none⟩)), (2, .pointer (some ⟨b2, 0, none⟩)), (4, .int .i64 i), (5, .pointer (some ⟨b5, 0, none⟩)), (6, .pointer (some ⟨b6, 0, none⟩)), (13, .slice Az a.zones.length cz), (14, .int .i64 a.zones.length), (15, .int .i64 i), (28, .slice Ae z.eras.length ce), (29, .int .i64 z.eras.length)] [.blk b5 [.string z.name, .slice Ae z.eras.length ce] 46, .blk b2 [.int .i64 0, .int .i64 0, .int .i64 0] 36, .blk b1 [.slice Ar a.rules.length cr, .slice Az a.zones.length cz, .slice Al a.links.length cl, .slice As a.shifts.length cs] 117]
   (fun g : ZnG => [(30, .int .i64 g.k)]) (fun g => [.blk b6 [.int .i64 2, .int .i64 i, .int .i64 g.p] 36]) (fun g => g.k <= z.eras.length /\ Zca a.rules z.eras i (z.eras.length - g.k) g.k = r2) (fun g => z.eras.length - g.k) ⟨0, 0⟩ SFA SOA ⟨Nat.zero_le _, hr2⟩ ?_
  clear hr2
  rintro ⟨k, p⟩ ⟨hkl, hi2⟩
  dsimp only at hkl hi2 ⊢
  repeat (first | (refine js ?_; (refine bx ?_; intro bk)) | refine walk ?_)
  refine Zah rfl (fun hc2 => ?_) (fun hc2 => ?_)
  ·simp only [decide_eq_true_eq, Int.ofNat_lt] at hc2
   clear hna hca
   obtain ⟨hna, hca⟩ := hEz.rd k _ (List.getElem?_eq_getElem hc2)
   have hem := List.getElem_mem hc2
   have hgd : z.eras.getD k dE0 = z.eras[k] := by rw [List.getD_eq_getElem?_getD, List.getElem?_eq_getElem hc2]; rfl
   obtain ⟨f, hf⟩ : ∃ f, z.eras.length - k = f + 1 := ⟨z.eras.length - k - 1, by omega⟩
   rw [hf, Zca, hgd] at hi2
   generalize z.eras[k] = e at *
   have hbk : decide ((k : Int) = 0) = decide (k = 0) := by rw [decide_eq_decide]; omega
   generalize decide (k = 0) = fst at *
   have her := fun w' (hw : Bel w.heap.size w w') => ZtJ Ar Az Al As cr cz cl cs a e fst w' (hL.up hw) (hA.up hw) hS hV (hZ z hmem e hem)
   have hen := fun w' (hw : Bel w.heap.size w w') => ZtK Ar Az Al As cr cz cl cs a Ae ce z.eras k w' (hG.up hw) (hA.up hw) hS hV (hEz.up hw) hel hc2
   generalize ZcJ a.rules e fst = ec at *
   generalize Zfz a.rules z.eras k = nc at *
   obtain ⟨off, kind, save, set, format, ⟨is, year, month, ⟨dk, dw, dd⟩, ⟨us, ub⟩⟩⟩ := e
   simp only [DEra.enc] at her hca
   by_cases h1 : ec = 0
   ·rw [if_neg (fun h => h h1)] at hi2
    subst h1
    by_cases h2 : nc = 0
    ·rw [if_neg (fun h => h h2)] at hi2
     subst h2
     repeat (first | (apply RL_pu; rfl; exact ZvM) | (refine js ?_; (first | (refine Zad her ?_) | (refine Zad hen ?_) | (refine bx ?_; intro bk))) | refine walk1 ?_)
     exact ⟨⟨k + 1, k⟩, OA, ⟨OA, by dsimp only; rw [show z.eras.length - (k + 1) = f by omega]; exact hi2⟩, SFA, SOA⟩
    ·rw [if_pos h2] at hi2
     subst hi2
     dsimp only at hi
     subst hi
     have hb2 : (!decide (nc = 0)) = true := by rw [decide_eq_false h2]; rfl
     simp only [ptV, plV, Zao.enc]
     repeat (first | (apply RL_pu; rfl; exact ZvL) | (refine js ?_; (first | (refine Zad her ?_) | (refine Zad hen ?_) | (refine bx ?_; intro bk))) | refine walk1 ?_)
     exact rtC
   ·rw [if_pos h1] at hi2
    subst hi2
    dsimp only at hi
    subst hi
    have hb2 : (!decide (ec = 0)) = true := by rw [decide_eq_false h1]; rfl
    simp only [ptV, plV, Zao.enc]
    repeat (first | (apply RL_pu; rfl; exact ZvL) | (refine js ?_; (first | (refine Zad her ?_) | (refine bx ?_; intro bk))) | refine walk1 ?_)
    exact rtC
  ·simp only [decide_eq_false_iff_not, Int.ofNat_lt] at hc2
   rw [show z.eras.length - k = 0 by omega, Zca] at hi2
   subst hi2
   replace hfw := hfw rfl
   dsimp only at hi
   cases fw with
   | false =>
    rw [if_pos rfl] at hi
    subst hi
    simp only [ptV, plV, Zao.enc]
    repeat (first | (refine js ?_; (first | (refine Zad hfw ?_) | (refine bx ?_; intro bk))) | refine walk ?_)
    exact rtC
   | true =>
    rw [if_neg (by decide)] at hi
    repeat (first | (refine js ?_; (first | (refine Zad hfw ?_) | (refine bx ?_; intro bk))) | refine walk ?_)
    exact ⟨i + 1, OA, ⟨OA, hi⟩, SFA, SOA⟩
 ·simp only [decide_eq_false_iff_not, Int.ofNat_lt] at hc
  rw [List.drop_eq_nil_of_le (by omega), Zby] at hi
  subst hi
  repeat (first | (refine js ?_; (refine bx ?_; intro bk)) | refine walk ?_)
  exact rtC
end Go.Proofs.YtbjomhdhkpgbaaaGreatDoor
