/- Maps with string keys. -/
import Derived.Test.YtfhjfpikngcknaaDoorWkG
namespace Go.Wk
open Go Go.RowKit

def mget (m : List (ByteArray × Value)) (k : ByteArray) : Option Value :=
  match m with
  | [] => none
  | (x, v) :: r => if k = x then some v else mget r k
def mset (m : List (ByteArray × Value)) (k : ByteArray) (v : Value) : List (ByteArray × Value) :=
  match m with
  | [] => [(k, v)]
  | (x, u) :: r => if k = x then (k, v) :: r else (x, u) :: mset r k v
def mdel (m : List (ByteArray × Value)) (k : ByteArray) : List (ByteArray × Value) :=
  match m with
  | [] => []
  | (x, u) :: r => if k = x then r else (x, u) :: mdel r k

/-- Where key k stands. -/
def mfind (m : List (ByteArray × Value)) (k : ByteArray) (i : Nat) : Option (Nat × Value) :=
  match m with
  | [] => none
  | (x, v) :: r => if k = x then some (i, v) else mfind r k (i + 1)

theorem mfind_get (k : ByteArray) : ∀ (m : List (ByteArray × Value)) (i : Nat), (mfind m k i).map (·.2) = mget m k
  | [], _ => rfl
  | (x, v) :: r, i => by
    simp only [mfind, mget]
    split
    · rfl
    · exact mfind_get k r (i + 1)

theorem beq_bytes (a b : ByteArray) : (a == b) = decide (a = b) := by rw [beq_toListBytes, toList_eq]

theorem findNow_str (k : ByteArray) : ∀ (m : List (ByteArray × Value)) (es : List MapEntry) (i : Nat), es.map (fun e => (e.key, e.val)) = m.map (fun x => (Value.string x.1, x.2)) →
    Instr.findNow .string (.string k) es i = some (mfind m k i)
  | [], es, i, h => by
    have : es = [] := by simpa using h
    subst this
    rfl
  | (x, v) :: r, [], i, h => by simp at h
  | (x, v) :: r, e :: es, i, h => by
    simp only [List.map_cons, List.cons.injEq, Prod.mk.injEq] at h
    obtain ⟨⟨h1, h2⟩, h3⟩ := h
    have ih := findNow_str k r es (i + 1) h3
    simp only [Instr.findNow, h1, Instr.sameNow, beq_bytes, mfind]
    by_cases hk : k = x
    · simp [hk, h2]
    · simp [hk, ih]

theorem run_findKey {P : Program} {kt : TypeId} [hT : StringT P kt] (k : ByteArray) (m : List (ByteArray × Value)) (es : List MapEntry) (w : World) (h : es.map (fun e => (e.key, e.val)) = m.map (fun x => (Value.string x.1, x.2))) :
    (Instr.findKey kt (.string k) es).run P w = .ok (mfind m k 0) w := by
  simp [Instr.findKey, run_underlying hT.h, findNow_str k m es 0 h]

theorem run_checkKey {P : Program} {kt : TypeId} [hT : StringT P kt] (b : Bool) (k : ByteArray) (d : Nat) (w : World) : (Instr.checkKey b (d + 1) kt (.string k)).run P w = .ok () w := by
  simp [Instr.checkKey, run_underlying hT.h]

theorem mfind_set (k : ByteArray) (v : Value) : ∀ (m : List (ByteArray × Value)) (es : List MapEntry) (c i : Nat), es.map (fun e => (e.key, e.val)) = m.map (fun x => (Value.string x.1, x.2)) →
    match mfind m k i with
    | some (j, _) => i ≤ j ∧ (∃ e, es[j - i]? = some e ∧ e.key = .string k) ∧ (es.modify (j - i) fun e : MapEntry => { e with key := .string k, val := v }).map (fun e : MapEntry => (e.key, e.val)) = (mset m k v).map (fun x => (Value.string x.1, x.2))
    | none => (es ++ [({ key := .string k, val := v, born := c } : MapEntry)]).map (fun e : MapEntry => (e.key, e.val)) = (mset m k v).map (fun x => (Value.string x.1, x.2))
  | [], es, c, i, h => by
    have : es = [] := by simpa using h
    subst this
    simp [mfind, mset]
  | (x, u) :: r, [], c, i, h => by simp at h
  | (x, u) :: r, e :: es, c, i, h => by
    simp only [List.map_cons, List.cons.injEq, Prod.mk.injEq] at h
    obtain ⟨⟨h1, h2⟩, h3⟩ := h
    simp only [mfind, mset]
    by_cases hk : k = x
    · subst hk
      simp [h1, h3]
    · simp only [if_neg hk]
      have ih := mfind_set k v r es c (i + 1) h3
      cases hf : mfind r k (i + 1) with
      | none =>
        rw [hf] at ih
        simp only [List.cons_append, List.map_cons, h1, h2]
        rw [ih]
      | some p =>
        obtain ⟨j, y⟩ := p
        rw [hf] at ih
        obtain ⟨ih1, ⟨e', ih2, ih3⟩, ih4⟩ := ih
        refine ⟨by omega, ⟨e', ?_, ih3⟩, ?_⟩
        · rw [show j - i = (j - (i + 1)) + 1 from by omega]
          simpa using ih2
        · rw [show j - i = (j - (i + 1)) + 1 from by omega]
          simp only [List.modify_succ_cons, List.map_cons, h1, h2]
          rw [ih4]

theorem mfind_del (k : ByteArray) : ∀ (m : List (ByteArray × Value)) (es : List MapEntry) (i : Nat), es.map (fun e => (e.key, e.val)) = m.map (fun x => (Value.string x.1, x.2)) →
    match mfind m k i with
    | some (j, _) => i ≤ j ∧ (es.eraseIdx (j - i)).map (fun e => (e.key, e.val)) = (mdel m k).map (fun x => (Value.string x.1, x.2))
    | none => mdel m k = m
  | [], es, i, h => by simp [mfind, mdel]
  | (x, u) :: r, [], i, h => by simp at h
  | (x, u) :: r, e :: es, i, h => by
    simp only [List.map_cons, List.cons.injEq, Prod.mk.injEq] at h
    obtain ⟨⟨h1, h2⟩, h3⟩ := h
    simp only [mfind, mdel]
    by_cases hk : k = x
    · simp [hk, h3]
    · simp only [if_neg hk]
      have ih := mfind_del k r es (i + 1) h3
      cases hf : mfind r k (i + 1) with
      | none =>
        rw [hf] at ih
        simp only at ih ⊢
        rw [ih]
      | some p =>
        obtain ⟨j, y⟩ := p
        rw [hf] at ih
        obtain ⟨ih1, ih2⟩ := ih
        refine ⟨by omega, ?_⟩
        rw [show j - i = (j - (i + 1)) + 1 from by omega]
        simp only [List.eraseIdx_cons_succ, List.map_cons, h1, h2]
        rw [ih2]

theorem MapT.parts {P : Program} {t k e : TypeId} (h : mapChk P t = some (k, e)) : P.underlying t = some (.map k e) := by
  unfold mapChk at h
  split at h
  · rename_i k' e' hu
    simp only [Option.some.injEq, Prod.mk.injEq] at h
    rw [hu, h.1, h.2]
  · cases h

theorem setObj_heap {w : World} {b i : Nat} {o : Obj} (h : i ≠ b) : ({ w with heap := w.heap.setIfInBounds b o } : World).heap[i]? = w.heap[i]? := by
  simp [Array.getElem?_setIfInBounds_ne (Ne.symm h)]

section
variable {P : Program} {n : Nat} {wr : World} {ops : Array Oper} {rest : List Oper} {K : Fr → List It → Prop} {fr : Fr} {O : List It} {ty : TypeId} {pos : String} {af : Array Edge} {dst : Option Tmp} {g : Option (Nat × Bool)} {Kp : Value → List It → Prop}

/-- A new map. -/
theorem Stp_makeMap {t : TypeId} (k : ∀ b, Kp (.map (some b)) (.mp b [] :: O)) : Stp P n wr fr O ⟨dst, .makeMap t none, ty, pos, af, g⟩ Kp :=
  Stp_val fun a w hs => by
    have hB : Below w.heap.size w (w.alloc (.map #[] 0)) := (Below.refl _ _).alloc (Nat.le_refl _) _
    refine ⟨.map (some w.heap.size), w.alloc (.map #[] 0), _, ?_, hs.old.trans (hB.mono hs.old.size), hs.own.grow (O' := [.mp w.heap.size []]) hB hs.old.size ⟨fun i hi => ?_, fun i hi b hb => ?_, List.pairwise_singleton _ _⟩, k _⟩
    · simp only [execOp, Option.map_none, Sem.run_bind, run_makeMap (P := P) t w, Result.andThen_ok, Sem.run_pure]
    · rw [List.mem_singleton.1 hi]
      exact ⟨#[], 0, heap_alloc_new w _, rfl⟩
    · rw [List.mem_singleton.1 hi] at hb
      simp only [It.S] at hb
      subst hb
      exact ⟨Nat.le_refl _, by simp⟩

theorem run_getObj {w : World} {b : Nat} {es : Array MapEntry} {c : Nat} (h : w.heap[b]? = some (.map es c)) : (getObj b).run P w = .ok (.map es c) w := by
  simp [getObj, Sem.run, h]

theorem run_lookup {t kt et b : Nat} {m : List (ByteArray × Value)} {k : ByteArray} {z : Value} {w : World} [hM : MapT P t kt et] [StringT P kt] [ZeroV P et z] (h : (It.mp b m).sat w) (ok : Bool) :
    (Instr.lookup t (.map (some b)) (.string k) ok).run P w = .ok (if ok then .tuple #[(mget m k).getD z, .bool (mget m k).isSome] else (mget m k).getD z) w := by
  obtain ⟨es, c, h1, h2⟩ := h
  have hu := MapT.parts hM.h
  simp only [Instr.lookup, Sem.run_bind, run_underlying hu, Result.andThen_ok, run_getObj h1, Sem.run_pure, run_checkKey _ k 9999, run_findKey k m es.toList w h2]
  have := mfind_get k m 0
  cases hf : mfind m k 0 with
  | none =>
    rw [hf] at this
    simp only [Option.map_none] at this
    rw [← this]
    simp only [Sem.run_bind, run_zeroV, Result.andThen_ok, Sem.run_pure, Option.getD_none, Option.isSome_none]
  | some p =>
    rw [hf] at this
    simp only [Option.map_some] at this
    rw [← this]
    simp only [Sem.run_bind, Sem.run_pure, Result.andThen_ok, Option.getD_some, Option.isSome_some]

theorem Pu_lookup {t kt et b : Nat} {x ix : Operand} {m : List (ByteArray × Value)} {k : ByteArray} {z : Value} {R : List It} [hM : MapT P t kt et] [StringT P kt] [ZeroV P et z] (hx : ev fr x = some (.map (some b))) (hi : ev fr ix = some (.string k))
    (hp : Pick (.mp b m) O R) : Pu P n wr fr O (.lookup t x ix false) ty ((mget m k).getD z) :=
  fun a w hs _ _ _ _ => by
    have := run_lookup (P := P) (t := t) (kt := kt) (et := et) (k := k) (z := z) (hs.own.sat _ (hp.perm.mem_iff.2 List.mem_cons_self)) false
    simp only [execOp, hs.sim.ev hx, hs.sim.ev hi, Sem.run_bind, this, Result.andThen_ok, Sem.run_pure]
    rfl
theorem Pu_lookupOk {t kt et b : Nat} {x ix : Operand} {m : List (ByteArray × Value)} {k : ByteArray} {z : Value} {R : List It} [hM : MapT P t kt et] [StringT P kt] [ZeroV P et z] (hx : ev fr x = some (.map (some b))) (hi : ev fr ix = some (.string k))
    (hp : Pick (.mp b m) O R) : Pu P n wr fr O (.lookup t x ix true) ty (.tuple [(mget m k).getD z, .bool (mget m k).isSome].toArray) :=
  fun a w hs _ _ _ _ => by
    have := run_lookup (P := P) (t := t) (kt := kt) (et := et) (k := k) (z := z) (hs.own.sat _ (hp.perm.mem_iff.2 List.mem_cons_self)) true
    simp only [execOp, hs.sim.ev hx, hs.sim.ev hi, Sem.run_bind, this, Result.andThen_ok, Sem.run_pure]
    rfl
/-- A lookup whose answer is known in another spelling. -/
theorem Pu_lookupC {t kt et b : Nat} {x ix : Operand} {m : List (ByteArray × Value)} {k : ByteArray} {z v : Value} {R : List It} [hM : MapT P t kt et] [StringT P kt] [ZeroV P et z] (hx : ev fr x = some (.map (some b))) (hi : ev fr ix = some (.string k))
    (hp : Pick (.mp b m) O R) (hv : (mget m k).getD z = v) : Pu P n wr fr O (.lookup t x ix false) ty v := hv ▸ Pu_lookup (kt := kt) (et := et) hx hi hp
/-- The same of a map that was there before the call. -/
theorem Pu_lookupO {t kt et b : Nat} {x ix : Operand} {m : List (ByteArray × Value)} {k : ByteArray} {z : Value} [hM : MapT P t kt et] [StringT P kt] [ZeroV P et z] (hx : ev fr x = some (.map (some b))) (hi : ev fr ix = some (.string k))
    (hp : ∀ w, Below wr.heap.size wr w → Holds wr.heap.size O w → (It.mp b m).sat w) : Pu P n wr fr O (.lookup t x ix false) ty ((mget m k).getD z) :=
  fun a w hs _ _ _ _ => by
    have := run_lookup (P := P) (t := t) (kt := kt) (et := et) (k := k) (z := z) (hp w hs.old hs.own) false
    simp only [execOp, hs.sim.ev hx, hs.sim.ev hi, Sem.run_bind, this, Result.andThen_ok, Sem.run_pure]
    rfl

theorem Pu_lenMap {t kt et b : Nat} {x : Operand} {m : List (ByteArray × Value)} {R : List It} [hM : MapT P t kt et] (hx : ev fr x = some (.map (some b))) (hp : Pick (.mp b m) O R) :
    Pu P n wr fr O (.call ⟨.builtin .len, #[x], #[t]⟩) ty (.int .i64 m.length) :=
  fun a w hs _ _ _ _ => by
    have hu := MapT.parts hM.h
    obtain ⟨es, c, h1, h2⟩ := hs.own.sat _ (hp.perm.mem_iff.2 List.mem_cons_self)
    have hl : es.size = m.length := by
      have := congrArg List.length h2
      simpa using this
    simp [execOp, resolve, invoke, builtin, Builtin.len_, hs.sim.ev hx, run_underlying hu, run_getObj h1, goInt, hl]

/-- The map's block is written. -/
theorem St.setMap {a : Act} {w : World} {b : Nat} {m m' : List (ByteArray × Value)} {O' : List It} {es' : Array MapEntry} {c' : Nat} (hs : St n wr fr O a w) (hu : Upd O (.mp b m) (.mp b m') O') (he : entriesOf m' es') :
    Below wr.heap.size wr { w with heap := w.heap.setIfInBounds b (.map es' c') } ∧ Holds wr.heap.size O' { w with heap := w.heap.setIfInBounds b (.map es' c') } := by
  have hin := hs.own.inb _ hu.mem b rfl
  refine ⟨hs.old.trans ⟨rfl, rfl, rfl, by simp, fun i hi => setObj_heap (by omega)⟩, hs.own.upd hu hs.old.size (by simp) (fun i _ hi => setObj_heap hi) ⟨es', c', ?_, he⟩ fun i hi => .inl hi⟩
  simp [Array.getElem?_setIfInBounds, hin.2]

theorem Stp_mapUpdate {t kt et b : Nat} {x ix y : Operand} {m : List (ByteArray × Value)} {k : ByteArray} {v : Value} {O' : List It} [hM : MapT P t kt et] [StringT P kt] (hx : ev fr x = some (.map (some b))) (hi : ev fr ix = some (.string k)) (hy : ev fr y = some v)
    (hu : Upd O (.mp b m) (.mp b (mset m k v)) O') (kk : Kp undef O') : Stp P n wr fr O ⟨dst, .mapUpdate t x ix y, ty, pos, af, g⟩ Kp :=
  Stp_skip fun a w hs => by
    have ht := MapT.parts hM.h
    obtain ⟨es, c, h1, h2⟩ := hs.own.sat _ hu.mem
    have hf := mfind_set k v m es.toList c 0 h2
    cases hfi : mfind m k 0 with
    | none =>
      rw [hfi] at hf
      have hst := hs.setMap (es' := es.push { key := .string k, val := v, born := c }) (c' := c + 1) hu (by unfold entriesOf; simpa using hf)
      refine ⟨_, O', ?_, hst.1, hst.2, kk⟩
      simp only [execOp, hs.sim.ev hx, hs.sim.ev hi, hs.sim.ev hy, Instr.mapUpdate, Sem.run_bind, run_underlying ht, Result.andThen_ok, run_getObj h1, run_checkKey _ k 9999, run_findKey k m es.toList w h2, hfi]
      simp [setObj, Sem.run, h1]
    | some p =>
      obtain ⟨j, u⟩ := p
      rw [hfi] at hf
      obtain ⟨_, ⟨e, he1, he2⟩, hf2⟩ := hf
      simp only [Nat.sub_zero] at he1 hf2
      have hst := hs.setMap (es' := es.modify j fun e => { e with key := .string k, val := v }) (c' := c) hu (by unfold entriesOf; simpa using hf2)
      refine ⟨_, O', ?_, hst.1, hst.2, kk⟩
      have hkey : ((es[j]?).map (·.key)).getD (.string k) = .string k := by
        have : es[j]? = some e := by simpa using he1
        simp [this, he2]
      have hstay : (Instr.keyThatStays (.string k) (.string k)).run P w = .ok (.string k) w := by
        simp [Instr.keyThatStays, Instr.sameBits, beq_bytes]
      simp only [execOp, hs.sim.ev hx, hs.sim.ev hi, hs.sim.ev hy, Instr.mapUpdate, Sem.run_bind, run_underlying ht, Result.andThen_ok, run_getObj h1, run_checkKey _ k 9999, run_findKey k m es.toList w h2, hfi, hkey, hstay]
      simp [setObj, Sem.run, h1]
end
end Go.Wk
namespace Go.Wk
open Go Go.RowKit
theorem toList_inj {a b : ByteArray} : a.toList = b.toList ↔ a = b := by
  have := toList_eq a b
  rw [Bool.eq_iff_iff, beq_iff_eq, decide_eq_true_eq] at this
  exact this
class BoolT (P : Program) (t : TypeId) : Prop where
  h : P.underlying t = some .bool
/-- Struct values of a type are compared as the data are. -/
class EqE (P : Program) (t : TypeId) (α : outParam Type) [DecidableEq α] (enc : outParam (α → List Value)) : Prop where
  h : ∀ x y w, (Op.equalIn 10000 t (.agg (enc x).toArray) (.agg (enc y).toArray)).run P w = .ok (decide (x = y)) w
  g : P.eqGuardType P.depth t = false
section
variable {P : Program} {n : Nat} {wr : World} {fr : Fr} {O : List It} {ty : TypeId}
theorem Pu_eqlE {t t' : TypeId} {α : Type} [DecidableEq α] {enc : α → List Value} {x y : Operand} {i j : α} [hE : EqE P t α enc] (hx : ev fr x = some (.agg (enc i).toArray)) (hy : ev fr y = some (.agg (enc j).toArray)) :
    Pu P n wr fr O (.binOp .eql t x y t') ty (.bool (decide (i = j))) := fun a w hs _ _ _ _ => by
  simp only [execOp, hs.sim.ev hx, hs.sim.ev hy, Sem.run_bind, run_eqGuard_agg (P := P) w .eql t x y _ _ hE.g, Result.andThen_ok, run_eql_struct, hE.h, Sem.run_pure]
theorem Pu_neqE {t t' : TypeId} {α : Type} [DecidableEq α] {enc : α → List Value} {x y : Operand} {i j : α} [hE : EqE P t α enc] (hx : ev fr x = some (.agg (enc i).toArray)) (hy : ev fr y = some (.agg (enc j).toArray)) :
    Pu P n wr fr O (.binOp .neq t x y t') ty (.bool (!decide (i = j))) := fun a w hs _ _ _ _ => by
  simp only [execOp, hs.sim.ev hx, hs.sim.ev hy, Sem.run_bind, run_eqGuard_agg (P := P) w .neq t x y _ _ hE.g, Result.andThen_ok, run_neq_struct, hE.h, Sem.run_pure]
theorem Pu_eqB {t t' : TypeId} {x y : Operand} {i j : Bool} [hT : BoolT P t] (hx : ev fr x = some (.bool i)) (hy : ev fr y = some (.bool j)) :
    Pu P n wr fr O (.binOp .eql t x y t') ty (.bool (i == j)) := fun a w hs _ _ _ _ => by
  have h := run_equalIn_bool' (P := P) w 9999 t i j hT.h
  have h2 : (Op.equal t (.bool i) (.bool j)).run P w = .ok (i == j) w := h
  simp only [execOp, hs.sim.ev hx, hs.sim.ev hy, binOp, eqGuard, Sem.run_bind]
  simp [h2]
theorem Pu_neqB {t t' : TypeId} {x y : Operand} {i j : Bool} [hT : BoolT P t] (hx : ev fr x = some (.bool i)) (hy : ev fr y = some (.bool j)) :
    Pu P n wr fr O (.binOp .neq t x y t') ty (.bool (!(i == j))) := fun a w hs _ _ _ _ => by
  have h := run_equalIn_bool' (P := P) w 9999 t i j hT.h
  have h2 : (Op.equal t (.bool i) (.bool j)).run P w = .ok (i == j) w := h
  simp only [execOp, hs.sim.ev hx, hs.sim.ev hy, binOp, eqGuard, Sem.run_bind]
  simp [h2]
end
end Go.Wk
