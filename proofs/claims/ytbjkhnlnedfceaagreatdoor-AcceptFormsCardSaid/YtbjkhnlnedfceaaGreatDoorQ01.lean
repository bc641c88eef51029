/- The rules of single operations. -/
import Derived.Test.YtbjkhnlnedfceaaGreatDoorQ00
set_option maxHeartbeats 4000000
set_option linter.unusedVariables false
set_option linter.unusedSimpArgs false
namespace Go.Wk
open Go Go.RowKit
def isAggD : TypeDesc → Bool | .struct _ => true | .array _ _ => true | _ => false
def tyChk (P : Program) (t : TypeId) : Option (Nat × Bool) :=
 match P.info? t, P.underlying t with
 | some i, some d => some (i.size, isAggD d)
 | _, _ => none
def fieldChk (P : Program) (s f : Nat) : Option (Nat × Nat × Bool) :=
 match P.underlying s with
 | some (.struct fs) =>
  match fs[f]? with
  | some fld =>
   match tyChk P fld.type with
   | some (sz, ag) => if sz = 0 then none else some (fld.offset, sz, ag)
   | none => none
  | none => none
 | _ => none
def elemChk (P : Program) (t : TypeId) : Option (TypeId × Nat × Nat) :=
 match P.underlying t with
 | some (.slice e) => match P.info? e with | some i => some (e, i.size, i.bytes) | none => none
 | _ => none
def zeroChk (P : Program) (t : TypeId) : Option (List Value) :=
 match P.info? t with
 | some i => match i.zero with | some z => some z.cells.toList | none => none
 | none => none
class Ty (P : Program) (t : TypeId) (sz : outParam Nat) (ag : outParam Bool) : Prop where
 h : tyChk P t = some (sz, ag) := by kernel_rfl
class FieldAt (P : Program) (s f : Nat) (off sz : outParam Nat) (ag : outParam Bool) : Prop where
 h : fieldChk P s f = some (off, sz, ag) := by kernel_rfl
class ElemT (P : Program) (t : TypeId) (e : outParam TypeId) (sz bytes : outParam Nat) : Prop where
 h : elemChk P t = some (e, sz, bytes) := by kernel_rfl
class ZeroT (P : Program) (t : TypeId) (z : outParam (List Value)) : Prop where
 h : zeroChk P t = some z := by kernel_rfl
class StringT (P : Program) (t : TypeId) : Prop where
 h : P.underlying t = some .string := by kernel_rfl
class IntT (P : Program) (t : TypeId) (k : outParam IntKind) : Prop where
 h : P.underlying t = some (.int k) := by kernel_rfl
theorem Ty.parts {P : Program} {t : TypeId} {sz : Nat} {ag : Bool} (h : tyChk P t = some (sz, ag)) : ∃ i d, P.info? t = some i ∧ i.size = sz ∧ P.underlying t = some d ∧ isAggD d = ag := by
 unfold tyChk at h
 split at h
 ·rename_i i d hi hd
  simp at h
  exact ⟨i, d, hi, h.1, hd, h.2⟩
 ·cases h
theorem run_typeInfo {P : Program} {t : TypeId} {i : TypeInfo} {w : World} (h : P.info? t = some i) : (typeInfo t).run P w = .ok i w := by
 simp [typeInfo, program, h, Sem.run]
theorem run_sizeOf {P : Program} {t : TypeId} {sz : Nat} {ag : Bool} [ht : Ty P t sz ag] {w : World} : (sizeOf t).run P w = .ok sz w := by
 obtain ⟨i, d, hi, hs, _, _⟩ := Ty.parts ht.h
 simp [sizeOf, run_typeInfo hi, hs]
theorem run_isAgg {P : Program} {t : TypeId} {sz : Nat} {ag : Bool} [ht : Ty P t sz ag] {w : World} : (isAgg t).run P w = .ok ag w := by
 obtain ⟨i, d, _, _, hd, ha⟩ := Ty.parts ht.h
 subst ha
 simp only [isAgg, Sem.run_bind, run_underlying hd, Result.andThen_ok]
 cases d <;> rfl
def CellsAt (w : World) (ad : Addr) (cs : List Value) : Prop := ∀ j v, cs[j]? = some v → w.cell? (ad.add j) = some v
theorem run_loadCellsFrom {P : Program} {w : World} {ad : Addr} : ∀ (cs : List Value) (i : Nat) (acc : Array Value), (∀ j v, cs[j]? = some v → w.cell? (ad.add (i + j)) = some v) →
  (loadCellsFrom ad i cs.length acc).run P w = .ok (acc ++ cs.toArray) w
 | [], i, acc, _ => by simp [loadCellsFrom]
 | c :: cs, i, acc, h => by
  have h0 := h 0 c rfl
  simp only [Nat.add_zero] at h0
  have := run_loadCellsFrom (P := P) cs (i + 1) (acc.push c) (fun j v hj => by have := h (j + 1) v (by simpa using hj); rwa [show i + 1 + j = i + (j + 1) from by omega])
  simp only [List.length_cons, loadCellsFrom, Sem.run_bind, load, Sem.run, h0, Result.andThen_ok, this]
  simp
theorem run_loadVar_agg {P : Program} {t : TypeId} {sz : Nat} [Ty P t sz true] {w : World} {ad : Addr} {cs : List Value} (hl : cs.length = sz) (h : CellsAt w ad cs) :
  (loadVar t ad).run P w = .ok (.agg cs.toArray) w := by
 have := run_loadCellsFrom (P := P) cs 0 #[] (fun j v hj => by simpa using h j v hj)
 subst hl
 simp only [loadVar, Sem.run_bind, run_isAgg, Result.andThen_ok, if_true, run_sizeOf, loadCells, this, Sem.run_pure]
 simp
theorem run_loadVar_one {P : Program} {t : TypeId} {sz : Nat} [Ty P t sz false] {w : World} {ad : Addr} {v : Value} (h : w.cell? ad = some v) :
  (loadVar t ad).run P w = .ok v w := by
 simp only [loadVar, Sem.run_bind, run_isAgg, Result.andThen_ok, Bool.false_eq_true, if_false, load, Sem.run, h]
def setCells (w : World) (ad : Addr) : List Value → Nat → World
 | [], _ => w
 | v :: r, i => setCells (w.setCell (ad.add i) v) ad r (i + 1)
section
variable {P : Program} {n : Nat} {wr : World} {ops : Array Oper} {rest : List Oper} {K : Fr → List It → Prop} {fr : Fr} {O : List It} {ty : TypeId} {pos : String} {af : Array Edge} {d : Nat}
theorem Pu_pickT {c x y : Operand} {v : Value} (hc : ev fr c = some (.bool true)) (hx : ev fr x = some v) : Pu P n wr fr O (.pick c x y) ty (v) :=
 fun a w hs _ _ _ _ => by simp [execOp, hs.sim.ev hc, hs.sim.ev hx, asBool]
theorem Pu_pickF {c x y : Operand} {v : Value} (hc : ev fr c = some (.bool false)) (hx : ev fr y = some v) : Pu P n wr fr O (.pick c x y) ty (v) :=
 fun a w hs _ _ _ _ => by simp [execOp, hs.sim.ev hc, hs.sim.ev hx, asBool]
theorem Pu_fieldAddr {s f off sz : Nat} {ag : Bool} {x : Operand} {ad : Addr} [hF : FieldAt P s f off sz ag] (hx : ev fr x = some (.pointer (some ad))) : Pu P n wr fr O (.fieldAddr s x f) ty (.pointer (some (ad.add off))) :=
 fun a w hs _ _ _ _ => by
  have h := hF.h
  unfold fieldChk at h
  split at h
  ·rename_i fs hu
   split at h
   ·rename_i fld hf
    split at h
    ·rename_i sz' ag' ht
     split at h
     ·cases h
     ·rename_i hne
      simp only [Option.some.injEq, Prod.mk.injEq] at h
      obtain ⟨rfl, rfl, rfl⟩ := h
      obtain ⟨i, dd, hi, hs', _, _⟩ := Ty.parts ht
      simp only [execOp, hs.sim.ev hx, Instr.fieldAt, Sem.run_bind, run_underlying hu, Result.andThen_ok, hf, Instr.sureAddr, Sem.run_pure, fieldPlace, sizeOf, run_typeInfo hi, hs', if_neg hne]
    ·cases h
   ·cases h
  ·cases h
theorem Pu_load1 {t sz : Nat} {x : Operand} {ad : Addr} {v : Value} [Ty P t sz false] (hx : ev fr x = some (.pointer (some ad)))
  (h : ∀ w, Bel wr.heap.size wr w → Holds wr.heap.size O w → w.cell? ad = some v) : Pu P n wr fr O (.load t x) ty (v) :=
 fun a w hs _ _ _ _ => by simp only [execOp, hs.sim.ev hx, Instr.loadAt, Instr.sureAddr, Sem.run_bind, Sem.run_pure, Result.andThen_ok, run_loadVar_one (h w hs.old hs.own)]
theorem Pu_loadN {t sz : Nat} {x : Operand} {ad : Addr} {cs : List Value} [Ty P t sz true] (hx : ev fr x = some (.pointer (some ad))) (hl : cs.length = sz)
  (h : ∀ w, Bel wr.heap.size wr w → Holds wr.heap.size O w → CellsAt w ad cs) : Pu P n wr fr O (.load t x) ty (.agg cs.toArray) :=
 fun a w hs _ _ _ _ => by simp only [execOp, hs.sim.ev hx, Instr.loadAt, Instr.sureAddr, Sem.run_bind, Sem.run_pure, Result.andThen_ok, run_loadVar_agg hl (h w hs.old hs.own)]
theorem blk_cell {w : World} {b : Nat} {cs : List Value} {t : TypeId} (h : (It.blk b cs t).sat w) (j : Nat) : w.cell? ⟨b, j, none⟩ = cs[j]? := by
 simp only [It.sat] at h
 simp [World.cell?, h]
theorem Pu_loadB1 {t sz b j : Nat} {x : Operand} {cs : List Value} {bt : TypeId} {v : Value} {R : List It} [Ty P t sz false] (hx : ev fr x = some (.pointer (some ⟨b, j, none⟩)))
  (hp : Pick (.blk b cs bt) O R) (hv : cs[j]? = some v) : Pu P n wr fr O (.load t x) ty (v) :=
 Pu_load1 hx (fun w _ hO => by rw [blk_cell (hO.sat _ (hp.perm.mem_iff.2 List.mem_cons_self)), hv])
theorem add_mk (b j i : Nat) : (⟨b, j, none⟩ : Addr).add i = ⟨b, j + i, none⟩ := by
 unfold Addr.add
 split
 ·rename_i h; subst h; rfl
 ·rfl
theorem Pu_loadBN {t sz b j : Nat} {x : Operand} {cs : List Value} {bt : TypeId} {R : List It} [Ty P t sz true] (hx : ev fr x = some (.pointer (some ⟨b, j, none⟩)))
  (hp : Pick (.blk b cs bt) O R) {vs : List Value} (hv : (cs.drop j).take sz = vs) (hl : vs.length = sz) : Pu P n wr fr O (.load t x) ty (.agg vs.toArray) :=
 Pu_loadN hx hl (fun w _ hO i v hi => by
  rw [add_mk, blk_cell (hO.sat _ (hp.perm.mem_iff.2 List.mem_cons_self))]
  subst hv
  rw [List.getElem?_take] at hi
  split at hi
  ·rw [← hi, List.getElem?_drop]
  ·cases hi)
theorem St.fresh {a : Act} {w : World} {cs : List Value} {t : TypeId} (hs : St n wr fr O a w) :
  Bel wr.heap.size wr (w.alloc (.cells cs.toArray t)) ∧ Holds wr.heap.size (.blk w.heap.size cs t :: O) (w.alloc (.cells cs.toArray t)) := by
 have hB : Bel w.heap.size w (w.alloc (.cells cs.toArray t)) := (Bel.refl _ _).alloc (Nat.le_refl _) _
 refine ⟨hs.old.trans (hB.mono hs.old.size), ?_⟩
 refine hs.own.grow (O' := [.blk w.heap.size cs t]) hB hs.old.size ⟨fun i hi => ?_, fun i hi b hb => ?_, List.pairwise_singleton _ _⟩
 ·rw [List.mem_singleton.1 hi]
  exact heap_alloc_new w _
 ·rw [List.mem_singleton.1 hi] at hb
  simp only [It.S] at hb
  subst hb
  exact ⟨Nat.le_refl _, by simp⟩
theorem Stp_box {t : TypeId} {x : Operand} {v : Value} {dst : Option Tmp} {g : Option (Nat × Bool)} {Kp : Value → List It → Prop} (hx : ev fr x = some v)
  (k : ∀ b, Kp (.pointer (some ⟨b, 0, none⟩)) (.blk b v.cells.toList t :: O)) : Stp P n wr fr O ⟨dst, .box t x, ty, pos, af, g⟩ Kp :=
 Stp_val fun a w hs => ⟨.pointer (some ⟨w.heap.size, 0, none⟩), w.alloc (.cells v.cells t), _, by
  simp [execOp, hs.sim.ev hx, Instr.box, newVar, newRow, newObj, Sem.run],
  by have := (hs.fresh (cs := v.cells.toList) (t := t)).1; simpa using this, by have := (hs.fresh (cs := v.cells.toList) (t := t)).2; simpa using this, k _⟩
theorem Stp_alloc {t : TypeId} {z : List Value} {dst : Option Tmp} {g : Option (Nat × Bool)} {Kp : Value → List It → Prop} [hz : ZeroT P t z]
  (k : ∀ b, Kp (.pointer (some ⟨b, 0, none⟩)) (.blk b z t :: O)) : Stp P n wr fr O ⟨dst, .alloc t, ty, pos, af, g⟩ Kp :=
 Stp_val fun a w hs => by
  have h := hz.h
  unfold zeroChk at h
  split at h
  ·rename_i i hi
   split at h
   ·rename_i zv hzv
    simp only [Option.some.injEq] at h
    subst h
    refine ⟨.pointer (some ⟨w.heap.size, 0, none⟩), w.alloc (.cells zv.cells t), _, ?_, by have := (hs.fresh (cs := zv.cells.toList) (t := t)).1; simpa using this, by have := (hs.fresh (cs := zv.cells.toList) (t := t)).2; simpa using this, k _⟩
    simp [execOp, Instr.alloc, zeroValue, run_typeInfo hi, hzv, newVar, newRow, newObj, Sem.run]
   ·cases h
  ·cases h
theorem run_storeCells {P : Program} {ad : Addr} : ∀ (vs : List Value) (w : World) (i : Nat), (∀ v ∈ vs, v.oneCell' = true) → (∀ j, j < vs.length → (w.cell? (ad.add (i + j))).isSome ∧ w.frozen? (ad.add (i + j)) = false) →
  (storeCells ad vs i).run P w = .ok () (setCells w ad vs i)
 | [], w, i, _, _ => by simp [storeCells, setCells]
 | v :: r, w, i, h1, h2 => by
  have h0 := h2 0 (by simp)
  simp only [Nat.add_zero] at h0
  obtain ⟨u, hu⟩ := Option.isSome_iff_exists.1 h0.1
  have hone := h1 v List.mem_cons_self
  have ih := run_storeCells (P := P) (ad := ad) r (w.setCell (ad.add i) v) (i + 1) (fun x hx => h1 x (List.mem_cons_of_mem _ hx)) (fun j hj => by
   have := h2 (j + 1) (by simpa using hj)
   rw [show i + (j + 1) = i + 1 + j from by omega] at this
   refine ⟨?_, ?_⟩
   ·obtain ⟨x, hx⟩ := Option.isSome_iff_exists.1 this.1
    obtain ⟨y, hy⟩ := cell?_setCell_some (w := w) (p := ad.add i) (x := v) (q := ad.add (i + 1 + j)) (v := x) hx
    simp [hy]
   ·rw [World.frozen?_setCell]; exact this.2)
  have hst : (store (ad.add i) v).run P w = .ok () (w.setCell (ad.add i) v) := by
   cases v <;> first | (simp [Value.oneCell'] at hone; done) | simp [store, Sem.run, hu, h0.2]
  simp only [storeCells, Sem.run_bind, hst, Result.andThen_ok, ih, setCells]
theorem setCells_heap {ad : Addr} : ∀ (vs : List Value) (w : World) (i b : Nat), b ≠ ad.block → (setCells w ad vs i).heap[b]? = w.heap[b]?
 | [], _, _, _, _ => rfl
 | v :: r, w, i, b, hb => by
  rw [setCells, setCells_heap r _ _ b hb, Below.heap_setCell]
  intro e
  apply hb
  rw [e]
  unfold Addr.add
  split <;> rfl
theorem setCells_size {ad : Addr} : ∀ (vs : List Value) (w : World) (i : Nat), (setCells w ad vs i).heap.size = w.heap.size
 | [], _, _ => rfl
 | v :: r, w, i => by rw [setCells, setCells_size r]; simp [World.setCell]
theorem setCells_os {ad : Addr} : ∀ (vs : List Value) (w : World) (i : Nat), (setCells w ad vs i).os = w.os ∧ (setCells w ad vs i).tape = w.tape ∧ (setCells w ad vs i).output = w.output
 | [], _, _ => ⟨rfl, rfl, rfl⟩
 | v :: r, w, i => by rw [setCells]; exact setCells_os r _ _
def lay (cs : List Value) (j : Nat) : List Value → List Value
 | [] => cs
 | v :: r => lay (cs.set j v) (j + 1) r
theorem lay_length (j : Nat) : ∀ (vs cs : List Value), (lay cs j vs).length = cs.length
 | [], _ => rfl
 | v :: r, cs => by rw [lay, lay_length (j + 1) r, List.length_set]
theorem setCells_blk {b j : Nat} {t : TypeId} : ∀ (vs cs : List Value) (w : World) (i : Nat), w.heap[b]? = some (.cells cs.toArray t (0, 0)) →
  (setCells w ⟨b, j, none⟩ vs i).heap[b]? = some (.cells (lay cs (j + i) vs).toArray t (0, 0))
 | [], _, _, _, h => h
 | v :: r, cs, w, i, h => by
  rw [setCells, lay, show j + i + 1 = j + (i + 1) from rfl]
  refine setCells_blk r (cs.set (j + i) v) _ (i + 1) ?_
  rw [add_mk]
  simp [World.setCell, Array.getElem?_modify, h]
theorem Stp_storeB {t sz b j : Nat} {ag : Bool} {x y : Operand} {cs : List Value} {bt : TypeId} {v : Value} {vs cs' : List Value} {O' : List It} {dst : Option Tmp} {g : Option (Nat × Bool)} {Kp : Value → List It → Prop} [hT : Ty P t sz ag]
  (hx : ev fr x = some (.pointer (some ⟨b, j, none⟩))) (hy : ev fr y = some v)
  (hu : Upd O (.blk b cs bt) (.blk b cs' bt) O') (hvs : v.cells.toList = vs) (hl : vs.length = sz) (h1 : vs.all Value.oneCell' = true) (hj : Nat.ble (j + sz) cs.length = true) (hc : lay cs j vs = cs')
  (k : Kp undef O') : Stp P n wr fr O ⟨dst, .store t x y, ty, pos, af, g⟩ Kp := by
 refine Stp_skip fun a w hs => ?_
 have hj' : j + sz ≤ cs.length := Nat.le_of_ble_eq_true hj
 have hsat := hs.own.sat _ hu.mem
 have hb := hs.own.inb _ hu.mem b rfl
 have hcell : ∀ i, w.cell? ⟨b, i, none⟩ = cs[i]? := fun i => blk_cell hsat i
 have hfz : ∀ i, w.frozen? ⟨b, i, none⟩ = false := fun i => by
  simp only [It.sat] at hsat
  simp [World.frozen?, hsat]
 have hrun := run_storeCells (P := P) (ad := ⟨b, j, none⟩) vs w 0 (fun u hu => List.all_eq_true.1 h1 u hu) (fun i hi => by
  rw [add_mk, hcell, hfz]
  refine ⟨?_, rfl⟩
  rw [List.getElem?_eq_getElem (by omega)]
  rfl)
 refine ⟨setCells w ⟨b, j, none⟩ vs 0, O', ?_, ?_, ?_, k⟩
 ·have hsz : v.cells.size = sz := by rw [← hl, ← hvs]; simp
  simp only [execOp, hs.sim.ev hx, hs.sim.ev hy, Instr.storeAt, Instr.sureAddr, Sem.run_bind, Sem.run_pure, Result.andThen_ok, storeVar, run_sizeOf, hsz, ne_eq, not_true, if_false, hvs, hrun]
 ·refine hs.old.trans ⟨⟨(setCells_os vs w 0).1, (setCells_os vs w 0).2.1, (setCells_os vs w 0).2.2, by rw [setCells_size]; exact Nat.le_refl _, fun i hi => setCells_heap vs w 0 i (by show i ≠ b; omega)⟩⟩
 ·refine hs.own.upd hu hs.old.size (by rw [setCells_size]; exact Nat.le_refl _) (fun i _ hi => setCells_heap vs w 0 i hi) ?_ (fun i hi => Or.inl hi)
  have := setCells_blk (b := b) (j := j) (t := bt) vs cs w 0 hsat
  simp only [Nat.add_zero] at this
  rw [hc] at this
  exact this
end
end Go.Wk
