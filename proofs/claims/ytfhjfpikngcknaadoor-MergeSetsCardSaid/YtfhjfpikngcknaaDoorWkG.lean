/- Slices that the call owns, literals of slices, maps with string keys. -/
import Derived.Test.YtfhjfpikngcknaaDoorData
import Derived.Test.YtfhjfpikngcknaaDoorWkF
import Derived.Maps.AppendAt
import Derived.Lib.SliceRun
namespace Go.Wk
open Go Go.RowKit

def elemZ (P : Program) (t : TypeId) : Option (TypeId × Nat × Nat × Bool) :=
  match P.underlying t with
  | some (.slice e) => match P.info? e with | some i => (match i.zero with | some z => some (e, i.size, i.bytes, Nat.beq z.cells.size i.size && Nat.ble 1 i.size) | none => none) | none => none
  | _ => none
/-- A slice type whose elements have cells. -/
class ElemZ (P : Program) (t : TypeId) (e : outParam TypeId) (sz bytes : outParam Nat) : Prop where
  h : elemZ P t = some (e, sz, bytes, true)
theorem ElemZ.parts {P : Program} {t e : TypeId} {sz bytes : Nat} (h : elemZ P t = some (e, sz, bytes, true)) :
    ∃ i z, P.underlying t = some (.slice e) ∧ P.info? e = some i ∧ i.zero = some z ∧ i.size = sz ∧ i.bytes = bytes ∧ z.cells.size = sz ∧ 0 < sz := by
  unfold elemZ at h
  split at h
  · rename_i e' hu
    split at h
    · rename_i i hi
      split at h
      · rename_i z hz
        simp only [Option.some.injEq, Prod.mk.injEq, Bool.and_eq_true] at h
        obtain ⟨rfl, rfl, rfl, h1, h2⟩ := h
        exact ⟨i, z, hu, hi, hz, rfl, rfl, Nat.eq_of_beq_eq_true h1, Nat.le_of_ble_eq_true h2⟩
      · cases h
    · cases h
  · cases h

def zeroV (P : Program) (t : TypeId) : Option Value := match P.info? t with | some i => i.zero | none => none
class ZeroV (P : Program) (t : TypeId) (v : outParam Value) : Prop where
  h : zeroV P t = some v
theorem run_zeroV {P : Program} {t : TypeId} {v : Value} [hz : ZeroV P t v] {w : World} : (zeroValue t).run P w = .ok v w := by
  have h := hz.h
  unfold zeroV at h
  split at h
  · rename_i i hi
    simp [zeroValue, run_typeInfo hi, h]
  · cases h

/-- What a slice value of n elements reads: raw cells. -/
def Raw (w : World) (A : Option Addr) (cs : List Value) : Prop := ∀ j u, cs[j]? = some u → A ≠ none ∧ w.cell? ((adr A).add j) = some u

theorem add_of_add (a : Addr) (i j : Nat) : (a.add i).add j = a.add (i + j) := by
  unfold Addr.add
  by_cases hi : i = 0 <;> by_cases hj : j = 0 <;> simp [hi, hj, Nat.add_assoc]

theorem run_append_of_nil {P : Program} (w : World) (base : Nat) (t ty e : TypeId) (i : TypeInfo) (size : Nat) (ht : P.underlying t = some (.slice e)) (hi : P.info? e = some i)
    (v : Value) (n : Nat) (xs : List Value) (hown : w.ownsRow base e size v n xs) (c : Nat) : (Builtin.append_ #[t, t] ty #[v, .slice none 0 c]).run P w = .ok v w := by
  rcases hown.2 with ⟨rfl, rfl⟩ | ⟨g, cap, cur, rfl, _, _, hnc, _⟩
  · simp [Builtin.append_, run_underlying ht, sizeOf, typeInfo, hi, Builtin.lenOf, Builtin.firstCells]
  · simp [Builtin.append_, run_underlying ht, sizeOf, typeInfo, hi, Builtin.lenOf, Builtin.firstCells, hnc, storeCells]

theorem row_form {w : World} {e : TypeId} {size n : Nat} {v : Value} {xs : List Value} (h : w.ownsRow 0 e size v n xs) :
    ∃ A c, v = .slice A n c ∧ n ≤ c ∧ c ≤ maxLen ∧ (0 < n → A ≠ none) ∧ xs.length = n * size := by
  refine (h.2.elim ?_ ?_)
  · rintro ⟨rfl, rfl⟩
    exact ⟨none, 0, rfl, Nat.le_refl _, Nat.zero_le _, fun h => absurd h (by omega), h.1⟩
  · rintro ⟨g, cap, cur, rfl, _, _, h1, h2, _⟩
    exact ⟨_, cap, rfl, h1, h2, fun _ => by simp, h.1⟩

theorem row_cell {w : World} {e : TypeId} {size n c : Nat} {A : Option Addr} {xs : List Value} (h : w.ownsRow 0 e size (.slice A n c) n xs) {j : Nat} {u : Value} (hj : xs[j]? = some u) : A ≠ none ∧ w.cell? ((adr A).add j) = some u := by
  have hlen := h.1
  have hlt : j < xs.length := (List.getElem?_eq_some_iff.1 hj).1
  rcases h.2 with ⟨hv, hn⟩ | ⟨g, cap, cur, hv, _, hg, _, _, _, hx⟩
  · subst hn
    rw [hlen] at hlt
    simp at hlt
  · injection hv with hA _ hc
    subst hA
    refine ⟨by simp, ?_⟩
    simp only [adr, Option.getD_some, add_mk, Nat.zero_add]
    rw [World.cell?]
    simp only [hg]
    rw [← hx] at hj
    have hj2 : j < n * size := by omega
    rw [List.getElem?_take, if_pos hj2] at hj
    simpa using hj

section
variable {P : Program} {n : Nat} {wr : World} {ops : Array Oper} {rest : List Oper} {K : Fr → List It → Prop} {fr : Fr} {O : List It} {ty : TypeId} {pos : String} {af : Array Edge} {dst : Option Tmp} {g : Option (Nat × Bool)} {Kp : Value → List It → Prop}

theorem W_fact {c : Code} {Q : Exit → Fr → List It → Prop} {φ : Prop} (hφ : ∀ w, Below wr.heap.size wr w → Holds wr.heap.size O w → φ) (h : φ → W P n wr c Q fr O) : W P n wr c Q fr O := fun a w hs => h (hφ w hs.old hs.own) a w hs
theorem RL_fact {l : List Oper} {φ : Prop} (hφ : ∀ w, Below wr.heap.size wr w → Holds wr.heap.size O w → φ) (h : φ → RL P n wr ops l K fr O) : RL P n wr ops l K fr O := fun a w hs => h (hφ w hs.old hs.own) a w hs

/-- A nil slice owns nothing. -/
theorem Holds.rowNil {base : Nat} {w : World} (h : Holds base O w) (e : TypeId) (size : Nat) : Holds base (.row (.slice none 0 0) e size 0 [] :: O) w :=
  ⟨fun i hi => by
    rcases List.mem_cons.1 hi with rfl | hi
    · exact World.ownsRow_nil w 0 e size
    · exact h.sat i hi, fun i hi b hb => by
    rcases List.mem_cons.1 hi with rfl | hi
    · simp [It.S, Value.ownBlock] at hb
    · exact h.inb i hi b hb, List.pairwise_cons.2 ⟨fun _ _ b hb => by simp [It.S, Value.ownBlock] at hb, h.sep⟩⟩
theorem W_nil {c : Code} {Q : Exit → Fr → List It → Prop} (e : TypeId) (size : Nat) (h : W P n wr c Q fr (.row (.slice none 0 0) e size 0 [] :: O)) : W P n wr c Q fr O := fun a w hs => h a w ⟨hs.sim, hs.old, hs.own.rowNil e size⟩
theorem RL_nilRow {l : List Oper} (e : TypeId) (size : Nat) (h : RL P n wr ops l K fr (.row (.slice none 0 0) e size 0 [] :: O)) : RL P n wr ops l K fr O := fun a w hs => h a w ⟨hs.sim, hs.old, hs.own.rowNil e size⟩

/-- A block read as a row. -/
theorem Holds.toRow {base b m : Nat} {cs : List Value} {t : TypeId} {O' : List It} {w : World} (h : Holds base O w) (size : Nat) (hc : cs.length = m * size) (hm : m ≤ maxLen) (hu : Upd O (.blk b cs t) (.row (.slice (some ⟨b, 0, none⟩) m m) t size m cs) O') : Holds base O' w := by
  have hsat := h.sat _ hu.mem
  have hin := h.inb _ hu.mem b rfl
  obtain ⟨R, h1, h2⟩ := hu.parts
  have h3 := h.perm h1
  refine (?_ : Holds base (_ :: R) w).perm h2.symm
  refine ⟨fun i hi => ?_, fun i hi => ?_, List.pairwise_cons.2 ⟨fun j hj k hk => ?_, (List.pairwise_cons.1 h3.sep).2⟩⟩
  · rcases List.mem_cons.1 hi with rfl | hi
    · exact ⟨hc, .inr ⟨b, m, cs.toArray, rfl, Nat.zero_le _, hsat, Nat.le_refl _, hm, by simpa using hc, by rw [← hc]; simp⟩⟩
    · exact h3.tail.sat i hi
  · rcases List.mem_cons.1 hi with rfl | hi
    · intro k hk
      simp only [It.S, Value.ownBlock, Option.some.injEq] at hk
      subst hk
      exact hin
    · exact h3.tail.inb i hi
  · simp only [It.S, Value.ownBlock, Option.some.injEq] at hk
    subst hk
    exact (List.pairwise_cons.1 h3.sep).1 j hj b rfl
theorem RL_toRow {l : List Oper} {b m : Nat} {cs : List Value} {t : TypeId} {O' : List It} (size : Nat) (hu : Upd O (.blk b cs t) (.row (.slice (some ⟨b, 0, none⟩) m m) t size m cs) O') (hc : cs.length = m * size) (hm : m ≤ maxLen)
    (h : RL P n wr ops l K fr O') : RL P n wr ops l K fr O := fun a w hs => h a w ⟨hs.sim, hs.old, hs.own.toRow size hc hm hu⟩
theorem W_toRow {c : Code} {Q : Exit → Fr → List It → Prop} {b m : Nat} {cs : List Value} {t : TypeId} {O' : List It} (size : Nat) (hu : Upd O (.blk b cs t) (.row (.slice (some ⟨b, 0, none⟩) m m) t size m cs) O') (hc : cs.length = m * size) (hm : m ≤ maxLen)
    (h : W P n wr c Q fr O') : W P n wr c Q fr O := fun a w hs => h a w ⟨hs.sim, hs.old, hs.own.toRow size hc hm hu⟩

theorem Pu_loadR1 {t sz e size p q m c : Nat} {x : Operand} {A : Option Addr} {xs : List Value} {v : Value} {R : List It} [Ty P t sz false] (hx : ev fr x = some (.pointer (some (((adr A).add p).add q))))
    (hp : Pick (.row (.slice A m c) e size m xs) O R) (hv : xs[p + q]? = some v) : Pu P n wr fr O (.load t x) ty v :=
  Pu_load1 hx fun w _ hO => by
    have := (row_cell (hO.sat _ (hp.perm.mem_iff.2 List.mem_cons_self)) hv).2
    rw [add_of_add]
    exact this

/-- append onto a row of the call's own. -/
theorem Stp_append {t e sz bytes : Nat} {s x : Operand} {A B : Option Addr} {m c k c2 : Nat} {xs news : List Value} {O' : Option Addr → Nat → List It} [hE : ElemZ P t e sz bytes]
    (hs : ev fr s = some (.slice A m c)) (hx : ev fr x = some (.slice B k c2))
    (hu : ∀ A' c', Upd O (.row (.slice A m c) e sz m xs) (.row (.slice A' (m + k) c') e sz (m + k) (xs ++ news)) (O' A' c'))
    (hraw : ∀ w, Below wr.heap.size wr w → Holds wr.heap.size O w → Raw w B news) (hl : news.length = k * sz) (h1 : news.all Value.oneCell' = true) (h63 : m + k ≤ maxLen) (hb : (m + k) * bytes ≤ 140737488355328)
    (kk : ∀ A' c', m + k ≤ c' → c' ≤ maxLen → (0 < m + k → A' ≠ none) → Kp (.slice A' (m + k) c') (O' A' c')) : Stp P n wr fr O ⟨dst, .call ⟨.builtin .append, #[s, x], #[t, t]⟩, ty, pos, af, g⟩ Kp := by
  refine Stp_val fun a w hst => ?_
  obtain ⟨i, z, ht, hi, hz, hsz, hby, hzs, hpos⟩ := ElemZ.parts hE.h
  have hown : w.ownsRow 0 e sz (.slice A m c) m xs := hst.own.sat _ (hu none 0).mem
  have hr := hraw w hst.old hst.own
  have key : ∃ v' w', (Builtin.append_ #[t, t] ty #[.slice A m c, .slice B k c2]).run P w = .ok v' w' ∧ w'.ownsRow 0 e sz v' (m + k) (xs ++ news) ∧ w.grownBy w' (Value.slice A m c).ownBlock ∧
      (v'.ownBlock = (Value.slice A m c).ownBlock ∨ v'.ownBlock = some w.heap.size) := by
    rcases B with _ | ad
    · have hn : news = [] := by
        cases hnw : news with
        | nil => rfl
        | cons u r =>
          rw [hnw] at hr
          exact absurd rfl (hr 0 u rfl).1
      subst hn
      have hk : k = 0 := by
        rcases Nat.eq_zero_or_pos k with h | h
        · exact h
        · have := Nat.mul_pos h hpos
          simp at hl
          omega
      subst hk
      exact ⟨_, w, run_append_of_nil w 0 t ty e i sz ht hi _ m xs hown c2, by simpa using hown, World.grownBy.refl w _, .inl rfl⟩
    · obtain ⟨v', w', hrun, h2, h3, _, h5⟩ := run_append_own_at (P := P) w 0 t ty e i z sz bytes ht hi hz hsz hby hzs hpos _ m xs hown ad k c2 news hl (fun j u hu => by simpa [adr] using (hr j u hu).2) (fun u hu => List.all_eq_true.1 h1 u hu) h63 hb (Nat.zero_le _)
      exact ⟨v', w', hrun, h2, h3, h5⟩
  obtain ⟨v', w', hrun, h2, h3, h5⟩ := key
  obtain ⟨A', c', rfl, hc1, hc2, hc3, _⟩ := row_form h2
  have hinb := hst.own.inb _ (hu A' c').mem
  refine ⟨_, w', O' A' c', ?_, ?_, ?_, kk A' c' hc1 hc2 hc3⟩
  · simp only [execOp, resolve, invoke, builtin, Sem.run_bind, Sem.run_pure, Result.andThen_ok, List.map_toArray, List.map_cons, List.map_nil, hst.sim.ev hs, hst.sim.ev hx, hrun]
  · exact hst.old.grown h3 hst.old.size fun k' hk' => (hinb k' hk').1
  · refine hst.own.upd (hu A' c') hst.old.size h3.size (fun b hb hS => h3.block b hb fun he => hS he.symm) h2 fun b hb => ?_
    simp only [It.S] at hb ⊢
    rcases h5 with h5 | h5
    · left; rw [← h5]; exact hb
    · right
      rw [h5] at hb
      injection hb with hb
      subst hb
      refine ⟨Nat.le_refl _, ?_⟩
      have := h2.lt w.heap.size h5
      exact this.2

/-- A literal of a slice: a new block. -/
def sliceZ (len sz : Nat) (z : List Value) : List Value := (List.range (len * sz)).map fun i => z[i % z.length]!
def places (len sz : Nat) : List (Nat × Nat) := (List.range len).map fun i => (i * sz, sz)

theorem fill_bldS (sz : Nat) : ∀ (len : Nat) (ps : List (Nat × Value)) (cs cs' : List Value), bld (places len sz) cs ps = some cs' → Instr.fill (fun i => some (i * sz, sz)) cs.toArray ps = some cs'.toArray
  | _, [], cs, cs', h => by simp only [bld, Option.some.injEq] at h; subst h; rfl
  | len, (i, v) :: r, cs, cs', h => by
    simp only [bld] at h
    split at h
    · cases h
    · rename_i off s hi
      cases hb : (Nat.beq v.cells.toList.length s && Nat.ble (off + s) cs.length) with
      | false => rw [hb] at h; cases h
      | true =>
        rw [hb] at h
        simp only [Bool.and_eq_true] at hb
        have h1 := Nat.eq_of_beq_eq_true hb.1
        have h2 := Nat.le_of_ble_eq_true hb.2
        have hoff : off = i * sz ∧ s = sz := by
          simp only [places, List.getElem?_map, Option.map_eq_some_iff] at hi
          obtain ⟨k, hk, e⟩ := hi
          have hki : k = i := by
            have := List.getElem?_eq_some_iff.1 hk
            simpa using this.2.symm
          subst hki
          simp only [Prod.mk.injEq] at e
          exact ⟨e.1.symm, e.2.symm⟩
        obtain ⟨rfl, rfl⟩ := hoff
        simp only [Instr.fill]
        have h1' : v.cells.size = s := by simpa using h1
        rw [if_neg (by simp [h1']; omega)]
        have hf := fill_foldl (i * s) v.cells.toList cs 0
        have hz : (Array.zipIdx v.cells).foldl (fun (cs : Array Value) (p : Value × Nat) => cs.setIfInBounds (i * s + p.2) p.1) cs.toArray = (lay cs (i * s) v.cells.toList).toArray := by
          rw [← Array.foldl_toList, Array.toList_zipIdx]
          simpa using hf
        have ih := fill_bldS s len r (lay cs (i * s) v.cells.toList) cs' (by simpa using h)
        rw [← ih, ← hz]

theorem run_buildSlice {t e sz bytes len : Nat} {z : List Value} {vs : List (Nat × Value)} {cs : List Value} [hE : ElemZ P t e sz bytes] [hz : ZeroT P e z] (hlen : Nat.ble (len * sz) 16777216 = true) (hb : bld (places len sz) (sliceZ len sz z) vs = some cs) (w : World) :
    (Instr.buildSlice t len vs.toArray).run P w = .ok (.slice (some ⟨w.heap.size, 0, none⟩) len len) (w.alloc (.cells cs.toArray e)) := by
  obtain ⟨i, zv, ht, hi, hzv, hsz, hby, hzs, hpos⟩ := ElemZ.parts hE.h
  have h := hz.h
  unfold zeroChk at h
  rw [hi] at h
  simp only [hzv, Option.some.injEq] at h
  have hle : ¬ len * sz > 2 ^ 24 := by have := Nat.le_of_ble_eq_true hlen; omega
  have hf := fill_bldS sz len vs (sliceZ len sz z) cs hb
  simp only [Instr.buildSlice, Sem.run_bind, run_underlying ht, Result.andThen_ok, sizeOf, run_typeInfo hi, hsz, if_neg hle, Sem.run_pure]
  by_cases h0 : len * sz = 0
  · have hcells : ((Array.range (len * sz)).map fun j => (#[] : Array Value)[j % (#[] : Array Value).size]!) = (sliceZ len sz z).toArray := by simp [h0, sliceZ]
    rw [if_pos h0]
    simp only [Sem.run_bind, Sem.run_pure, Result.andThen_ok]
    rw [hcells, hf]
    simp [newRow, newObj, Sem.run]
  · have hcells : ((Array.range (len * sz)).map fun j => zv.cells[j % zv.cells.size]!) = (sliceZ len sz z).toArray := by
      subst h
      simp only [sliceZ, Array.length_toList, Array.getElem!_toList]
      rw [← List.toArray_range, List.map_toArray]
    rw [if_neg h0]
    simp only [Sem.run_bind, Sem.run_pure, Result.andThen_ok, zeroValue, run_typeInfo hi, hzv]
    rw [hcells, hf]
    simp [newRow, newObj, Sem.run]

theorem Stp_buildSlice {t e sz bytes len : Nat} {z : List Value} {ps : List (Nat × Operand)} {vs : List (Nat × Value)} {cs : List Value} [hE : ElemZ P t e sz bytes] [hz : ZeroT P e z] (hx : evpO fr ps = some vs) (hlen : Nat.ble (len * sz) 16777216 = true)
    (hb : bld (places len sz) (sliceZ len sz z) vs = some cs) (kk : ∀ b, Kp (.slice (some ⟨b, 0, none⟩) len len) (.blk b cs e :: O)) : Stp P n wr fr O ⟨dst, .buildSlice t len ps.toArray, ty, pos, af, g⟩ Kp :=
  Stp_val fun a w hs => ⟨_, _, _, by
    have hps : (Array.map (fun (x : Nat × Operand) => (x.1, a.eval x.2)) ps.toArray) = vs.toArray := by
      have := hs.sim.evpO hx
      simpa using this
    simp only [execOp, hps, Sem.run_bind, run_buildSlice hlen hb, Result.andThen_ok, Sem.run_pure], hs.fresh.1, hs.fresh.2, kk _⟩

theorem Ay_buildSlice {t e sz bytes len : Nat} {z : List Value} {ps : List (Nat × Operand)} {vs : List (Nat × Value)} {cs : List Value} {d i dd : Nat} [hE : ElemZ P t e sz bytes] [hz : ZeroT P e z] (hx : evpO fr ps = some vs) (hlen : Nat.ble (len * sz) 16777216 = true)
    (hb : bld (places len sz) (sliceZ len sz z) vs = some cs) : Ay P n wr ops fr ⟨some d, .buildSlice t len ps.toArray, ty, pos, af, none⟩ ⟨i, dd, fun b => .slice (some ⟨b, 0, none⟩) len len, cs, e, fun b => .blk b cs e⟩ := ⟨ItOk.blk, fun a w hs => by
  refine ⟨rfl, ?_⟩
  have hps : (Array.map (fun (x : Nat × Operand) => (x.1, a.eval x.2)) ps.toArray) = vs.toArray := by
    have := hs.evpO hx
    simpa using this
  simp only [execOp, hps, Sem.run_bind, run_buildSlice hlen hb, Result.andThen_ok, Sem.run_pure]⟩

theorem row0_sat {w : World} {b e sz : Nat} (h : w.heap[b]? = some (.cells (List.toArray []) e (0, 0))) : (It.row (.slice (some ⟨b, 0, none⟩) 0 0) e sz 0 []).sat w :=
  ⟨by simp, .inr ⟨b, 0, #[], rfl, Nat.zero_le _, h, Nat.le_refl _, Nat.zero_le _, by simp, by simp⟩⟩
/-- An empty literal: a row of nothing. -/
theorem Stp_buildSlice0 {t e sz bytes : Nat} {z : List Value} [hE : ElemZ P t e sz bytes] [hz : ZeroT P e z] (kk : ∀ b, Kp (.slice (some ⟨b, 0, none⟩) 0 0) (.row (.slice (some ⟨b, 0, none⟩) 0 0) e sz 0 [] :: O)) : Stp P n wr fr O ⟨dst, .buildSlice t 0 #[], ty, pos, af, g⟩ Kp :=
  Stp_val fun a w hs => ⟨_, _, _, by
    have := run_buildSlice (P := P) (t := t) (len := 0) (vs := []) (cs := []) (by simp) (by simp [bld, sliceZ]) w
    simp only [execOp, List.map_toArray, List.map_nil, Sem.run_bind, this, Result.andThen_ok, Sem.run_pure], hs.fresh.1, hs.fresh.2.swapHead ⟨fun j => by simp [It.S, Value.ownBlock, eq_comm], fun _ h => row0_sat h⟩, kk _⟩
theorem Ay_buildSlice0 {t e sz bytes : Nat} {z : List Value} {d i dd : Nat} [hE : ElemZ P t e sz bytes] [hz : ZeroT P e z] : Ay P n wr ops fr ⟨some d, .buildSlice t 0 #[], ty, pos, af, none⟩ ⟨i, dd, fun b => .slice (some ⟨b, 0, none⟩) 0 0, [], e, fun b => .row (.slice (some ⟨b, 0, none⟩) 0 0) e sz 0 []⟩ :=
  ⟨fun _ => ⟨fun j => by simp [It.S, Value.ownBlock, eq_comm], fun _ h => row0_sat h⟩, fun a w _ => by
    refine ⟨rfl, ?_⟩
    have := run_buildSlice (P := P) (t := t) (len := 0) (vs := []) (cs := []) (by simp) (by simp [bld, sliceZ]) w
    simp only [execOp, List.map_toArray, List.map_nil, Sem.run_bind, this, Result.andThen_ok, Sem.run_pure]⟩

theorem Pu_eqNil {t t' e sz bytes : Nat} {x : Operand} {A : Option Addr} {m c : Nat} [hE : ElemT P t e sz bytes] (hx : ev fr x = some (.slice A m c)) : Pu P n wr fr O (.binOp .eql t x (.const (.slice none 0 0)) t') ty (.bool A.isNone) :=
  fun a w hs _ _ _ _ => by
    have h := hE.h
    unfold elemChk at h
    split at h
    · rename_i e' hu
      have hc : a.eval (.const (.slice none 0 0)) = .slice none 0 0 := rfl
      have hg : (eqGuard .eql t x (.const (.slice none 0 0)) (.slice A m c) (.slice none 0 0)).run P w = .ok () w := by simp [eqGuard]
      simp only [execOp, hs.sim.ev hx, hc, Sem.run_bind, hg, Result.andThen_ok, Lib.run_eql_slice_nil w t e' A m c 0 0 hu, Sem.run_pure]
    · cases h
end
end Go.Wk
