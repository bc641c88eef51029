/- Rows and lists of data. -/
import Derived.Test.YtfhjfpikngcknaaDoorWkH
namespace Go.Wk
open Go Go.RowKit

theorem flat_get {α : Type} {enc : α → List Value} {sz : Nat} (hsz : ∀ x, (enc x).length = sz) : ∀ (l : List α) (k : Nat) (x : α) (j : Nat) (v : Value), l[k]? = some x → (enc x)[j]? = some v → (l.flatMap enc)[k * sz + j]? = some v
  | [], k, x, j, v, h, _ => by simp at h
  | y :: l, 0, x, j, v, h, hv => by
    have e : y = x := by simpa using h
    subst e
    have hj : j < (enc y).length := (List.getElem?_eq_some_iff.1 hv).1
    simp only [List.flatMap_cons, Nat.zero_mul, Nat.zero_add]
    rw [List.getElem?_append_left hj]
    exact hv
  | y :: l, k + 1, x, j, v, h, hv => by
    have h' : l[k]? = some x := by simpa using h
    have ih := flat_get hsz l k x j v h' hv
    simp only [List.flatMap_cons]
    rw [List.getElem?_append_right (by rw [hsz, Nat.add_mul]; omega), hsz, show (k + 1) * sz + j - sz = k * sz + j from by rw [Nat.add_mul]; omega]
    exact ih
theorem flat_len {α : Type} {enc : α → List Value} {sz : Nat} (hsz : ∀ x, (enc x).length = sz) : ∀ l : List α, (l.flatMap enc).length = l.length * sz
  | [] => by simp
  | x :: l => by simp [List.flatMap_cons, hsz, flat_len hsz l, Nat.add_mul]; omega
theorem flat_at {α : Type} {enc : α → List Value} {sz : Nat} (hsz : ∀ x, (enc x).length = sz) (hpos : 0 < sz) (l : List α) (i : Nat) (u : Value) (h : (l.flatMap enc)[i]? = some u) : ∃ x, l[i / sz]? = some x ∧ (enc x)[i % sz]? = some u := by
  have hi : i < l.length * sz := by rw [← flat_len hsz]; exact (List.getElem?_eq_some_iff.1 h).1
  have hk : i / sz < l.length := (Nat.div_lt_iff_lt_mul hpos).2 hi
  have hm : i % sz < sz := Nat.mod_lt _ hpos
  refine ⟨l[i / sz], List.getElem?_eq_getElem hk, ?_⟩
  have hv : (enc l[i / sz])[i % sz]? = some ((enc l[i / sz])[i % sz]'(by rw [hsz]; exact hm)) := List.getElem?_eq_getElem _
  have := flat_get hsz l (i / sz) _ (i % sz) _ (List.getElem?_eq_getElem hk) hv
  rw [show i / sz * sz + i % sz = i from by rw [Nat.mul_comm]; exact Nat.div_add_mod i sz] at this
  rw [hv, ← this, h]

theorem rowRd {α : Type} {enc : α → List Value} {sz e c : Nat} {A : Option Addr} {l : List α} {w : World} (hsz : ∀ x, (enc x).length = sz) (h : (It.row (.slice A l.length c) e sz l.length (l.flatMap enc)).sat w) : RdSl w A c enc sz l := by
  obtain ⟨A', c', e1, h1, h2, _, _⟩ := row_form h
  injection e1 with e2 _ e3
  subst e2 e3
  refine ⟨h1, h2, fun k x hx => ⟨?_, fun j v hv => ?_⟩⟩
  · obtain ⟨_, _, e1, _, _, h3, _⟩ := row_form h
    injection e1 with e2 _ _
    subst e2
    exact h3 (by have := (List.getElem?_eq_some_iff.1 hx).1; omega)
  · rw [add_of_add]
    exact (row_cell h (flat_get hsz l k x j v hx hv)).2

theorem blkRaw {w : World} {b : Nat} {cs : List Value} {t : TypeId} (h : (It.blk b cs t).sat w) : Raw w (some ⟨b, 0, none⟩) cs := fun j u hu => ⟨by simp, by
  simp only [adr, Option.getD_some, add_mk, Nat.zero_add]
  rw [blk_cell h, hu]⟩
theorem rowRaw {w : World} {e size n c : Nat} {A : Option Addr} {xs : List Value} (h : (It.row (.slice A n c) e size n xs).sat w) : Raw w A xs := fun j u hu => row_cell h hu
theorem RdL.raw {α : Type} {enc : α → List Value} {sz : Nat} {A : Option Addr} {l : List α} {w : World} (hsz : ∀ x, (enc x).length = sz) (hpos : 0 < sz) (h : RdL w A enc sz l) : Raw w A (l.flatMap enc) := fun i u hu => by
  obtain ⟨x, h1, h2⟩ := flat_at hsz hpos l i u hu
  obtain ⟨h3, h4⟩ := h _ x h1
  refine ⟨h3, ?_⟩
  have := h4 _ u h2
  rw [add_of_add, show i / sz * sz + i % sz = i from by rw [Nat.mul_comm]; exact Nat.div_add_mod i sz] at this
  exact this
theorem Holds.of {base : Nat} {O R : List It} {A : It} {w : World} (h : Holds base O w) (hp : Pick A O R) : A.sat w := h.sat _ (hp.perm.mem_iff.2 List.mem_cons_self)

theorem all_flat {α : Type} {enc : α → List Value} (h : ∀ x, (enc x).all Value.oneCell' = true) : ∀ l : List α, (l.flatMap enc).all Value.oneCell' = true
  | [] => rfl
  | x :: l => by rw [List.flatMap_cons, List.all_append, h x, all_flat h l]; rfl

/-- A row's value in the spelling of its list. -/
theorem row_eq {A : Option Addr} {e sz n m c : Nat} {xs ys : List Value} (h1 : n = m) (h2 : xs = ys) : It.row (.slice A n c) e sz n xs = It.row (.slice A m c) e sz m ys := by rw [h1, h2]
theorem flat_snoc {α : Type} {enc : α → List Value} (l : List α) (x : α) : l.flatMap enc ++ enc x = (l ++ [x]).flatMap enc := by simp
end Go.Wk
namespace Go.Wk
open Go Go.RowKit
theorem row_some {w : World} {e size n c : Nat} {A : Option Addr} {xs : List Value} (h : (It.row (.slice A n c) e size n xs).sat w) (hn : 0 < n) : A ≠ none := by
  obtain ⟨A2, c2, e1, _, _, h5, _⟩ := row_form h
  injection e1 with e2 _ _
  subst e2
  exact h5 hn
section
variable {P : Program} {n : Nat} {wr : World} {fr : Fr} {O : List It} {ty : TypeId}
/-- A cell of a row of the call's own. -/
theorem Pu_loadR {t sz e size p m c : Nat} {x : Operand} {A : Option Addr} {xs : List Value} {v : Value} {R : List It} [Ty P t sz false] (hx : ev fr x = some (.pointer (some ((adr A).add p))))
    (hp : Pick (.row (.slice A m c) e size m xs) O R) (hv : xs[p]? = some v) : Pu P n wr fr O (.load t x) ty v :=
  Pu_load1 hx fun w _ hO => (row_cell (hO.of hp) hv).2
end
/-- What a loop that collects has at its head. -/
structure AG (α : Type) where
  k : Nat
  A : Option Addr
  c : Nat
  m : Nat
  xs : List Value
  acc : List α
theorem DRule.len (x : DRule) : x.enc.length = 11 := rfl
theorem DEra.len (x : DEra) : x.enc.length = 13 := rfl
theorem DLink.len (x : DLink) : x.enc.length = 2 := rfl
theorem strEnc.len (x : ByteArray) : (strEnc x).length = 1 := rfl
end Go.Wk
namespace Go.Wk
open Go Go.RowKit
section
variable {P : Program} {n : Nat} {wr : World} {fr : Fr} {O : List It} {ty : TypeId} {pos : String} {af : Array Edge} {dst : Option Tmp} {g : Option (Nat × Bool)} {Kp : Value → List It → Prop}
/-- append onto an empty row. -/
theorem Stp_append0 {t e sz bytes : Nat} {s x : Operand} {A B : Option Addr} {c k c2 : Nat} {news : List Value} {O' : Option Addr → Nat → List It} [hE : ElemZ P t e sz bytes]
    (hs : ev fr s = some (.slice A 0 c)) (hx : ev fr x = some (.slice B k c2))
    (hu : ∀ A' c', Upd O (.row (.slice A 0 c) e sz 0 []) (.row (.slice A' k c') e sz k news) (O' A' c'))
    (hraw : ∀ w, Below wr.heap.size wr w → Holds wr.heap.size O w → Raw w B news) (hl : news.length = k * sz) (h1 : news.all Value.oneCell' = true) (h63 : k ≤ maxLen) (hb : k * bytes ≤ 140737488355328)
    (kk : ∀ A' c', k ≤ c' → c' ≤ maxLen → (0 < k → A' ≠ none) → Kp (.slice A' k c') (O' A' c')) : Stp P n wr fr O ⟨dst, .call ⟨.builtin .append, #[s, x], #[t, t]⟩, ty, pos, af, g⟩ Kp :=
  Stp_append (O' := O') hs hx (fun A' c' => by rw [Nat.zero_add, List.nil_append]; exact hu A' c') hraw hl h1 (by omega) (by simpa using hb) (fun A' c' h2 h3 h4 => by
    have := kk A' c' (by omega) h3 (fun h => h4 (by omega))
    simpa using this)
end
theorem RdSl.none {α : Type} {w : World} {A : Option Addr} {c : Nat} {enc : α → List Value} {sz : Nat} {xs : List α} (h : RdSl w A c enc sz xs) (hA : A.isNone = true) : xs = [] := by
  cases xs with
  | nil => rfl
  | cons x l =>
    have := (h.rd 0 x rfl).1
    simp at hA
    exact absurd hA this
theorem oneR (x : DRule) : x.enc.all Value.oneCell' = true := rfl
theorem oneE (x : DEra) : x.enc.all Value.oneCell' = true := rfl
theorem oneL (x : DLink) : x.enc.all Value.oneCell' = true := rfl
theorem oneS (x : ByteArray) : (strEnc x).all Value.oneCell' = true := rfl
end Go.Wk

namespace Go.Wk
open Go Go.RowKit

theorem Pick.ofMem {A : It} : ∀ {O : List It}, A ∈ O → ∃ R, Pick A O R
  | [], h => by simp at h
  | x :: O, h => by
    rcases List.mem_cons.1 h with rfl | h
    · exact ⟨O, .here⟩
    · obtain ⟨R, hR⟩ := Pick.ofMem h
      exact ⟨x :: R, .there hR⟩
theorem SubO.ofPerm : ∀ {O' O R : List It}, O.Perm (O' ++ R) → SubO O' O
  | [], _, _, _ => .nil
  | A :: O', O, R, h => by
    obtain ⟨R', hp⟩ := Pick.ofMem (A := A) (h.mem_iff.2 (by simp))
    refine .cons hp (SubO.ofPerm (R := R) ?_)
    exact List.Perm.cons_inv (hp.perm.symm.trans h)
theorem SubO.app {O' O R : List It} (h : SubO O' O) : SubO O' (O ++ R) := by
  obtain ⟨R', hR⟩ := h.perm
  exact SubO.ofPerm (R := R' ++ R) (by rw [← List.append_assoc]; exact hR.append_right R)

theorem Holds.fact {base : Nat} {O1 O : List It} {w : World} {p : World → Prop} (h : Holds base (O1 ++ O) w) (hp : ∀ w', (∀ i ∈ O1, i.sat w') → p w') : Holds base (.fact (foot O1) p :: O) w := by
  obtain ⟨h1, h2, h3⟩ := List.pairwise_append.1 h.sep
  refine ⟨fun i hi => ?_, fun i hi b hb => ?_, List.pairwise_cons.2 ⟨fun j hj b hb hjb => ?_, h2⟩⟩
  · rcases List.mem_cons.1 hi with rfl | hi
    · exact fun w' ha => hp w' fun i hi => It.sat_congr (h.sat i (List.mem_append_left _ hi)) fun b hb => ha b ⟨i, hi, hb⟩
    · exact h.sat i (List.mem_append_right _ hi)
  · rcases List.mem_cons.1 hi with rfl | hi
    · obtain ⟨i, hi, hb⟩ := hb
      exact h.inb i (List.mem_append_left _ hi) b hb
    · exact h.inb i (List.mem_append_right _ hi) b hb
  · obtain ⟨i, hi, hb⟩ := hb
    exact h3 i hi j hj b hb hjb
theorem fact_at {S : Nat → Prop} {p : World → Prop} {w : World} (h : (It.fact S p).sat w) : p w := h w fun _ _ => rfl

section
variable {P : Program} {n : Nat} {wr : World} {ops : Array Oper} {K : Fr → List It → Prop} {fr : Fr} {O : List It}
theorem W_perm {c : Code} {Q : Exit → Fr → List It → Prop} (O' : List It) (hp : SubO O' O) (h : W P n wr c Q fr O') : W P n wr c Q fr O := fun a w hs => h a w ⟨hs.sim, hs.old, hs.own.sub hp⟩
theorem RL_perm {l : List Oper} (O' : List It) (hp : SubO O' O) (h : RL P n wr ops l K fr O') : RL P n wr ops l K fr O := fun a w hs => h a w ⟨hs.sim, hs.old, hs.own.sub hp⟩
/-- Some items become a fact about them. -/
theorem W_toFact {c : Code} {Q : Exit → Fr → List It → Prop} (O1 R : List It) (p : World → Prop) (hs : SubO (O1 ++ R) O) (hp : ∀ w', (∀ i ∈ O1, i.sat w') → p w') (h : W P n wr c Q fr (.fact (foot O1) p :: R)) : W P n wr c Q fr O :=
  fun a w st => h a w ⟨st.sim, st.old, (st.own.sub hs).fact hp⟩
theorem RL_toFact {l : List Oper} (O1 R : List It) (p : World → Prop) (hs : SubO (O1 ++ R) O) (hp : ∀ w', (∀ i ∈ O1, i.sat w') → p w') (h : RL P n wr ops l K fr (.fact (foot O1) p :: R)) : RL P n wr ops l K fr O :=
  fun a w st => h a w ⟨st.sim, st.old, (st.own.sub hs).fact hp⟩
end
end Go.Wk
namespace Go.Wk
open Go Go.RowKit
theorem SubO.drop {x : It} {O' O : List It} (h : SubO O' O) : SubO O' (x :: O) := by
  obtain ⟨R, hR⟩ := h.perm
  exact SubO.ofPerm (R := x :: R) ((List.Perm.cons x hR).trans List.perm_middle.symm)
end Go.Wk
namespace Go.Wk
open Go Go.RowKit
theorem Ends.app {F : List It} : ∀ {R : List It}, Ends (R.append F) F R
  | [] => .nil
  | _ :: _ => .cons Ends.app
end Go.Wk
namespace Go.Wk
open Go Go.RowKit
theorem SubO.right : ∀ (A O : List It), SubO O (A ++ O)
  | [], O => .refl O
  | _ :: A, O => (SubO.right A O).drop
section
variable {P : Program} {n : Nat} {wr : World} {Q : Exit → Fr → List It → Prop} {fr : Fr} {O : List It}
/-- What holds behind a piece of code, in words of one's own. -/
theorem W_post {c : Code} (I : Fr → List It → Prop) (h1 : W P n wr c (fun e fr O => e = .normal ∧ I fr O) fr O) (h2 : ∀ fr' O', I fr' O' → Q .normal fr' O') : W P n wr c Q fr O :=
  W_mono h1 fun e fr' O' h => by
    obtain ⟨rfl, h⟩ := h
    exact h2 fr' O' h
end
end Go.Wk

namespace Go.Wk
open Go Go.RowKit
section
variable {P : Program} {n : Nat} {wr : World} {fr : Fr} {O : List It} {ty : TypeId} {pos : String} {af : Array Edge} {dst : Option Tmp} {g : Option (Nat × Bool)} {Kp : Value → List It → Prop}
theorem Pu_capL {t e sz bytes : Nat} {x : Operand} {A : Option Addr} {len cap : Nat} [hE : ElemT P t e sz bytes] (hx : ev fr x = some (.slice A len cap)) : Pu P n wr fr O (.call ⟨.builtin .cap, #[x], #[t]⟩) ty (.int .i64 cap) :=
  fun a w hs _ _ _ _ => by
    have h := hE.h
    unfold elemChk at h
    split at h
    · rename_i e' hu
      simp [execOp, resolve, invoke, builtin, Builtin.cap_, hs.sim.ev hx, run_underlying hu, goInt]
    · cases h
theorem Pu_sliceH {t e sz bytes : Nat} {x y : Operand} {A : Option Addr} {len cap : Nat} {h : Int} [hE : ElemZ P t e sz bytes] (hx : ev fr x = some (.slice A len cap)) (hy : ev fr y = some (.int .i64 h)) (h0 : 0 ≤ h) (h1 : h ≤ cap) :
    Pu P n wr fr O (.slice t x none (some y) none) ty (.slice A h.toNat cap) := fun a w hs _ _ _ _ => by
  obtain ⟨i, z, ht, hi, hz, hsz, hby, hzs, hpos⟩ := ElemZ.parts hE.h
  simp [execOp, hs.sim.ev hx, hs.sim.ev hy, Instr.sliceAt, Instr.slice, run_underlying ht, Instr.sliceBounds, run_sliceBound, h0, h1, sizeOf, typeInfo, hi]
  intro _
  cases A with
  | none => rfl
  | some ad => simp [Addr.add]
theorem run_append_zeros (w : World) (t ti ty e : TypeId) (i : TypeInfo) (z : Value) (ht : P.underlying t = some (.slice e)) (hk : P.underlying ti = some (.int .i64)) (hi : P.info? e = some i) (hz : i.zero = some z) (k : Nat) (h0 : 0 < k) (hpos : 0 < i.size) (h63 : k ≤ maxLen) (h48 : k * i.bytes ≤ 281474976710656) :
    (Builtin.append_ #[t, ti] ty #[.slice none 0 0, .int .i64 k]).run P w =
      .ok (.slice (some ⟨w.heap.size, 0, none⟩) k (grownCap w k 0 e)) (w.drew.alloc (.cells (Builtin.zeroCells z.cells k ++ Builtin.zeroCells z.cells (grownCap w k 0 e - k)) e)) := by
  have hn : k ≠ 0 := by omega
  simp only [maxLen] at h63
  have h63' : ¬ (9223372036854775807 < (k : Int)) := by omega
  have hneg : ¬ ((k : Int) < 0) := by omega
  have h48' : ¬ (281474976710656 < Builtin.nextslicecap k 0 * i.bytes) := by rw [nextslicecap_zero h0]; omega
  have h48'' : ¬ (281474976710656 < (k : Int) * i.bytes) := by
    have : ((k * i.bytes : Nat) : Int) ≤ 281474976710656 := by omega
    rw [Int.natCast_mul] at this
    omega
  have hw : IntKind.i64.wrap (k : Int) = k := wrap64_id (by constructor <;> omega)
  have hsz : ¬ (i.size = 0) := by omega
  simp [Builtin.append_, run_underlying ht, run_underlying hk, sizeOf, typeInfo, zeroValue, hi, hz, Builtin.lenOf, hn, h63', h48', h48'', hw, hneg, hsz, asInt, asIntOf, Question.forced, run_firstCells_none, newRow, grownCap]
  intro h
  have := Nat.mul_pos h0 hpos
  omega
/-- append(nil, make([]T, k)...): the beginning of the new row. -/
theorem Stp_appendZ {t ti e sz bytes : Nat} {s x : Operand} {k : Nat} {j : Int} [hE : ElemZ P t e sz bytes] [hI : IntT P ti .i64] (hs : ev fr s = some (.slice none 0 0)) (hx : ev fr x = some (.int .i64 j)) (hj : j = k) (h0 : 0 < k) (h63 : k ≤ maxLen) (hb : k * bytes ≤ 281474976710656)
    (kk : ∀ b c', k ≤ c' → c' ≤ maxLen → Kp (.slice (some ⟨b, 0, none⟩) k c') (.row (.slice (some ⟨b, 0, none⟩) 0 c') e sz 0 [] :: O)) : Stp P n wr fr O ⟨dst, .call ⟨.builtin .append, #[s, x], #[t, ti]⟩, ty, pos, af, g⟩ Kp := by
  subst hj
  refine Stp_val fun a w hst => ?_
  obtain ⟨i, z, ht, hi, hz, hsz, hby, hzs, hpos⟩ := ElemZ.parts hE.h
  have hrun := run_append_zeros (P := P) w t ti ty e i z ht hI.h hi hz k h0 (by omega) h63 (by rw [hby]; exact hb)
  have hge := grownCap_ge w k 0 e
  have hle := grownCap_le_maxLen w k 0 e h63
  generalize grownCap w k 0 e = c' at *
  have hB : Below w.heap.size w (w.drew.alloc (.cells (Builtin.zeroCells z.cells k ++ Builtin.zeroCells z.cells (c' - k)) e)) := ((Below.refl _ w).drew).alloc (Nat.le_refl _) _
  refine ⟨_, _, _, ?_, hst.old.trans (hB.mono hst.old.size), hst.own.grow (O' := [.row (.slice (some ⟨w.heap.size, 0, none⟩) 0 c') e sz 0 []]) hB hst.old.size ⟨fun i hi => ?_, fun i hi b hb => ?_, List.pairwise_singleton _ _⟩, kk _ _ hge hle⟩
  · simp only [execOp, resolve, invoke, builtin, Sem.run_bind, Sem.run_pure, Result.andThen_ok, List.map_toArray, List.map_cons, List.map_nil, hst.sim.ev hs, hst.sim.ev hx, hrun]
  · rw [List.mem_singleton.1 hi]
    refine ⟨by simp, .inr ⟨w.heap.size, c', _, rfl, Nat.zero_le _, heap_alloc_new w.drew _, Nat.zero_le _, hle, ?_, by simp⟩⟩
    rw [Array.size_append, size_zeroCells, size_zeroCells, hzs, ← Nat.add_mul]
    congr 1
    omega
  · rw [List.mem_singleton.1 hi] at hb
    simp only [It.S, Value.ownBlock, Option.some.injEq] at hb
    subst hb
    exact ⟨Nat.le_refl _, by simp⟩
end
end Go.Wk
namespace Go.Wk
open Go Go.RowKit
section
variable {P : Program} {n : Nat} {wr : World} {fr : Fr} {O : List It} {ty : TypeId}
/-- A lookup with its mark, whose answers are known in other spellings. -/
theorem Pu_lookupOkC {t kt et b : Nat} {x ix : Operand} {m : List (ByteArray × Value)} {k : ByteArray} {z v : Value} {c : Bool} {R : List It} [hM : MapT P t kt et] [StringT P kt] [ZeroV P et z] (hx : ev fr x = some (.map (some b))) (hi : ev fr ix = some (.string k))
    (hp : Pick (.mp b m) O R) (hv : (mget m k).getD z = v) (hc : (mget m k).isSome = c) : Pu P n wr fr O (.lookup t x ix true) ty (.tuple [v, .bool c].toArray) := hv ▸ hc ▸ Pu_lookupOk (kt := kt) (et := et) hx hi hp
end
end Go.Wk
namespace Go.Wk
open Go Go.RowKit
theorem nilRd {α : Type} (w : World) (enc : α → List Value) (sz : Nat) : RdSl w none 0 enc sz [] := ⟨Nat.le_refl _, Nat.zero_le _, fun _ _ h => by simp at h⟩
theorem litRd {α : Type} {enc : α → List Value} {sz c b : Nat} {t : TypeId} {l : List α} {w : World} (hsz : ∀ x, (enc x).length = sz) (h1 : l.length ≤ c) (h2 : c ≤ maxLen) (h : (It.blk b (l.flatMap enc) t).sat w) : RdSl w (some ⟨b, 0, none⟩) c enc sz l :=
  ⟨h1, h2, fun k x hx => ⟨by simp, fun j v hv => by
    rw [add_of_add]
    exact (blkRaw h _ v (flat_get hsz l k x j v hx hv)).2⟩⟩
end Go.Wk
