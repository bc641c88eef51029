/- slices.Grow's operations: cap, a slice's beginning, append of new zeros onto nil. -/
import Derived.Test.YtfhjfpikngcknaaWkJ
namespace Go.Wk
open Go Go.RowKit
section
variable {P : Program} {n : Nat} {wr : World} {fr : Fr} {O : List It} {ty : TypeId} {pos : String} {af : Array Edge} {dst : Option Tmp} {g : Option (Nat × Bool)} {Kp : Value → List It → Prop}
theorem Pu_capL {t e sz bytes : Nat} {x : Operand} {A : Option Addr} {len cap : Nat} [hE : ElemT P t e sz bytes] (hx : ev fr x = some (.slice A len cap)) : Pu P n wr fr O (.call ⟨.builtin .cap, #[x], #[t]⟩) ty (.int .i64 cap) :=
  fun a w hs _ _ _ _ => by
    have h := hE.h
    unfold elemChk at h
    split at h
    · rename_i e' hu
      simp [execOp, resolve, invoke, builtin, Builtin.cap_, hs.sim.ev hx, run_underlying hu, goInt]
    · cases h
theorem Pu_sliceH {t e sz bytes : Nat} {x y : Operand} {A : Option Addr} {len cap : Nat} {h : Int} [hE : ElemZ P t e sz bytes] (hx : ev fr x = some (.slice A len cap)) (hy : ev fr y = some (.int .i64 h)) (h0 : 0 ≤ h) (h1 : h ≤ cap) :
    Pu P n wr fr O (.slice t x none (some y) none) ty (.slice A h.toNat cap) := fun a w hs _ _ _ _ => by
  obtain ⟨i, z, ht, hi, hz, hsz, hby, hzs, hpos⟩ := ElemZ.parts hE.h
  simp [execOp, hs.sim.ev hx, hs.sim.ev hy, Instr.sliceAt, Instr.slice, run_underlying ht, Instr.sliceBounds, run_sliceBound, h0, h1, sizeOf, typeInfo, hi]
  intro _
  cases A with
  | none => rfl
  | some ad => simp [Addr.add]
theorem run_append_zeros (w : World) (t ti ty e : TypeId) (i : TypeInfo) (z : Value) (ht : P.underlying t = some (.slice e)) (hk : P.underlying ti = some (.int .i64)) (hi : P.info? e = some i) (hz : i.zero = some z) (k : Nat) (h0 : 0 < k) (hpos : 0 < i.size) (h63 : k ≤ maxLen) (h48 : k * i.bytes ≤ 281474976710656) :
    (Builtin.append_ #[t, ti] ty #[.slice none 0 0, .int .i64 k]).run P w =
      .ok (.slice (some ⟨w.heap.size, 0, none⟩) k (grownCap w k 0 e)) (w.drew.alloc (.cells (Builtin.zeroCells z.cells k ++ Builtin.zeroCells z.cells (grownCap w k 0 e - k)) e)) := by
  have hn : k ≠ 0 := by omega
  simp only [maxLen] at h63
  have h63' : ¬ (9223372036854775807 < (k : Int)) := by omega
  have hneg : ¬ ((k : Int) < 0) := by omega
  have h48' : ¬ (281474976710656 < Builtin.nextslicecap k 0 * i.bytes) := by rw [nextslicecap_zero h0]; omega
  have h48'' : ¬ (281474976710656 < (k : Int) * i.bytes) := by
    have : ((k * i.bytes : Nat) : Int) ≤ 281474976710656 := by omega
    rw [Int.natCast_mul] at this
    omega
  have hw : IntKind.i64.wrap (k : Int) = k := wrap64_id (by constructor <;> omega)
  have hsz : ¬ (i.size = 0) := by omega
  simp [Builtin.append_, run_underlying ht, run_underlying hk, sizeOf, typeInfo, zeroValue, hi, hz, Builtin.lenOf, hn, h63', h48', h48'', hw, hneg, hsz, asInt, asIntOf, Question.forced, run_firstCells_none, newRow, grownCap]
  intro h
  have := Nat.mul_pos h0 hpos
  omega
/-- append(nil, make([]T, k)...): the beginning of the new row. -/
theorem Stp_appendZ {t ti e sz bytes : Nat} {s x : Operand} {k : Nat} {j : Int} [hE : ElemZ P t e sz bytes] [hI : IntT P ti .i64] (hs : ev fr s = some (.slice none 0 0)) (hx : ev fr x = some (.int .i64 j)) (hj : j = k) (h0 : 0 < k) (h63 : k ≤ maxLen) (hb : k * bytes ≤ 281474976710656)
    (kk : ∀ b c', k ≤ c' → c' ≤ maxLen → Kp (.slice (some ⟨b, 0, none⟩) k c') (.row (.slice (some ⟨b, 0, none⟩) 0 c') e sz 0 [] :: O)) : Stp P n wr fr O ⟨dst, .call ⟨.builtin .append, #[s, x], #[t, ti]⟩, ty, pos, af, g⟩ Kp := by
  subst hj
  refine Stp_val fun a w hst => ?_
  obtain ⟨i, z, ht, hi, hz, hsz, hby, hzs, hpos⟩ := ElemZ.parts hE.h
  have hrun := run_append_zeros (P := P) w t ti ty e i z ht hI.h hi hz k h0 (by omega) h63 (by rw [hby]; exact hb)
  have hge := grownCap_ge w k 0 e
  have hle := grownCap_le_maxLen w k 0 e h63
  generalize grownCap w k 0 e = c' at *
  have hB : Below w.heap.size w (w.drew.alloc (.cells (Builtin.zeroCells z.cells k ++ Builtin.zeroCells z.cells (c' - k)) e)) := ((Below.refl _ w).drew).alloc (Nat.le_refl _) _
  refine ⟨_, _, _, ?_, hst.old.trans (hB.mono hst.old.size), hst.own.grow (O' := [.row (.slice (some ⟨w.heap.size, 0, none⟩) 0 c') e sz 0 []]) hB hst.old.size ⟨fun i hi => ?_, fun i hi b hb => ?_, List.pairwise_singleton _ _⟩, kk _ _ hge hle⟩
  · simp only [execOp, resolve, invoke, builtin, Sem.run_bind, Sem.run_pure, Result.andThen_ok, List.map_toArray, List.map_cons, List.map_nil, hst.sim.ev hs, hst.sim.ev hx, hrun]
  · rw [List.mem_singleton.1 hi]
    refine ⟨by simp, .inr ⟨w.heap.size, c', _, rfl, Nat.zero_le _, heap_alloc_new w.drew _, Nat.zero_le _, hle, ?_, by simp⟩⟩
    rw [Array.size_append, size_zeroCells, size_zeroCells, hzs, ← Nat.add_mul]
    congr 1
    omega
  · rw [List.mem_singleton.1 hi] at hb
    simp only [It.S, Value.ownBlock, Option.some.injEq] at hb
    subst hb
    exact ⟨Nat.le_refl _, by simp⟩
end
end Go.Wk
namespace Go.Wk
open Go Go.RowKit
section
variable {P : Program} {n : Nat} {wr : World} {fr : Fr} {O : List It} {ty : TypeId}
/-- A lookup with its mark, whose answers are known in other spellings. -/
theorem Pu_lookupOkC {t kt et b : Nat} {x ix : Operand} {m : List (ByteArray × Value)} {k : ByteArray} {z v : Value} {c : Bool} {R : List It} [hM : MapT P t kt et] [StringT P kt] [ZeroV P et z] (hx : ev fr x = some (.map (some b))) (hi : ev fr ix = some (.string k))
    (hp : Pick (.mp b m) O R) (hv : (mget m k).getD z = v) (hc : (mget m k).isSome = c) : Pu P n wr fr O (.lookup t x ix true) ty (.tuple [v, .bool c].toArray) := hv ▸ hc ▸ Pu_lookupOk (kt := kt) (et := et) hx hi hp
end
end Go.Wk
