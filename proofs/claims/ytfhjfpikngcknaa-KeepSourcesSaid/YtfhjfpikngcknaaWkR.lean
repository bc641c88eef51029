/- Strings indexed; slices from an index on; rows cleared. -/
import Derived.Test.YtfhjfpikngcknaaWkQ
namespace Go.Wk
open Go Go.RowKit
section
variable {P : Program} {n : Nat} {wr : World} {fr : Fr} {O : List It} {ty : TypeId} {pos : String} {af : Array Edge} {dst : Option Tmp} {g : Option (Nat × Bool)} {Kp : Value → List It → Prop}
theorem Pu_indexS {t : TypeId} {x ix : Operand} {s : ByteArray} {kk : IntKind} {i : Int} [hS : StringT P t] (hx : ev fr x = some (.string s)) (hi : ev fr ix = some (.int kk i)) (h0 : 0 ≤ i) (h1 : i < s.size) : Pu P n wr fr O (.index t x ix) ty (.int .u8 (s.data.toList.getD i.toNat 0).toNat) :=
  fun a w hs _ _ _ _ => by
    have h := run_index_string (P := P) (w := w) t s kk i hS.h
    rw [dif_pos ⟨h0, h1⟩] at h
    have hlt : i.toNat < s.data.toList.length := by
      have : s.data.size = s.size := rfl
      rw [Array.length_toList, this]
      omega
    have e : s.data.toList.getD i.toNat 0 = s[i.toNat]'(by omega) := by
      rw [List.getD_eq_getElem?_getD, List.getElem?_eq_getElem hlt]
      rfl
    simp only [execOp, hs.sim.ev hx, hs.sim.ev hi, Sem.run_bind, h, Result.andThen_ok, e]
    rfl
/-- s[l:] -/
theorem Pu_sliceL {t e sz bytes : Nat} {x y : Operand} {A : Option Addr} {len cap : Nat} {l : Int} [hE : ElemZ P t e sz bytes] (hx : ev fr x = some (.slice A len cap)) (hy : ev fr y = some (.int .i64 l)) (h0 : 0 ≤ l) (h1 : l ≤ len) (h2 : l < cap) :
    Pu P n wr fr O (.slice t x (some y) none none) ty (.slice (A.map (·.add (l.toNat * sz))) (len - l.toNat) (cap - l.toNat)) := fun a w hs _ _ _ _ => by
  obtain ⟨i, z, ht, hi, hz, hsz, hby, hzs, hpos⟩ := ElemZ.parts hE.h
  have hne : ¬ (cap = l.toNat) := by omega
  simp [execOp, hs.sim.ev hx, hs.sim.ev hy, Instr.sliceAt, Instr.slice, run_underlying ht, Instr.sliceBounds, run_sliceBound, h0, h1, sizeOf, typeInfo, hi, hne, hsz]
end
end Go.Wk
