/- Rules for arrays behind pointers, quotients rounded to zero. One step of a walk that stops at blocks; printed by genwalk.py, my own program. -/
import Derived.Test.YtonjepladadmhaaGreatDoorR08
set_option maxHeartbeats 4000000
set_option linter.unusedVariables false
set_option linter.unusedSimpArgs false
namespace Go.Wk
open Go Go.RowKit
theorem split_eq (a b : Int) (hb : 0 < b) : (a.tmod b < 0 → a.tdiv b - 1 = a / b ∧ a.tmod b + b = a % b) ∧ (¬ a.tmod b < 0 → a.tdiv b = a / b ∧ a.tmod b = a % b) := by
 have h1 := Int.mul_tdiv_add_tmod a b
 have h2 := Int.tmod_lt_of_pos a hb
 have h3 := Int.lt_tmod_of_pos a hb
 have key : ∀ q r : Int, b * q + r = a → 0 ≤ r → r < b → q = a / b ∧ r = a % b := fun q r h0 h4 h5 => by
  have := (Int.ediv_emod_unique (a := a) (r := r) (q := q) hb).2 ⟨by omega, h4, h5⟩
  exact ⟨this.1.symm, this.2.symm⟩
 constructor
 ·intro h
  exact key _ _ (by rw [Int.mul_sub]; omega) (by omega) (by omega)
 ·intro h
  exact key _ _ h1 (by omega) h2
theorem tmod_zero (a b : Int) : a.tmod b = 0 ↔ a % b = 0 := by rw [← Int.dvd_iff_tmod_eq_zero, ← Int.dvd_iff_emod_eq_zero]
theorem tdiv_bd (a b : Int) : -(a.natAbs : Int) ≤ a.tdiv b ∧ a.tdiv b ≤ a.natAbs := by
 have h1 := Int.natAbs_tdiv_le_natAbs a b
 omega
section
variable {P : Program} {n : Nat} {wr : World} {fr : Fr} {O : List It} {ty : TypeId}
theorem Pu_quoT {t t' : TypeId} {x y : Operand} {i j : Int} (hx : ev fr x = some (.int .i64 i)) (hy : ev fr y = some (.int .i64 j)) (hj : j ≠ 0) (hn : i.natAbs ≤ 9223372036854775807) : Pu P n wr fr O (.binOp .quo t x y t') ty (.int .i64 (i.tdiv j)) := by
 have := Pu_quo (P := P) (n := n) (wr := wr) (O := O) (ty := ty) (t := t) (t' := t') hx hy hj
 have hb := tdiv_bd i j
 rwa [wrap64_id (by omega)] at this
theorem Pu_maxJ {x y : Operand} {ts : Array TypeId} {k : IntKind} {i j : Int} (hx : ev fr x = some (.int k i)) (hy : ev fr y = some (.int k j)) : Pu P n wr fr O (.call ⟨.builtin .max, #[x, y], ts⟩) ty (.int k (if i < j then j else i)) :=
 fun a w hs _ _ _ _ => by simp [execOp, resolve, invoke, builtin, Builtin.max_, Builtin.max2, hs.sim.ev hx, hs.sim.ev hy]
theorem Pu_indexArr {t len e sz : Nat} {ag : Bool} {x ix : Operand} {ad : Addr} {kk : IntKind} {i : Int} [hA : ArrT P t len e sz ag] (hx : ev fr x = some (.pointer (some ad))) (hi : ev fr ix = some (.int kk i)) (h0 : 0 ≤ i) (h1 : i < len) :
  Pu P n wr fr O (.indexAddr t x ix) ty (.pointer (some (ad.add (i.toNat * sz)))) :=
 fun a w hs _ _ _ _ => by
  have h := hA.h
  unfold arrChk at h
  split at h
  ·rename_i len' e' hu
   split at h
   ·rename_i sz' ag' ht
    simp only [Option.some.injEq, Prod.mk.injEq] at h
    obtain ⟨rfl, rfl, rfl, rfl⟩ := h
    obtain ⟨inf, dd, hinf, hsz, _, _⟩ := Ty.parts ht
    simp [execOp, hs.sim.ev hx, hs.sim.ev hi, Instr.indexAt, asIntOf, run_underlying hu, Instr.sureAddr, h0, h1, sizeOf, run_typeInfo hinf, hsz]
   ·cases h
  ·cases h
end
section
variable {P : Program} {n : Nat} {wr : World} {ops : Array Oper} {rest : List Oper} {K : Fr → List It → Prop} {fr : Fr} {O : List It} {ty : TypeId} {pos : String} {af : Array Edge}
theorem RL_und {d' : Nat} {op : Op} {j : Nat} {b : Bool} {oj : Oper} {d : Nat} (hj : ops[j]? = some oj) (hd : oj.dst = some d) (hb : look fr d = some undef) (hdn : Nat.ble (d' + 1) n = true)
  (k : RL P n wr ops rest K ((d', undef) :: fr) O) : RL P n wr ops (⟨some d', op, ty, pos, af, some (j, b)⟩ :: rest) K fr O := by
 intro a w hs
 have := k (a.put (some d') undef) w ⟨hs.sim.put hdn undef, hs.old, hs.own⟩
 have hw : Region.wanted (⟨some d', op, ty, pos, af, some (j, b)⟩ : Oper) (yielded ops a.tmps) = false := by
  have hy : yielded ops a.tmps j = none := by simp [yielded, hj, hd, hs.sim.at_ d _ hb, undef]
  simp only [Region.wanted, hy]
  cases b <;> rfl
 simp only [wpList, hw]
 exact this
end
end Go.Wk
