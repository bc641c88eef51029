/- More classes. -/
import Derived.Test.YtfhjfpikngcknaaDoorWkC
namespace Go.Wk
open Go Go.RowKit
def arrChk (P : Program) (t : TypeId) : Option (Nat × TypeId × Nat × Bool) :=
  match P.underlying t with
  | some (.array len e) => match tyChk P e with | some (sz, ag) => some (len, e, sz, ag) | none => none
  | _ => none
class ArrT (P : Program) (t : TypeId) (len : outParam Nat) (e : outParam TypeId) (sz : outParam Nat) (ag : outParam Bool) : Prop where
  h : arrChk P t = some (len, e, sz, ag)
def mapChk (P : Program) (t : TypeId) : Option (TypeId × TypeId) :=
  match P.underlying t with
  | some (.map k e) => some (k, e)
  | _ => none
class MapT (P : Program) (t : TypeId) (k e : outParam TypeId) : Prop where
  h : mapChk P t = some (k, e)
end Go.Wk
namespace Go.Wk
open Go Go.RowKit
section
variable {P : Program} {n : Nat} {wr : World} {Q : Exit → Fr → List It → Prop} {fr : Fr} {O : List It} {K : Fr → List It → Prop}
theorem thenQ_n (h : K fr O) : thenQ K Q .normal fr O := h
theorem thenQ_r (h : Q .ret fr O) : thenQ K Q .ret fr O := h
theorem thenQ_e {k : Nat} (h : Q (.exit k) fr O) : thenQ K Q (.exit k) fr O := h
theorem blockQ_n {id : Nat} (h : Q .normal fr O) : blockQ id Q .normal fr O := h
theorem blockQ_r {id : Nat} (h : Q .ret fr O) : blockQ id Q .ret fr O := h
theorem blockQ_hit {id : Nat} (h : Q .normal fr O) : blockQ id Q (.exit id) fr O := by simpa [blockQ] using h
theorem blockQ_miss {id k : Nat} (hne : Nat.beq k id = false) (h : Q (.exit k) fr O) : blockQ id Q (.exit k) fr O := by
  have : k ≠ id := Nat.ne_of_beq_eq_false hne
  simpa [blockQ, this] using h

/-- A loop with a fixed part of frame and memory. -/
theorem W_loopF {c : Code} {G : Type} (fix : Fr) (ofix : List It) (var : G → Fr) (ovar : G → List It) (Inv : G → Prop) (μ : G → Nat) (g₀ : G) (hf : Sub (var g₀ ++ fix) fr) (hO : SubO (ovar g₀ ++ ofix) O) (h₀ : Inv g₀)
    (round : ∀ g, Inv g → W P n wr c (thenQ (fun fr' O' => ∃ g', μ g' < μ g ∧ Inv g' ∧ Sub (var g' ++ fix) fr' ∧ SubO (ovar g' ++ ofix) O') Q) (var g ++ fix) (ovar g ++ ofix)) : W P n wr (.loop c) Q fr O :=
  W_loop (fun g => var g ++ fix) (fun g => ovar g ++ ofix) Inv μ g₀ hf hO h₀ round
end
end Go.Wk
namespace Go.Wk
open Go Go.RowKit
theorem ret_1 {P : Program} {wr : World} {fr : Fr} {O : List It} {r : ResultVar} {R : Value → List It → Prop} (v : Value) (O' : List It) (hv : ResV P wr fr O r v) (hO : SubO O' O) (hR : R v O') : retQ P wr [r] R .ret fr O :=
  ⟨[v], O', ⟨v, [], rfl, hv, rfl⟩, hO, hR⟩
theorem ret_2 {P : Program} {wr : World} {fr : Fr} {O : List It} {r r2 : ResultVar} {R : Value → List It → Prop} (v v2 : Value) (O' : List It) (hv : ResV P wr fr O r v) (hv2 : ResV P wr fr O r2 v2) (hO : SubO O' O) (hR : R (.tuple #[v, v2]) O') : retQ P wr [r, r2] R .ret fr O :=
  ⟨[v, v2], O', ⟨v, _, rfl, hv, v2, [], rfl, hv2, rfl⟩, hO, hR⟩
theorem ret_3 {P : Program} {wr : World} {fr : Fr} {O : List It} {r r2 r3 : ResultVar} {R : Value → List It → Prop} (v v2 v3 : Value) (O' : List It) (hv : ResV P wr fr O r v) (hv2 : ResV P wr fr O r2 v2) (hv3 : ResV P wr fr O r3 v3) (hO : SubO O' O) (hR : R (.tuple #[v, v2, v3]) O') : retQ P wr [r, r2, r3] R .ret fr O :=
  ⟨[v, v2, v3], O', ⟨v, _, rfl, hv, v2, _, rfl, hv2, v3, [], rfl, hv3, rfl⟩, hO, hR⟩
theorem ret_0 {P : Program} {wr : World} {fr : Fr} {O : List It} {R : Value → List It → Prop} (O' : List It) (hO : SubO O' O) (hR : R (.tuple #[]) O') : retQ P wr [] R .normal fr O :=
  ⟨[], O', rfl, hO, hR⟩
theorem ResV.tmp {P : Program} {wr : World} {fr : Fr} {O : List It} {t : Nat} {v : Value} (h : look fr t = some v) : ResV P wr fr O (.tmp t) v := h
end Go.Wk
namespace Go.Wk
open Go Go.RowKit
section
variable {P : Program} {n : Nat} {wr : World} {ops : Array Oper} {rest : List Oper} {K : Fr → List It → Prop} {fr : Fr} {O : List It} {ty : TypeId} {pos : String} {af : Array Edge}
theorem Sim.over {d : Nat} {v : Value} {a : Act} (h : Sim n fr a) (hv : look fr d = some v) : Sim n ((d, v) :: fr) a :=
  ⟨h.defers, h.size, fun t u hu => by
    simp only [look] at hu
    cases hb : Nat.beq d t with
    | true =>
      rw [hb] at hu
      have e := Nat.eq_of_beq_eq_true hb
      subst e
      simp at hu
      subst hu
      exact h.at_ _ _ hv
    | false =>
      rw [hb] at hu
      exact h.at_ t u (by simpa using hu)⟩
/-- A slot's bool, parted. -/
theorem RL_split {l : List Oper} (d : Nat) {c : Bool} (hv : look fr d = some (.bool c)) (ht : c = true → RL P n wr ops l K ((d, .bool true) :: fr) O) (hf : c = false → RL P n wr ops l K ((d, .bool false) :: fr) O) : RL P n wr ops l K fr O := by
  intro a w hs
  cases c with
  | true => exact ht rfl a w ⟨hs.sim.over hv, hs.old, hs.own⟩
  | false => exact hf rfl a w ⟨hs.sim.over hv, hs.old, hs.own⟩
/-- The next operation's guard, parted. -/
theorem RL_gsplit {dst : Option Tmp} {op : Op} {j : Nat} {b c : Bool} {oj : Oper} {d : Nat} (_hj : ops[j]? = some oj) (_hd : oj.dst = some d) (hv : look fr d = some (.bool c))
    (ht : c = true → RL P n wr ops (⟨dst, op, ty, pos, af, some (j, b)⟩ :: rest) K ((d, .bool true) :: fr) O) (hf : c = false → RL P n wr ops (⟨dst, op, ty, pos, af, some (j, b)⟩ :: rest) K ((d, .bool false) :: fr) O) :
    RL P n wr ops (⟨dst, op, ty, pos, af, some (j, b)⟩ :: rest) K fr O := RL_split d hv ht hf
/-- A slot's value in another spelling. -/
theorem RL_re {l : List Oper} (d : Nat) {v : Value} (u : Value) (hv : look fr d = some v) (e : v = u) (k : RL P n wr ops l K ((d, u) :: fr) O) : RL P n wr ops l K fr O :=
  fun a w hs => k a w ⟨hs.sim.over (e ▸ hv), hs.old, hs.own⟩
end
theorem Does.mono {P : Program} {f : FuncId} {args : List Value} {w : World} {R R' : Value → List It → Prop} (h : Does P f args w R) (hr : ∀ v O, R v O → R' v O) : Does P f args w R' :=
  Calls.mono h fun _ _ ⟨v, O, h1, h2, h3, h4⟩ => ⟨v, O, h1, h2, h3, hr v O h4⟩
end Go.Wk
