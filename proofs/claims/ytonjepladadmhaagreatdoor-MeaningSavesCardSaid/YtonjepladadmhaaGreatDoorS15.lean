/- Engine: scopes and labels, a part of an array, strings of bytes, tests whose answers are known. Contracts: state.behind, base, checked.Sub, state.Instant$1. Engine: a range over a function: rounds, yields. -/
import Derived.Scope
import Derived.Laws.IdiomStrings
import Derived.Test.YtonjepladadmhaaGreatDoorS14
import Derived.RangeFuncIn
import Derived.RangeFuncLeaves
import Derived.RangeFuncRecord
import Derived.RangeFuncSeq
import Derived.TacticsIn
import Derived.ControlIn
import Derived.RangeFuncCalls
set_option maxHeartbeats 4000000
set_option linter.unusedVariables false
set_option linter.unusedSimpArgs false
namespace Go.Wk
open Go Go.RowKit
section
variable {P : Program} {n : Nat} {wr : World} {Q : Exit → Fr → List It → Prop} {fr : Fr} {O : List It} {K : Fr → List It → Prop}
theorem goto_ret {l : Nat} {rs : List ResultVar} {R : Value → List It → Prop} : ¬ retQ P wr rs R (.goto l) fr O := id
theorem W_scope {c : Code} (hg : ∀ l fr O, ¬ Q (.goto l) fr O) (h : W P n wr c Q fr O) : W P n wr (.scope c) Q fr O := by
 intro a w hs
 refine wp_scope_straight (wp_mono (h a w hs) ?_)
 rintro e a' w' ⟨fr', O', hs', hq⟩
 cases e with
 | goto l => exact (hg l _ _ hq).elim
 | _ => exact ⟨fr', O', hs', hq⟩
theorem W_label {l : Nat} (h : Q .normal fr O) : W P n wr (.label l) Q fr O := fun _ _ hs => wp_label ⟨fr, O, hs, h⟩
end
section
variable {P : Program} {n : Nat} {wr : World} {fr : Fr} {O : List It} {ty : TypeId} {pos : String} {af : Array Edge} {dst : Option Tmp} {g : Option (Nat × Bool)} {Kp : Value → List It → Prop}
theorem Pu_sliceArrH {t len e sz b : Nat} {ag : Bool} {x y : Operand} {h : Int} [hA : ArrT P t len e sz ag] (hx : ev fr x = some (.pointer (some ⟨b, 0, none⟩))) (hy : ev fr y = some (.int .i64 h)) (h0 : 0 ≤ h) (h1 : h ≤ len) :
  Pu P n wr fr O (.slice t x none (some y) none) ty (.slice (some ⟨b, 0, none⟩) h.toNat len) :=
 fun a w hs _ _ _ _ => by
  have h := hA.h
  unfold arrChk at h
  split at h
  ·rename_i len' e' hu
   split at h
   ·rename_i sz' ag' ht
    simp only [Option.some.injEq, Prod.mk.injEq] at h
    obtain ⟨rfl, rfl, rfl, rfl⟩ := h
    obtain ⟨inf, dd, hinf, hsz, _, _⟩ := Ty.parts ht
    simp [execOp, hs.sim.ev hx, hs.sim.ev hy, Instr.sliceAt, run_underlying hu, Instr.sureAddr, Instr.sliceBounds, run_sliceBound, h0, h1, sizeOf, run_typeInfo hinf, Addr.add]
   ·cases h
  ·cases h
theorem Pu_loadBi {t sz b p : Nat} {x : Operand} {cs : List Value} {bt : TypeId} {v : Value} {R : List It} [Ty P t sz false] (hx : ev fr x = some (.pointer (some ((adr (some ⟨b, 0, none⟩)).add p))))
  (hp : Pick (.blk b cs bt) O R) (hv : cs[p]? = some v) : Pu P n wr fr O (.load t x) ty v :=
 Pu_loadB1 (by rw [hx, show adr (some (⟨b, 0, none⟩ : Addr)) = ⟨b, 0, none⟩ from rfl, add_mk, Nat.zero_add]) hp hv
theorem Pu_loadBa {t sz b p : Nat} {x : Operand} {cs : List Value} {bt : TypeId} {v : Value} {R : List It} [Ty P t sz false] (hx : ev fr x = some (.pointer (some ((⟨b, 0, none⟩ : Addr).add p))))
  (hp : Pick (.blk b cs bt) O R) (hv : cs[p]? = some v) : Pu P n wr fr O (.load t x) ty v :=
 Pu_loadB1 (by rw [hx, add_mk, Nat.zero_add]) hp hv
theorem Pu_neg64 {t : TypeId} {x : Operand} {i : Int} (hx : ev fr x = some (.int .i64 i)) (h : -9223372036854775807 ≤ i ∧ i ≤ 9223372036854775807) : Pu P n wr fr O (.unOp .neg t x) ty (.int .i64 (-i)) := by
 have := Pu_negW (P := P) (n := n) (wr := wr) (O := O) (ty := ty) (t := t) hx
 rwa [Int.zero_sub, wrap64_id (by omega)] at this
def byteV (c : UInt8) : Value := .int .u8 (c.toNat : Int)
theorem Pu_convBytes {t t' e sz bytes et c : Nat} {x : Operand} {A : Option Addr} {m : Nat} {l : List UInt8} {xs : List Value} {R : List It} [hE : ElemT P t e sz bytes] [hU : IntT P e .u8] [hS : StringT P t'] (hx : ev fr x = some (.slice A m c))
  (hp : Pick (.row (.slice A m c) et 1 m xs) O R) (hxs : xs = l.map byteV) (hm : m = l.length) (hA : A ≠ none) : Pu P n wr fr O (.convert t t' x) ty (.string ⟨l.toArray⟩) :=
 fun a w hs _ _ _ _ => by
  have h := hE.h
  unfold elemChk at h
  split at h
  ·rename_i e' hu
   split at h
   ·simp only [Option.some.injEq, Prod.mk.injEq] at h
    obtain ⟨rfl, _, _⟩ := h
    obtain ⟨ad, rfl⟩ := Option.ne_none_iff_exists'.1 hA
    subst hm hxs
    have hsat := hs.own.sat _ (hp.perm.mem_iff.2 List.mem_cons_self)
    have hc : ∀ j (hj : j < l.length), w.cell? (ad.add j) = some (.int .u8 (l[j].toNat : Int)) := fun j hj => by
     have := row_cell hsat (j := j) (u := byteV l[j]) (by rw [List.getElem?_map, List.getElem?_eq_getElem hj]; rfl)
     exact this.2
    have hrun := run_convert_bytes_back (P := P) w t t' e' ad c l hu hU.h hS.h hc
    simp [execOp, hs.sim.ev hx, hrun]
   ·cases h
  ·cases h
theorem Pu_lssB {t t' : TypeId} {x y : Operand} {kk : IntKind} {i j : Int} {b : Bool} (hx : ev fr x = some (.int kk i)) (hy : ev fr y = some (.int kk j)) (h : decide (i < j) = b) : Pu P n wr fr O (.binOp .lss t x y t') ty (.bool b) := h ▸ Pu_lss hx hy
theorem Pu_leqB {t t' : TypeId} {x y : Operand} {kk : IntKind} {i j : Int} {b : Bool} (hx : ev fr x = some (.int kk i)) (hy : ev fr y = some (.int kk j)) (h : decide (i ≤ j) = b) : Pu P n wr fr O (.binOp .leq t x y t') ty (.bool b) := h ▸ Pu_leq hx hy
theorem Pu_gtrB {t t' : TypeId} {x y : Operand} {kk : IntKind} {i j : Int} {b : Bool} (hx : ev fr x = some (.int kk i)) (hy : ev fr y = some (.int kk j)) (h : decide (j < i) = b) : Pu P n wr fr O (.binOp .gtr t x y t') ty (.bool b) := h ▸ Pu_gtr hx hy
theorem Pu_geqB {t t' : TypeId} {x y : Operand} {kk : IntKind} {i j : Int} {b : Bool} (hx : ev fr x = some (.int kk i)) (hy : ev fr y = some (.int kk j)) (h : decide (j ≤ i) = b) : Pu P n wr fr O (.binOp .geq t x y t') ty (.bool b) := h ▸ Pu_geq hx hy
theorem Pu_eqlB {t t' : TypeId} {x y : Operand} {kk : IntKind} {i j : Int} {b : Bool} (hx : ev fr x = some (.int kk i)) (hy : ev fr y = some (.int kk j)) (h : decide (i = j) = b) : Pu P n wr fr O (.binOp .eql t x y t') ty (.bool b) := h ▸ Pu_eql hx hy
theorem Pu_neqB' {t t' : TypeId} {x y : Operand} {kk : IntKind} {i j : Int} {b : Bool} (hx : ev fr x = some (.int kk i)) (hy : ev fr y = some (.int kk j)) (h : (!decide (i = j)) = b) : Pu P n wr fr O (.binOp .neq t x y t') ty (.bool b) := h ▸ Pu_neq hx hy
theorem Pu_eqlSB {t t' : TypeId} {x y : Operand} {i j : ByteArray} {b : Bool} (hx : ev fr x = some (.string i)) (hy : ev fr y = some (.string j)) (h : decide (i = j) = b) : Pu P n wr fr O (.binOp .eql t x y t') ty (.bool b) := h ▸ Pu_eqlS hx hy
theorem Pu_neqSB {t t' : TypeId} {x y : Operand} {i j : ByteArray} {b : Bool} (hx : ev fr x = some (.string i)) (hy : ev fr y = some (.string j)) (h : (!decide (i = j)) = b) : Pu P n wr fr O (.binOp .neq t x y t') ty (.bool b) := h ▸ Pu_neqS hx hy
end
end Go.Wk
namespace Go.Proofs.YtonjepladadmhaaGreatDoor
open Go Go.RowKit Go.Wk
attribute [local irreducible] W RL Does thenQ blockQ retQ Calls Pu Stp RD Qy Ay DoesIn
theorem ruE_at {l : List DRule} {e : DEvent} {r : DRule} (h : l[e.rule.toNat]? = some r) : ruE l e = r := by
 unfold ruE
 rw [List.getD_eq_getElem?_getD, h]; rfl
def stV (x : Int × ByteArray) : Value := .agg #[.int .i64 x.1, .string x.2]
theorem PuStB0 {G : Prop} (h : G := by (first | exact PuI | (apply Pu_loadO1; rfl; first | exact hca 9 _ rfl | exact hca 10 _ rfl))) : G := h
theorem QyStB0 {G : Prop} (h : G := by first | (apply Qy_y; rfl; exact PuStB0) | exact QyA) : G := h
theorem QFStB0 {G : Prop} (h : G := by repeat (first | exact QF.nil | (apply QF.mk; rfl; rfl; decide +kernel; exact QyStB0))) : G := h
theorem behind_spec19 (A : Option Addr) (c : Nat) (l : List DRule) (e : DEvent) (w : World) (hA : RdSl w A c DRule.enc 11 l) (he : 0 ≤ e.rule ∧ e.rule < l.length) :
  Does Tryz.prog 68 [.slice A l.length c, .agg e.enc.toArray] w (fun v O => v = stV (behS l e) ∧ O = []) := by
 obtain ⟨r, hr⟩ : ∃ r, l[e.rule.toNat]? = some r := ⟨_, List.getElem?_eq_getElem (by omega)⟩
 have hle := hA.le
 have hcp := hA.cap
 simp only [maxLen] at hcp
 unfold behS
 rw [ruE_at hr]
 obtain ⟨hna, hca⟩ := hA.rd _ _ hr
 obtain ⟨y, q, n⟩ := e
 dsimp only at he hr hca
 show Does _ _ [_, .agg #[.int .i64 y, .int .i64 q, .int .i64 n]] w _
 refine Does_of_W Tryz.func68 rfl rfl rfl rfl ?_
 repeat (first | (apply RL_pu; rfl; exact PuStB0) | (apply RD_Q; rfl; rfl; decide +kernel; rfl; rfl; exact QyStB0) | refine walk1 ?_ | (refine jn ?_; (try intro F); (first | (refine bx ?_; intro bk) | (refine stA ?_) | (apply Stp_pu; first | exact PuStB0 | exact PuA)); first | refine ⟨_, EndsA, QFStB0, ?_⟩ | refine fin ?_) | (apply RD_W; rfl; intro bk))
 exact ret_1 _ [] (.cellB rfl (by repeat' constructor) rfl rfl) .nil ⟨rfl, rfl⟩
theorem base19_spec (A : Option Addr) (c : Nat) (l : List DRule) (w : World) (hA : RdSl w A c DRule.enc 11 l) : Does Tryz.prog 74 [.slice A l.length c] w (fun v O => v = .int .i64 (max (leastD l) (-10800)) ∧ O = []) := by
 have hle := hA.le
 have hcp := hA.cap
 unfold maxLen at hcp
 generalize hres : leastD l = res
 unfold leastD at hres
 have hmx : (if res < -10800 then -10800 else res) = max res (-10800) := by split <;> omega
 refine Does_of_W Tryz.func74 rfl rfl rfl rfl ?_
 repeat (first | (refine js ?_; (refine bx ?_; intro bk)) | refine walk ?_)
 refine W_loopF [(6, _), (7, _)] [] (fun g : Nat × Int => [(3, .int .i64 g.2), (8, .int .i64 g.1)]) (fun _ => []) (fun g => g.1 ≤ l.length ∧ (l.drop g.1).foldl (fun m r => min m r.save) g.2 = res) (fun g => l.length - g.1) (0, 0) SFA SOA ⟨Nat.zero_le _, hres⟩ ?_
 rintro ⟨k, m⟩ ⟨hk, hi⟩
 dsimp only at hk hi ⊢
 repeat (first | (refine js ?_; (refine bx ?_; intro bk)) | refine walk ?_)
 refine W_cond rfl (fun h => ?_) (fun h => ?_)
 ·have hlt : k < l.length := by simpa using h
  obtain ⟨hna, hca⟩ := hA.rd k _ (List.getElem?_eq_getElem hlt)
  rw [drop_cons hlt] at hi
  generalize l[k] = r at *
  obtain ⟨nm, fr, to, mo, ⟨dk, dw, dd⟩, ⟨cs, cb⟩, sv, le⟩ := r
  simp only [DRule.enc, List.foldl_cons] at hca hi
  repeat (first | (apply RL_pu; rfl; (first | exact PuI | (apply Pu_minI; rfl; rfl))) | (refine js ?_; (refine bx ?_; intro bk)) | refine walk1 ?_)
  rw [show (if sv < m then sv else m) = min m sv by split <;> omega]
  exact ⟨(k + 1, min m sv), OA, ⟨OA, hi⟩, SFA, .nil⟩
 ·have hkl : k = l.length := by
   have := of_decide_eq_false h
   omega
  subst hkl
  rw [List.drop_length] at hi
  obtain rfl : m = res := hi
  repeat (first | (apply RL_pu; rfl; (apply Pu_maxK; rfl; rfl; exact hmx)) | (refine js ?_; (refine bx ?_; intro bk)) | refine walk1 ?_)
  exact rtA
theorem PuStB3 {G : Prop} (h : G := by (first | (apply Pu_lssB; rfl; rfl; exact b1) | (apply Pu_gtrB; rfl; rfl; exact b2))) : G := h
theorem sub_spec (a b : Int) (ha : -4000000000000000000 ≤ a ∧ a ≤ 4000000000000000000) (hb : -4000000000000000000 ≤ b ∧ b ≤ 4000000000000000000) (w : World) : Does Tryz.prog 73 [.int .i64 a, .int .i64 b] w (fun v O => v = .tuple #[.int .i64 (a - b), .bool true] ∧ O = []) := by
 refine Does_of_W Tryz.func73 rfl rfl rfl rfl ?_
 by_cases h : 0 < b
 ·have b1 : decide (a - b < a) = true := decide_eq_true (by omega)
  have b2 : decide (0 < b) = true := decide_eq_true h
  repeat (first | refine und ?_ | (apply RL_pu; rfl; exact PuStB3) | refine walk1 ?_)
  exact rtB
 ·have b1 : decide (a - b < a) = false := decide_eq_false (by omega)
  have b2 : decide (0 < b) = false := decide_eq_false h
  repeat (first | refine und ?_ | (apply RL_pu; rfl; exact PuStB3) | refine walk1 ?_)
  exact rtB
theorem inst1_spec (Z : It) (x t : Int) (b7 b8 : Nat) (wr : World) (hx : -2000000000000000000 ≤ x ∧ x ≤ 2000000000000000000) (ht : -2000000000000000000 ≤ t ∧ t ≤ 2000000000000000000) :
  DoesIn Tryz.prog 72 [.int .i64 x, .pointer (some ⟨b7, 0, none⟩), .pointer (some ⟨b8, 0, none⟩)] wr [Z, .blk b7 [.int .i64 t] 2, .blk b8 [.bool true] 4] (fun v O' => v = .tuple #[] ∧ O' = [Z, .blk b7 [.int .i64 (t - x)] 2, .blk b8 [.bool true] 4]) := by
 have hs := fun w' => sub_spec t x (by omega) (by omega) w'
 refine DoesIn_of_W Tryz.func72 rfl rfl rfl rfl ?_
 repeat (first | (refine js ?_; (refine callE (fun w' _ => hs w') ?_)) | refine walk ?_)
 exact ret_0 [Z, .blk b7 [.int .i64 (t - x)] 2, .blk b8 [.bool true] 4] SOA ⟨rfl, rfl⟩
end Go.Proofs.YtonjepladadmhaaGreatDoor
namespace Go.Wk
open Go Go.RowKit
def WF (F : Fence) : Prop := F = Fence.wide ∨ ∃ l, F = Fence.wide.inRound l
theorem WF.fn {F : Fence} (h : WF F) (f : FuncId) : F.fn f := by rcases h with rfl | ⟨l, rfl⟩ <;> trivial
theorem WF.depth {F : Fence} (h : WF F) : F.depth = none := by rcases h with rfl | ⟨l, rfl⟩ <;> rfl
theorem WF.calls {F : Fence} (h : WF F) {n : Nat} {P : Program} {f : FuncId} {args : Array Value} {w : World} {R : Ending → World → Prop} (hc : Calls P f args w R) : CallsIn F n P f args w R := by
 rcases h with rfl | ⟨l, rfl⟩
 ·exact callsIn_wide.2 hc
 ·exact CallsIn.inRound l (callsIn_wide.2 hc)
def calm : Result Next → Prop
 | .ok (.value _) _ => True
 | .ok .skip _ => True
 | .ok (.enter _ _) _ => True
 | .halt _ _ => True
 | _ => False
theorem wp_toIn {F : Fence} (hF : WF F) {n : Nat} {P : Program} {o : Oper} {a a2 : Act} {w : World} {K K2 : Act → World → Prop} {Q Q2 : Exit → Act → World → Prop} (he : a2.eval = a.eval) (hd : ∀ c, o.op ≠ .defer c) (hc : calm ((execOp a.eval o).run P w)) (h : o.wp P a w K Q) (hQ : ∀ e a w, ¬ Q e a w)
  (hK : ∀ v w', K (a.put o.dst v) w' → K2 (a2.put o.dst v) w') : o.wpIn F n P a2 w K2 Q2 := by
 refine ⟨fun f _ => hF.fn f, ?_⟩
 rw [Oper.semAt_eq _ _ _ hd, he]
 unfold Oper.wp at h
 generalize (execOp a.eval o).run P w = r at *
 cases r with
 | ok nx w' =>
  cases nx with
  | value v => exact hK _ _ h
  | skip => exact hK _ _ h
  | enter f args =>
   rw [Oper.upon_enter] at h
   rw [Oper.uponIn_enter]
   refine ⟨fun hh => (by rw [hF.depth] at hh; cases hh), (hF.calls h).mono ?_⟩
   intro e w'' he
   cases e with
   | returned v => exact hK _ _ he
   | panicked c => exact (hQ _ _ _ he).elim
   | outgrown => exact he.elim fun a h => h.elim fun w h => (hQ _ _ _ h).elim
  | _ => exact hc.elim
 | halt x w' =>
  cases x with
  | panic v => exact (hQ _ _ _ h).elim
  | _ => exact h.elim
section
variable {F : Fence} {P : Program} {n : Nat} {wr : World} {ops : Array Oper} {rest : List Oper} {K : Fr → List It → Prop} {fr : Fr} {O : List It} {ty : TypeId} {pos : String} {af : Array Edge} {D : List Deferred}
def actD (D : List Deferred) (a : Act) : Act := { a with defers := D }
def regQI (D : List Deferred) (n : Nat) (wr : World) (K : Fr → List It → Prop) : Exit → Act → World → Prop := fun e a w => e = .normal ∧ a.defers = D ∧ ∃ fr O, St n wr fr O (actD [] a) w ∧ K fr O
def RLI (F : Fence) (D : List Deferred) (P : Program) (n : Nat) (wr : World) (ops : Array Oper) (l : List Oper) (K : Fr → List It → Prop) (fr : Fr) (O : List It) : Prop :=
 ∀ a w, St n wr fr O a w → wpListIn F 0 P ops (regQI D n wr K) l (actD D a) w
theorem actD_nil {a : Act} {fr : Fr} {w : World} (h : St n wr fr O a w) : actD [] (actD D a) = a := by
 have := h.sim.defers
 cases a
 simp only at this
 subst this
 rfl
theorem actD_put (a : Act) (d : Option Tmp) (v : Value) : (actD D a).put d v = actD D (a.put d v) := by cases d <;> rfl
theorem RLI_nil (h : K fr O) : RLI F D P n wr ops [] K fr O := fun a w hs => ⟨rfl, rfl, fr, O, by rw [actD_nil hs]; exact hs, h⟩
theorem RLI_pu (hF : WF F) {d : Nat} {op : Op} {v : Value} (hd : Nat.ble (d + 1) n = true) (hop : ∀ c, op ≠ .defer c) (h : Pu P n wr fr O op ty v) (k : RLI F D P n wr ops rest K ((d, v) :: fr) O) :
  RLI F D P n wr ops (⟨some d, op, ty, pos, af, none⟩ :: rest) K fr O := by
 intro a w hs
 have hrun := h a w hs (some d) pos af none
 refine wpListIn_plain rfl fun K' hK => wp_toIn (a := a) (K := fun x w => x = a.put (some d) v ∧ St n wr ((d, v) :: fr) O x w) (Q := fun _ _ _ => False) hF rfl hop (by rw [hrun]; trivial) ?_ (fun _ _ _ h => h) ?_
 ·unfold Oper.wp
  rw [hrun, Oper.upon_value]
  exact ⟨rfl, hs.sim.put hd v, hs.old, hs.own⟩
 ·rintro u w' ⟨e, hst⟩
  rw [actD_put]
  exact hK _ _ (k _ _ (e ▸ hst))
theorem RLI_st (hF : WF F) {dst : Option Tmp} {op : Op} (hd : ∀ d, dst = some d → Nat.ble (d + 1) n = true) (hop : ∀ c, op ≠ .defer c) (hc : ∀ a w, St n wr fr O a w → calm ((execOp a.eval ⟨dst, op, ty, pos, af, none⟩).run P w))
  (h : Stp P n wr fr O ⟨dst, op, ty, pos, af, none⟩ fun v O' => RLI F D P n wr ops rest K (updF fr dst v) O') : RLI F D P n wr ops (⟨dst, op, ty, pos, af, none⟩ :: rest) K fr O := by
 intro a w hs
 refine wpListIn_plain rfl fun K' hK => wp_toIn (a := a) (K := fun x w => ∃ v O', x = a.put dst v ∧ Bel wr.heap.size wr w ∧ Holds wr.heap.size O' w ∧ RLI F D P n wr ops rest K (updF fr dst v) O') (Q := fun _ _ _ => False) hF rfl hop (hc a w hs) ?_ (fun _ _ _ h => h) ?_
 ·exact h a w hs _ _ fun v O' w' h1 h2 h3 => ⟨v, O', rfl, h1, h2, h3⟩
 ·rintro u w' ⟨v, O', e, h1, h2, h3⟩
  rw [actD_put]
  refine hK _ _ (h3 _ _ ?_)
  show St n wr _ O' (a.put dst u) w'
  rw [e]
  cases dst with
  | none => exact ⟨hs.sim, h1, h2⟩
  | some d => exact ⟨hs.sim.put (hd d rfl) v, h1, h2⟩
theorem calm_callV {dst : Option Tmp} {g : Option (Nat × Bool)} {f : FuncId} {gx : Operand} {xs : List Operand} {ts : Array TypeId} {us cs : List Value} [Body P f] {a : Act} {w : World} (hs : St n wr fr O a w) (hg : ev fr gx = some (.func (.func f) us.toArray cs.toArray)) :
  calm ((execOp a.eval ⟨dst, .call ⟨.value gx, xs.toArray, ts⟩, ty, pos, af, g⟩).run P w) := by
 simp [execOp, resolve, hs.sim.ev hg, Deferred.ofValue, invoke, run_callFunc, calm]
theorem calm_store {dst : Option Tmp} {g : Option (Nat × Bool)} {t : TypeId} {x y : Operand} (a : Act) (w : World) : calm ((execOp a.eval ⟨dst, .store t x y, ty, pos, af, g⟩).run P w) := by
 simp only [execOp, Sem.run_bind]
 generalize (Instr.storeAt t (a.eval x) (a.eval y)).run P w = r
 cases r <;> simp [calm, Result.andThen]
theorem RLI_yes {dst : Option Tmp} {op : Op} {j : Nat} {b : Bool} {oj : Oper} {d : Nat} (hj : ops[j]? = some oj) (hd : oj.dst = some d) (hb : look fr d = some (.bool b))
  (k : RLI F D P n wr ops (⟨dst, op, ty, pos, af, none⟩ :: rest) K fr O) : RLI F D P n wr ops (⟨dst, op, ty, pos, af, some (j, b)⟩ :: rest) K fr O := by
 intro a w hs
 have := k a w hs
 have hy : yielded ops (actD D a).tmps j = some b := by
  show yielded ops a.tmps j = some b
  simp [yielded, hj, hd, hs.sim.at_ d _ hb]
 simp only [wpListIn, Region.wanted, hy, if_true, beq_self_eq_true] at this ⊢
 exact this
theorem RLI_no (hF : WF F) {d' : Nat} {op : Op} {j : Nat} {b b' : Bool} {oj : Oper} {d : Nat} (hj : ops[j]? = some oj) (hd : oj.dst = some d) (hb : look fr d = some (.bool b')) (hne : b' = !b) (hdn : Nat.ble (d' + 1) n = true)
  (k : RLI F D P n wr ops rest K ((d', undef) :: fr) O) : RLI F D P n wr ops (⟨some d', op, ty, pos, af, some (j, b)⟩ :: rest) K fr O := by
 intro a w hs
 have := k (a.put (some d') undef) w ⟨hs.sim.put hdn undef, hs.old, hs.own⟩
 have hy : yielded ops (actD D a).tmps j = some b' := by
  show yielded ops a.tmps j = some b'
  simp [yielded, hj, hd, hs.sim.at_ d _ hb]
 have hw : Region.wanted (⟨some d', op, ty, pos, af, some (j, b)⟩ : Oper) (yielded ops (actD D a).tmps) = false := by
  subst hne
  simp [Region.wanted, hy]
 simp only [wpListIn, hw]
 exact ⟨fun f _ => hF.fn f, by rw [actD_put]; exact this⟩
def liftI (D : List Deferred) (n : Nat) (wr : World) (Q : Exit → Fr → List It → Prop) : Exit → Act → World → Prop := fun e a w => a.defers = D ∧ ∃ fr O, St n wr fr O (actD [] a) w ∧ Q e fr O
def WI (F : Fence) (D : List Deferred) (P : Program) (n : Nat) (wr : World) (c : Code) (Q : Exit → Fr → List It → Prop) (fr : Fr) (O : List It) : Prop :=
 ∀ a w, St n wr fr O a w → c.wpIn F 0 P (liftI D n wr Q) (actD D a) w
theorem actD_back {a : Act} (h : a.defers = D) : actD D (actD [] a) = a := by cases a; simp only at h; subst h; rfl
variable {Q : Exit → Fr → List It → Prop}
theorem WI_seq {x y : Code} (h : WI F D P n wr x (thenQ (WI F D P n wr y Q) Q) fr O) : WI F D P n wr (.seq x y) Q fr O := by
 intro a w hs
 refine wpIn_seq (wpIn_mono (h a w hs) ?_)
 rintro e a' w' ⟨hd, fr', O', hs', hq⟩
 cases e with
 | normal =>
  have := hq _ w' hs'
  rw [actD_back hd] at this
  exact this
 | _ => exact ⟨hd, fr', O', hs', hq⟩
theorem WI_skip (h : Q .normal fr O) : WI F D P n wr .skip Q fr O := fun a _ hs => wpIn_skip ⟨rfl, fr, O, by rw [actD_nil hs]; exact hs, h⟩
theorem WI_ret (h : Q .ret fr O) : WI F D P n wr .ret Q fr O := fun a _ hs => wpIn_ret ⟨rfl, fr, O, by rw [actD_nil hs]; exact hs, h⟩
theorem WI_cond {c : Operand} {x y : Code} {b : Bool} (hc : ev fr c = some (.bool b)) (ht : b = true → WI F D P n wr x Q fr O) (hf : b = false → WI F D P n wr y Q fr O) : WI F D P n wr (.cond c x y) Q fr O := by
 intro a w hs
 have he : (actD D a).eval c = .bool b := hs.sim.ev hc
 exact wpIn_cond_split he (fun h => ht h a w hs) (fun h => hf h a w hs)
theorem WI_region {id : Nat} {l : List Oper} (h : RLI F D P n wr l.toArray l (Q .normal) fr O) : WI F D P n wr (.region id l.toArray false) Q fr O := by
 intro a w hs
 refine wpIn_mono (wpIn_region_lit (h a w hs)) ?_
 rintro e a' w' ⟨rfl, hd, fr', O', hs', hq⟩
 exact ⟨hd, fr', O', hs', hq⟩
def LoopIt (l : Nat) (r : Loop) : It := .fact (fun k => k = l) (fun w => w.heap[l]? = some (.loop r))
def DefIt (b : Nat) : It := .fact (fun k => k = b) (fun w => w.heap[b]? = some (.deferred (some [])))
theorem LoopIt.at {l : Nat} {r : Loop} {w : World} (h : (LoopIt l r).sat w) : w.heap[l]? = some (.loop r) := fact_at h
theorem DefIt.at {b : Nat} {w : World} (h : (DefIt b).sat w) : w.heap[b]? = some (.deferred (some [])) := fact_at h
theorem putObj_size (w : World) (l : Nat) (o : Obj) : (w.putObj l o).heap.size = w.heap.size := by simp [World.putObj]
theorem turn_loop {a : Act} {w : World} {l : Nat} {r r' : Loop} {O' : List It} (hs : St n wr fr O a w) (hu : Upd O (LoopIt l r) (LoopIt l r') O') : St n wr fr O' a (w.putObj l (.loop r')) := by
 have hin := hs.own.inb _ hu.mem l rfl
 refine ⟨hs.sim, hs.old.trans ⟨⟨rfl, rfl, rfl, by rw [putObj_size]; exact Nat.le_refl _, fun i hi => World.putObj_heap_other (by omega)⟩⟩, hs.own.upd hu hs.old.size (by rw [putObj_size]; exact Nat.le_refl _) (fun i _ hi => World.putObj_heap_other hi) ?_ (fun i hi => .inl hi)⟩
 intro w' ha
 rw [ha l rfl]
 exact World.putObj_heap_same hin.2
def roundQ (l : Nat) (r : Loop) (R : Bool → List It → Prop) : Exit → Fr → List It → Prop
 | .normal => fun _ O => ∃ O', Upd O (LoopIt l { r with state := .busy }) (LoopIt l { r with state := .ready, pending := none }) O' ∧ R true O'
 | .ret => fun _ O => ∃ O', Upd O (LoopIt l { r with state := .busy }) (LoopIt l { r with state := .done, pending := some .ret }) O' ∧ R false O'
 | _ => fun _ _ => False
def YieldsTo (P : Program) (l : Nat) (v : Value) (wr : World) (O : List It) (R : Bool → List It → Prop) : Prop :=
 ∀ w, Bel wr.heap.size wr w → Holds wr.heap.size O w → YieldAt Fence.wide 0 P l #[v] w fun e w' => ∃ b O', e = .returned (.bool b) ∧ Bel wr.heap.size wr w' ∧ Holds wr.heap.size O' w' ∧ R b O'
theorem yields_round {l p : Nat} {r : Loop} {v : Value} {a0 : Act} {O1 : List It} {R : Bool → List It → Prop} (hp : r.params = #[p]) (hr : r.state = .ready) (ht : r.tmps = a0.tmps) (hsim : Sim n fr a0) (hpn : Nat.ble (p + 1) n = true)
  (hu : Upd O (LoopIt l r) (LoopIt l { r with state := .busy }) O1) {id : Nat} {la : List Oper} (hass : r.assign = .region id la.toArray false)
  (hb : RLI (Fence.wide.inRound l) [] P n wr la.toArray la (fun fr' O' => O' = O ∧ WI (Fence.wide.inRound l) [] P n wr r.body (roundQ l r R) fr' O1) ((p, v) :: fr) O) : YieldsTo P l v wr O R := by
 intro w hB hH
 have hl := LoopIt.at (hH.sat _ hu.mem)
 have hy := run_yield (P := P) (args := #[v]) hl (by rw [hp]; rfl)
 rw [hp, ht] at hy
 refine ⟨r.fn, _, r.assign, r.body, hy, roundIn_of_wpIn trivial ?_⟩
 have hst : St n wr ((p, v) :: fr) O { tmps := a0.tmps.setIfInBounds p v, defers := [] } w := by
  have := hsim.put hpn v
  refine ⟨?_, hB, hH⟩
  have e : ({ tmps := a0.tmps.setIfInBounds p v, defers := [] } : Act) = a0.put (some p) v := by
   have := hsim.defers
   simp [Act.put, this]
  rw [e]
  exact this
 rw [hass, show Array.foldl (fun tmps (x : Tmp × Value) => match x with | (t, a) => tmps.setIfInBounds t a) a0.tmps (#[p].zip #[v]) = a0.tmps.setIfInBounds p v by simp]
 refine wpIn_mono (wpIn_region_lit (hb _ w hst)) ?_
 rintro e a' w' ⟨rfl, hd, fr', O', hs', rfl, hW⟩
 have hl' := LoopIt.at (hs'.own.sat _ hu.mem)
 refine ⟨_, run_beginRound hl' hr, ?_⟩
 have hs2 := turn_loop hs' hu
 have h3 := hW _ _ hs2
 rw [actD_back hd] at h3
 refine wpIn_mono h3 ?_
 rintro e2 a2 w2 ⟨hd2, fr2, O2, hs3, hq⟩
 cases e2 with
 | normal =>
  obtain ⟨O3, hu3, hR⟩ := hq
  have hl3 := LoopIt.at (hs3.own.sat _ hu3.mem)
  have hs4 := turn_loop hs3 hu3
  exact ⟨_, _, run_endRound none hl3, true, O3, rfl, hs4.old, hs4.own, hR⟩
 | ret =>
  obtain ⟨O3, hu3, hR⟩ := hq
  have hl3 := LoopIt.at (hs3.own.sat _ hu3.mem)
  have hs4 := turn_loop hs3 hu3
  exact ⟨_, _, run_endRound (some .ret) hl3, false, O3, rfl, hs4.old, hs4.own, hR⟩
 | exit id => exact hq.elim
 | goto t => exact hq.elim
 | panic ch => exact hq.elim
 | outgrown => exact hq.elim
theorem RLI_yield {d l : Nat} {gx y : Operand} {ts : Array TypeId} {v : Value} {R : Bool → List It → Prop} (hd : Nat.ble (d + 1) n = true) (hg : ev fr gx = some (.func (.yield l) #[] #[])) (hx : ev fr y = some v) (h : YieldsTo P l v wr O R)
  (k : ∀ b O', R b O' → RLI Fence.wide [] P n wr ops rest K ((d, .bool b) :: fr) O') : RLI Fence.wide [] P n wr ops (⟨some d, .call ⟨.value gx, #[y], ts⟩, ty, pos, af, none⟩ :: rest) K fr O := by
 intro a w hs
 refine wpListIn_plain rfl fun K' hK => ⟨fun f _ => trivial, ?_⟩
 obtain ⟨fn, tmps, assign, body, hy, hR⟩ := h w hs.old hs.own
 have e : actD [] a = a := by
  have := hs.sim.defers
  cases a; simp only at this; subst this; rfl
 rw [e]
 have hrun : (Oper.semAt Fence.wide.round a.eval ⟨some d, .call ⟨.value gx, #[y], ts⟩, ty, pos, af, none⟩).run P w = .ok (.round l fn tmps assign body) w := by
  rw [Oper.semAt_eq _ _ _ (by intro c hc; cases hc)]
  simp [execOp, resolve, hs.sim.ev hg, hs.sim.ev hx, Deferred.ofValue, invoke, hy]
 rw [hrun, Oper.uponIn_round]
 refine ⟨fun hh => (by cases hh), hR.mono ?_⟩
 rintro e2 w' ⟨b, O', rfl, h1, h2, h3⟩
 have := k b O' h3 (a.put (some d) (.bool b)) w' ⟨hs.sim.put hd _, h1, h2⟩
 refine hK _ _ ?_
 have e2 : actD [] (a.put (some d) (.bool b)) = a.put (some d) (.bool b) := by rw [← actD_put, e]
 rw [e2] at this
 exact this
theorem W_regionI {id : Nat} {l : List Oper} (h : RLI Fence.wide [] P n wr l.toArray l (Q .normal) fr O) : W P n wr (.region id l.toArray false) Q fr O := by
 intro a w hs
 have e : actD [] a = a := by
  have := hs.sim.defers
  cases a; simp only at this; subst this; rfl
 have h1 := h a w hs
 rw [e] at h1
 refine wpIn_wide.1 (wpIn_mono (wpIn_region_lit h1) ?_)
 rintro e a' w' ⟨rfl, hd, fr', O', hs', hq⟩
 refine ⟨fr', O', ?_, hq⟩
 rw [show a' = actD [] a' from (by cases a'; simp only at hd; subst hd; rfl)]
 exact hs'
theorem SubO.trans {A B C : List It} (h : SubO A B) (k : SubO B C) : SubO A C := by
 obtain ⟨R1, h1⟩ := h.perm
 obtain ⟨R2, h2⟩ := k.perm
 exact SubO.ofPerm (R := R1 ++ R2) (h2.trans (by rw [← List.append_assoc]; exact h1.append_right R2))
theorem ret_0r {R : Value → List It → Prop} (O' : List It) (hO : SubO O' O) (hR : R (.tuple #[]) O') : retQ P wr [] R .ret fr O := ⟨[], O', rfl, hO, hR⟩
theorem W_regionY {id d0 d1 d2 l : Nat} {x y g : Operand} {op1 : Op} {ty0 ty1 : TypeId} {p0 p1 : String} {f0 f1 : Array Edge} {ts : Array TypeId} {u v : Value} {R : Bool → List It → Prop} (n0 : Nat.ble (d0 + 1) n = true) (n1 : Nat.ble (d1 + 1) n = true) (n2 : Nat.ble (d2 + 1) n = true) (hop : ∀ c, op1 ≠ .defer c)
  (hx : ev fr x = some u) (h1 : Pu P n wr ((d0, u) :: fr) O op1 ty1 v) (hg : ev ((d1, v) :: (d0, u) :: fr) g = some (.func (.yield l) #[] #[])) (hy : ev ((d1, v) :: (d0, u) :: fr) y = some v) (hY : YieldsTo P l v wr O R)
  (k : ∀ b O', R b O' → RLI Fence.wide [] P n wr (⟨some d0, .move x, ty0, p0, f0, none⟩ :: ⟨some d1, op1, ty1, p1, f1, none⟩ :: ⟨some d2, .call ⟨.value g, #[y], ts⟩, ty, pos, af, none⟩ :: rest).toArray rest (Q .normal) ((d2, .bool b) :: (d1, v) :: (d0, u) :: fr) O') :
  W P n wr (.region id (⟨some d0, .move x, ty0, p0, f0, none⟩ :: ⟨some d1, op1, ty1, p1, f1, none⟩ :: ⟨some d2, .call ⟨.value g, #[y], ts⟩, ty, pos, af, none⟩ :: rest).toArray false) Q fr O :=
 W_regionI (RLI_pu (.inl rfl) n0 (by intro c h; cases h) (Pu_move hx) (RLI_pu (.inl rfl) n1 hop h1 (RLI_yield n2 hg hy hY k)))
theorem St.allocFact {a : Act} {w : World} (hs : St n wr fr O a w) (o : Obj) : St n wr fr (.fact (fun k => k = w.heap.size) (fun w' => w'.heap[w.heap.size]? = some o) :: O) a (w.alloc o) := by
 have hB : Bel w.heap.size w (w.alloc o) := (Bel.refl _ _).alloc (Nat.le_refl _) _
 refine ⟨hs.sim, hs.old.trans (hB.mono hs.old.size), hs.own.grow (O' := [_]) hB hs.old.size ⟨fun i hi => ?_, fun i hi b hb => ?_, List.pairwise_singleton _ _⟩⟩
 ·rw [List.mem_singleton.1 hi]
  intro w' ha
  rw [ha _ rfl]
  exact World.alloc_heap_new w o
 ·rw [List.mem_singleton.1 hi] at hb
  obtain rfl : b = w.heap.size := hb
  exact ⟨Nat.le_refl _, by simp⟩
def markD (D : Nat) : List Deferred := [{ target := .collected D, args := #[] }]
def recOf (fn : FuncId) (tm : Array Value) (p : Tmp) (assign body : Code) (D : Nat) : Loop := { state := .ready, pending := none, fn := fn, tmps := tm, params := #[p], assign := assign, body := body, defers := D }
theorem range_wp {gf : FuncId} [Body P gf] {lb : List Value} {g : Operand} {p : Tmp} {assign body : Code} {Q2 : Exit → Act → World → Prop} {a : Act} {w : World} (K : Option Code → List It → Prop) (hs : St n wr fr O a w) (hg : ev fr g = some (.func (.func gf) #[] lb.toArray))
  (hit : ∀ fn l D, DoesIn P gf (.func (.yield l) #[] #[] :: lb) wr (LoopIt l (recOf fn a.tmps p assign body D) :: DefIt D :: O) fun _ O' => ∃ jump O2 st, SubO (LoopIt l { recOf fn a.tmps p assign body D with state := st, pending := jump } :: DefIt D :: O2) O' ∧ st ≠ .busy ∧ K jump O2)
  (hk : ∀ jump O2 D w', K jump O2 → St n wr fr (DefIt D :: O2) a w' → match jump with | none => Q2 .normal (actD (markD D) a) w' | some c => c.wp P Q2 (actD (markD D) a) w') : (Code.rangeFunc g #[p] assign body).wp P Q2 a w := by
 refine (wpIn_wide (n := 0)).1 (wpIn_rangeFunc fun fn _ => ?_)
 have h1 := hs.allocFact (.deferred (some []))
 have h2 := h1.allocFact (.loop (recOf fn a.tmps p assign body w.heap.size))
 rw [World.size_alloc] at h2
 have hst : St n wr fr (LoopIt (w.heap.size + 1) (recOf fn a.tmps p assign body w.heap.size) :: DefIt w.heap.size :: O) a ((w.alloc (.deferred (some []))).alloc (.loop (recOf fn a.tmps p assign body w.heap.size))) := h2
 have hen := run_enterLoop_outer (P := P) (w := w) fn a.tmps #[p] assign body
 generalize hW1 : (w.alloc (.deferred (some []))).alloc (.loop (recOf fn a.tmps p assign body w.heap.size)) = W1 at hst
 rw [show (w.alloc (.deferred (some []))).alloc (.loop { state := .ready, pending := none, fn := fn, tmps := a.tmps, params := #[p], assign := assign, body := body, defers := w.heap.size }) = W1 from hW1] at hen
 refine ⟨w.heap.size + 1, markD w.heap.size, W1, { target := .fn (.func gf) lb.toArray, args := #[.func (.yield (w.heap.size + 1)) #[] #[]] }, W1, gf, #[.func (.yield (w.heap.size + 1)) #[] #[]] ++ lb.toArray, W1, hen, ?_, fun _ _ => trivial, ?_, fun hh => (by cases hh), ?_⟩
 ·have hcv : a.eval (.const (.func (.yield (w.heap.size + 1)) #[] #[])) = .func (.yield (w.heap.size + 1)) #[] #[] := rfl
  simp [resolve, hs.sim.ev hg, hcv, Deferred.ofValue]
 ·simp [invoke, run_callFunc]
 ·refine callsIn_wide.2 ?_
  have hc := hit fn (w.heap.size + 1) w.heap.size _ hst.old hst.own
  rw [show (Value.func (.yield (w.heap.size + 1)) #[] #[] :: lb).toArray = #[.func (.yield (w.heap.size + 1)) #[] #[]] ++ lb.toArray by simp] at hc
  refine hc.mono ?_
  rintro e w3 ⟨v, O', rfl, hB, hH, jump, O2, st, hsub, hne, hK⟩
  have hs3 : St n wr fr (LoopIt (w.heap.size + 1) { recOf fn a.tmps p assign body w.heap.size with state := st, pending := jump } :: DefIt w.heap.size :: O2) a w3 := ⟨hs.sim, hB, hH.sub hsub⟩
  have hl := LoopIt.at (hs3.own.sat _ List.mem_cons_self)
  have hs4 := turn_loop (r' := { recOf fn a.tmps p assign body w.heap.size with state := .exhausted, pending := jump }) hs3 .here
  have hk2 := hk jump O2 w.heap.size _ hK ⟨hs4.sim, hs4.old, hs4.own.tail⟩
  refine ⟨jump, _, run_endLoop hl hne, ?_⟩
  have e0 : ({ a with defers := markD w.heap.size ++ a.defers } : Act) = actD (markD w.heap.size) a := by
   have := hs.sim.defers
   simp [actD, this]
  rw [e0]
  cases jump with
  | none => exact hk2
  | some c => exact wpIn_wide.2 hk2
theorem Does_marks {f : FuncId} {fn : Func} {c : Code} {args : List Value} {w : World} {R : Ending → World → Prop} (hf : P.funcs[f]? = some fn) (hb : fn.body = some c) (hn : fn.ntmps = n) (ha : Nat.ble args.length n = true)
  (h : ∀ a, St n w (argsFr 0 args) [] a w → c.wp P (bodyPostM Fence.wide 0 P fn R) a w) : Calls P f args.toArray w R := by
 refine (callsIn_wide (n := 0)).1 (callsIn_of_wp_marks hf hb trivial ?_)
 refine (wpIn_wide (n := 0)).2 (h _ ?_)
 have ha' : args.length ≤ n := Nat.le_of_ble_eq_true ha
 refine ⟨⟨rfl, by simp; omega, fun t v hv => ?_⟩, Bel.refl _ _, Holds.nil _ _⟩
 have := (look_argsFr args 0 t v hv).2
 simp only [Nat.sub_zero] at this
 have hlt : t < args.length := (List.getElem?_eq_some_iff.1 this).1
 rw [Array.getElem?_append_left (by simpa using hlt)]
 simpa using this
theorem DoesIn.sub {f : FuncId} {args : List Value} {O' : List It} {R R' : Value → List It → Prop} (h : DoesIn P f args wr O R) (hO : SubO O O') (hR : ∀ v O, R v O → R' v O) : DoesIn P f args wr O' R' :=
 fun w hB hH => (h w hB (hH.sub hO)).mono fun _ _ ⟨v, O1, h1, h2, h3, h4⟩ => ⟨v, O1, h1, h2, h3, hR v O1 h4⟩
theorem WI.at {c : Code} {a : Act} {w : World} (h : WI F D P n wr c Q fr O) (hs : St n wr fr O a w) : c.wpIn F 0 P (liftI D n wr Q) (actD D a) w := h a w hs
theorem WI_block {id : Nat} {c : Code} (h : WI F D P n wr c (blockQ id Q) fr O) : WI F D P n wr (.block id c) Q fr O := by
 intro a w hs
 refine wpIn_block (wpIn_mono (h a w hs) ?_)
 rintro e a' w' ⟨hd, fr', O', hs', hq⟩
 cases e with
 | exit k =>
  simp only [Exit.inBlock, blockQ] at hq ⊢
  split
  ·rename_i hk; rw [if_pos hk] at hq; exact ⟨hd, fr', O', hs', hq⟩
  ·rename_i hk; rw [if_neg hk] at hq; exact ⟨hd, fr', O', hs', hq⟩
 | _ => exact ⟨hd, fr', O', hs', hq⟩
end
end Go.Wk
