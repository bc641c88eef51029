/- Contracts: slices.ContainsFunc at states, accept.unused, looker.era$1. -/
import Derived.Test.YtonjepladadmhaaGreatDoorS31
import Derived.Test.YtonjepladadmhaaGreatDoorS11
set_option maxHeartbeats 4000000
set_option linter.unusedVariables false
set_option linter.unusedSimpArgs false
namespace Go.Wk
open Go Go.RowKit
theorem Pu_neqEB {P : Program} {n : Nat} {wr : World} {fr : Fr} {O : List It} {ty t t' : TypeId} {α : Type} [DecidableEq α] {enc : α → List Value} {x y : Operand} {i j : α} {b : Bool} [hE : EqE P t α enc] (hx : ev fr x = some (.agg (enc i).toArray)) (hy : ev fr y = some (.agg (enc j).toArray)) (h : (!decide (i = j)) = b) :
  Pu P n wr fr O (.binOp .neq t x y t') ty (.bool b) := h ▸ Pu_neqE hx hy
end Go.Wk
namespace Go.Proofs.YtonjepladadmhaaGreatDoor
open Go Go.RowKit Go.Wk
attribute [local irreducible] W RL Does thenQ blockQ retQ Calls Pu Stp RD Qy Ay DoesIn
theorem indexSt_spec (A : Option Addr) (c : Nat) (l : List (Int × ByteArray)) (f : FuncId) [Body Tryz.prog f] (us cs : List Value) (p : Int × ByteArray → Bool) (w : World) (hA : RdSl w A c stEnc 2 l)
  (hf : ∀ r ∈ l, ∀ w', Bel w.heap.size w w' → Does Tryz.prog f (us ++ [.agg (stEnc r).toArray] ++ cs) w' (fun v O => v = .bool (p r) ∧ O = [])) :
  Does Tryz.prog 201 [.slice A l.length c, .func (.func f) us.toArray cs.toArray] w (fun v O => v = .int .i64 (findI p l 0) ∧ O = []) := by
 have hs1 := hA.le
 have hs2 := hA.cap
 unfold maxLen at hs2
 generalize hres : findI p l 0 = res
 refine Does_of_W Tryz.func201 rfl rfl rfl rfl ?_
 repeat (first | refine walk ?_)
 refine W_loopF [(0, _), (1, _), (4, _), (7, _)] _ (fun k : Nat => [(8, .int .i64 k)]) (fun _ => []) (fun k => k ≤ l.length ∧ findI p (l.drop k) k = res) (fun k => l.length - k) 0 ⟨rfl, rfl, rfl, rfl, rfl, trivial⟩ (.refl _) ⟨by omega, by simpa using hres⟩ ?_
 rintro k ⟨hk, hi⟩
 repeat (first | refine walk ?_)
 refine W_cond rfl (fun hc => ?_) (fun hc => ?_)
 ·simp only [decide_eq_true_eq, Int.ofNat_lt] at hc
  obtain ⟨hna, hca⟩ := hA.rd k _ (List.getElem?_eq_getElem hc)
  have hnb := hna
  have hcb := hca
  rw [drop_cons hc, findI] at hi
  have hrm := List.getElem_mem hc
  generalize l[k] = r at *
  repeat (first | (apply RL_pu; rfl; exact PuI) | (refine js ?_; (refine callV (fun w' hw _ => hf r hrm w' hw) ?_)) | refine walk1 ?_)
  refine W_cond rfl (fun h3 => ?_) (fun h3 => ?_)
  ·repeat (first | refine walk ?_)
   rw [if_pos h3] at hi
   exact ret_1 _ [] (.tmp rfl) .nil ⟨by rw [← hi], rfl⟩
  repeat (first | refine walk ?_)
  rw [h3] at hi
  exact ⟨k + 1, by omega, ⟨by omega, hi⟩, SFA, SOA⟩
 simp only [decide_eq_false_iff_not, Int.ofNat_lt] at hc
 repeat (first | refine walk ?_)
 exact ret_1 _ [] (.tmp rfl) .nil ⟨by rw [← hi, List.drop_eq_nil_of_le (by omega)]; rfl, rfl⟩
theorem containsSt_spec (A : Option Addr) (c : Nat) (l : List (Int × ByteArray)) (f : FuncId) [Body Tryz.prog f] (us cs : List Value) (p : Int × ByteArray → Bool) (w : World) (hA : RdSl w A c stEnc 2 l)
  (hf : ∀ r ∈ l, ∀ w', Bel w.heap.size w w' → Does Tryz.prog f (us ++ [.agg (stEnc r).toArray] ++ cs) w' (fun v O => v = .bool (p r) ∧ O = [])) :
  Does Tryz.prog 168 [.slice A l.length c, .func (.func f) us.toArray cs.toArray] w (fun v O => v = .bool (l.any p) ∧ O = []) := by
 have h := fun w' (hw : Bel w.heap.size w w') => indexSt_spec A c l f us cs p w' (hA.up hw) fun r hr w2 h2 => hf r hr w2 (hw.trans (h2.mono hw.size))
 rw [← findI_any p l 0]
 generalize findI p l 0 = k at *
 refine Does_of_W Tryz.func168 rfl rfl rfl rfl ?_
 repeat (first | (refine js ?_; (refine callE h ?_)) | refine walk ?_)
 exact rtA
theorem era1_spec (x : Int × ByteArray) (ad : Addr) (off : Int) (w : World) (h : w.cell? ad = some (.int .i64 off)) (ho : I64 off) (hx : I64 x.1) : Does Tryz.prog 165 [.agg (stEnc x).toArray, .pointer (some ad)] w (fun v O => v = .bool (!hoursB off x.1) ∧ O = []) := by
 obtain ⟨sv, lt⟩ := x
 dsimp only at hx ⊢
 have hh := fun w' => hours_spec off sv ho hx w'
 generalize hoursB off sv = hb at *
 simp only [stEnc]
 refine Does_of_W Tryz.func165 rfl rfl rfl rfl ?_
 repeat (first | (apply RL_pu; rfl; (apply Pu_loadO1; rfl; exact h)) | (refine js ?_; (first | (refine callE (fun w' hw => hh w') ?_) | (refine bx ?_; intro bk))) | refine walk1 ?_)
 exact rtA
instance : EqE Tryz.prog 53 DUntil DUntil.enc where
 h r s w := by
  unfold DUntil.enc
  simp [go_sem, toList_inj]
  rcases r with ⟨_, _, _, ⟨_, _, _⟩, ⟨_, _⟩⟩
  rcases s with ⟨_, _, _, ⟨_, _, _⟩, ⟨_, _⟩⟩
  simp only [ok_ite, Result.ok.injEq, and_true]
  rw [Bool.eq_iff_iff]
  simp [and_assoc]
 g := by kernel_rfl
theorem unused_spec (e : DEra) (w : World) : Does Tryz.prog 170 [.agg e.enc.toArray] w (fun v O => v = .bool (unusedB e) ∧ O = []) := by
 obtain ⟨off, kind, save, set, format, til⟩ := e
 unfold unusedB
 dsimp only
 obtain ⟨is, year, month, ⟨dk, dw, dd⟩, ⟨cs, cb⟩⟩ := til
 dsimp only
 obtain ⟨n1, e1⟩ : ∃ b, (!decide (kind = 1)) = b := ⟨_, rfl⟩
 obtain ⟨n2, e2⟩ : ∃ b, (!decide (save = 0)) = b := ⟨_, rfl⟩
 obtain ⟨n3, e3⟩ : ∃ b, (!decide (kind = 2)) = b := ⟨_, rfl⟩
 obtain ⟨n4, e4⟩ : ∃ b, (!decide (set = ByteArray.empty)) = b := ⟨_, rfl⟩
 obtain ⟨n5, e5⟩ : ∃ b, (!decide ((⟨false, year, month, ⟨dk, dw, dd⟩, ⟨cs, cb⟩⟩ : DUntil) = dU0)) = b := ⟨_, rfl⟩
 rw [e1, e2, e3, e4, e5]
 simp only [DEra.enc]
 refine Does_of_W Tryz.func170 rfl rfl rfl rfl ?_
 repeat' (first | (apply RL_pu; rfl; (first | (apply Pu_neqB'; rfl; rfl; exact e1) | (apply Pu_neqB'; rfl; rfl; exact e2) | (apply Pu_neqB'; rfl; rfl; exact e3) | (apply Pu_neqSB; rfl; rfl; exact e4) | (apply Pu_neqEB (i := (⟨false, year, month, ⟨dk, dw, dd⟩, ⟨cs, cb⟩⟩ : DUntil)) (j := dU0) (enc := DUntil.enc); rfl; rfl; exact e5))) | (refine js ?_; (refine bx ?_; intro bk)) | refine walk1 ?_ | refine und ?_ | (refine RL_gsplit rfl rfl rfl (fun hc => ?_) (fun hc => ?_)) | (refine RD_gsplit rfl rfl rfl (fun hc => ?_) (fun hc => ?_)) | (refine W_cond rfl (fun hc => ?_) (fun hc => ?_)))
 all_goals exact clo1
end Go.Proofs.YtonjepladadmhaaGreatDoor
