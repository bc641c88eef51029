/- Contracts: name.kinds, of, Set, Letter, Abbr. Contracts: name.Set. Contracts: ruleset.named, timed, conditions, posix, Least, Other. A loop unrolled. Contracts: slices.ContainsFunc at rules, ruleset.Check$1, Check$2, last$1; an array's element by its number. -/
import Derived.Test.YtonjepladadmhaaGreatDoorS10
import Derived.Laws.Strings2
import Derived.Test.YtonjepladadmhaaGreatDoorS08
import Derived.Test.YtonjepladadmhaaGreatDoorS09
import Derived.LoopN
set_option maxHeartbeats 4000000
set_option linter.unusedVariables false
set_option linter.unusedSimpArgs false
namespace Go.Wk
open Go Go.RowKit
def kArr (p : Nat → Nat) : List Value := (List.range 256).map fun i => .int .u8 (p i)
theorem kArr_len (p : Nat → Nat) : (kArr p).length = 256 := by simp [kArr]
theorem kArr_get {p : Nat → Nat} {j : Nat} (hj : j < 256) : (kArr p)[j]? = some (.int .u8 (p j)) := by simp [kArr, hj]
theorem kArr_set (p : Nat → Nat) (j v : Nat) : (kArr p).set j (.int .u8 v) = kArr fun i => if i = j then v else p i := by
 apply List.ext_getElem
 ·simp [kArr]
 ·intro i h1 h2
  simp only [kArr, List.getElem_set, List.getElem_map, List.getElem_range]
  by_cases h : j = i
  ·subst h; simp
  ·have : i ≠ j := fun e => h e.symm
   simp [h, this]
theorem kArr_congr {p q : Nat → Nat} (h : ∀ i, i < 256 → p i = q i) : kArr p = kArr q := by
 unfold kArr
 apply List.map_congr_left
 intro i hi
 rw [h i (List.mem_range.1 hi)]
theorem kArr_one (p : Nat → Nat) : (kArr p).all Value.oneCell' = true := by simp [kArr, Value.oneCell']
attribute [irreducible] kArr
theorem lay_all : ∀ (vs : List Value) (pre cs : List Value), cs.length = vs.length → lay (pre ++ cs) pre.length vs = pre ++ vs
 | [], pre, cs, h => by
  have : cs = [] := List.eq_nil_of_length_eq_zero h
  rw [this]; rfl
 | v :: r, pre, [], h => by simp at h
 | v :: r, pre, c :: cs, h => by
  rw [lay, List.set_append_right _ _ (Nat.le_refl _), Nat.sub_self, List.set_cons_zero]
  have := lay_all r (pre ++ [v]) cs (by simpa using h)
  rw [List.append_assoc, List.length_append] at this
  simpa using this
section
variable {P : Program} {n : Nat} {wr : World} {fr : Fr} {O : List It} {ty : TypeId} {pos : String} {af : Array Edge}
theorem Pu_loadAll {t sz b : Nat} {x : Operand} {cs : List Value} {bt : TypeId} {R : List It} [Ty P t sz true] (hx : ev fr x = some (.pointer (some ⟨b, 0, none⟩))) (hp : Pick (.blk b cs bt) O R) (hl : cs.length = sz) : Pu P n wr fr O (.load t x) ty (.agg cs.toArray) :=
 Pu_loadBN hx hp (by simp [List.take_of_length_le (Nat.le_of_eq hl)]) hl
theorem Pu_sliceS0 {t : TypeId} {x z : Operand} {s : ByteArray} {k' : IntKind} {j : Int} [hS : StringT P t] (hx : ev fr x = some (.string s)) (hz : ev fr z = some (.int k' j)) (h1 : 0 ≤ j) (h2 : j ≤ s.size) :
  Pu P n wr fr O (.slice t x none (some z) none) ty (.string (s.extract 0 j.toNat)) := fun a w hs _ _ _ _ => by
 have h : (Instr.slice t (.string s) none (some (.int k' j)) none).run P w = .ok (.string (s.extract 0 j.toNat)) w := by
  have hj : 0 ≤ j ∧ j ≤ (s.size : Int) := ⟨by omega, h2⟩
  simp [Instr.slice, Instr.sliceBounds, Instr.sliceBound, asIntOf, run_underlying hS.h, hj]
 simp [execOp, hs.sim.ev hx, hs.sim.ev hz, Instr.sliceAt, run_underlying hS.h, h]
theorem Pu_sliceSL {t : TypeId} {x y : Operand} {s : ByteArray} {k : IntKind} {i : Int} [hS : StringT P t] (hx : ev fr x = some (.string s)) (hy : ev fr y = some (.int k i)) (h0 : 0 ≤ i) (h1 : i ≤ s.size) :
  Pu P n wr fr O (.slice t x (some y) none none) ty (.string (s.extract i.toNat s.size)) := fun a w hs _ _ _ _ => by
 have h : (Instr.slice t (.string s) (some (.int k i)) none none).run P w = .ok (.string (s.extract i.toNat s.size)) w := by
  have hi : 0 ≤ i ∧ i ≤ (s.size : Int) := ⟨h0, h1⟩
  simp [Instr.slice, Instr.sliceBounds, Instr.sliceBound, asIntOf, run_underlying hS.h, hi]
 simp [execOp, hs.sim.ev hx, hs.sim.ev hy, Instr.sliceAt, run_underlying hS.h, h]
theorem Pu_indexC {t : TypeId} {x ix : Operand} {s : ByteArray} {kk : IntKind} {i : Int} {c : UInt8} [hS : StringT P t] (hx : ev fr x = some (.string s)) (hi : ev fr ix = some (.int kk i)) (h0 : 0 ≤ i) (h1 : i < s.size) (hc : s.data.toList.getD i.toNat 0 = c) : Pu P n wr fr O (.index t x ix) ty (.int .u8 c.toNat) := by
 subst hc
 exact Pu_indexS hx hi h0 h1
theorem Stp_storeK {t b j v : Nat} {bt : TypeId} {x y : Operand} {p : Nat → Nat} {O' : List It} {dst : Option Tmp} {g : Option (Nat × Bool)} {Kp : Value → List It → Prop} [Ty P t 1 false] (hx : ev fr x = some (.pointer (some ((⟨b, 0, none⟩ : Addr).add (j * 1))))) (hy : ev fr y = some (.int .u8 v))
  (hu : Upd O (.blk b (kArr p) bt) (.blk b (kArr fun i => if i = j then v else p i) bt) O') (hj : j < 256) (k : Kp undef O') : Stp P n wr fr O ⟨dst, .store t x y, ty, pos, af, g⟩ Kp := by
 rw [add_mk, Nat.zero_add, Nat.mul_one] at hx
 exact Stp_storeB (sz := 1) (v := .int .u8 v) (vs := [.int .u8 v]) (j := j) hx hy hu rfl rfl rfl (by rw [Nat.ble_eq, kArr_len]; omega) (kArr_set p j v) k
theorem Stp_storeAll {t b sz : Nat} {bt : TypeId} {x y : Operand} {cs vs : List Value} {O' : List It} {dst : Option Tmp} {g : Option (Nat × Bool)} {Kp : Value → List It → Prop} [Ty P t sz true] (hx : ev fr x = some (.pointer (some ⟨b, 0, none⟩))) (hy : ev fr y = some (.agg vs.toArray))
  (hu : Upd O (.blk b cs bt) (.blk b vs bt) O') (hl : vs.length = sz) (hc : cs.length = sz) (h1 : vs.all Value.oneCell' = true) (k : Kp undef O') : Stp P n wr fr O ⟨dst, .store t x y, ty, pos, af, g⟩ Kp :=
 Stp_storeB (v := .agg vs.toArray) (vs := vs) hx hy hu rfl hl h1 (by rw [Nat.ble_eq]; omega) (lay_all vs [] cs (by omega)) k
end
theorem Holds.cells {base b : Nat} {cs : List Value} {t : TypeId} {O R : List It} {w : World} (h : Holds base O w) (hp : Pick (.blk b cs t) O R) : CellsAt w ⟨b, 0, none⟩ cs := fun j v hj => by
 rw [add_mk, blk_cell (h.sat _ (hp.perm.mem_iff.2 List.mem_cons_self)), Nat.zero_add, hj]
theorem wrap_and : ∀ a ∈ [0, 1, 2, 4, 8, 16], ∀ s : Fin 256, IntKind.u8.wrap ((BitVec.ofInt IntKind.u8.bits ((a : Nat) : Int) &&& BitVec.ofInt IntKind.u8.bits ((s.val : Nat) : Int)).toNat : Nat) = ((a &&& s.val : Nat) : Int) := by decide +kernel
theorem byteK_mem (c : Nat) : byteK c ∈ [0, 1, 2, 4, 8, 16] := by
 unfold byteK
 repeat' split
 all_goals decide
end Go.Wk
namespace Go.Proofs.YtonjepladadmhaaGreatDoor
open Go Go.RowKit Go.Wk
attribute [local irreducible] W RL Does thenQ blockQ retQ Calls Pu Stp RD Qy Ay DoesIn
instance zeroKinds : ZeroT Tryz.prog 281 (kArr fun _ => 0) := ⟨by kernel_rfl⟩
def k1 (k i : Nat) : Nat := if (65 ≤ i ∧ i < 65 + k) ∨ (97 ≤ i ∧ i < 97 + k) then 1 else 0
def k2 (k i : Nat) : Nat := if 48 ≤ i ∧ i < 48 + k then 2 else k1 26 i
theorem PuName0 {G : Prop} (h : G := by (apply Pu_indexArr; rfl; rfl; omega; omega)) : G := h
theorem nkinds_spec (w : World) : Does Tryz.prog 193 [] w (fun v O => v = .agg (kArr byteK).toArray ∧ O = []) := by
 refine Does_of_W Tryz.func193 rfl rfl rfl rfl ?_
 repeat (first | (refine js ?_; (refine bx ?_; intro bk)) | refine walkB ?_)
 rename_i b0
 have e0 : kArr (k1 0) = kArr fun _ => 0 := kArr_congr fun i _ => if_neg (by omega)
 rw [← e0]
 refine W_post (fun fr' O' => Go.Wk.Sub [(0, .pointer (some ⟨b0, 0, none⟩)), (1, .pointer (some ⟨bk, 0, none⟩))] fr' ∧ SubO [.blk bk (kArr (k1 26)) 281, .blk b0 (kArr (k1 0)) 281] O') ?_ ?_
 ·apply W_block
  refine W_loopF [(0, .pointer (some ⟨b0, 0, none⟩)), (1, .pointer (some ⟨bk, 0, none⟩))] [.blk b0 (kArr (k1 0)) 281] (fun k : Nat => [(4, .int .i64 k)]) (fun k => [.blk bk (kArr (k1 k)) 281]) (fun k => k ≤ 26) (fun k => 26 - k) 0 SFA SOA (Nat.zero_le _) ?_
  intro k hk
  repeat (first | (apply RL_pu; rfl; exact PuName0) | (refine js ?_; (refine bx ?_; intro bk)) | refine walk1 ?_)
  refine W_cond rfl (fun h => ?_) (fun h => ?_)
  ·have h1 := of_decide_eq_true h
   repeat (first | (apply RL_pu; rfl; exact PuName0) | (refine js ?_; (first | (apply Stp_storeK; rfl; rfl; (focus repeat' constructor); omega) | (refine bx ?_; intro bk))) | refine walk1 ?_)
   rw [kArr_congr (p := fun i => if i = (97 + (k : Int)).toNat then 1 else if i = (65 + (k : Int)).toNat then 1 else k1 k i) (q := k1 (k + 1)) (fun i hi => by
    unfold k1
    repeat' split
    all_goals omega)]
   exact ⟨k + 1, OA, OA, SFA, SOA⟩
  ·have h1 := of_decide_eq_false h
   obtain rfl : k = 26 := by omega
   repeat (first | (refine js ?_; (refine bx ?_; intro bk)) | refine walk ?_)
   exact ⟨rfl, SFA, SOA⟩
 rintro fr' O' ⟨hf, hO⟩
 apply thenQ_n
 refine W_sub hf hO ?_
 clear hf hO fr' O'
 rw [show kArr (k1 26) = kArr (k2 0) from kArr_congr fun i _ => (if_neg (by omega)).symm]
 repeat (first | (refine js ?_; (refine bx ?_; intro bk)) | refine walkB ?_)
 refine W_post (fun fr' O' => Go.Wk.Sub [(0, .pointer (some ⟨b0, 0, none⟩)), (1, .pointer (some ⟨bk, 0, none⟩))] fr' ∧ SubO [.blk bk (kArr (k2 10)) 281, .blk b0 (kArr (k1 0)) 281] O') ?_ ?_
 ·apply W_block
  refine W_loopF [(0, .pointer (some ⟨b0, 0, none⟩)), (1, .pointer (some ⟨bk, 0, none⟩))] [.blk b0 (kArr (k1 0)) 281] (fun k : Nat => [(14, .int .i64 k)]) (fun k => [.blk bk (kArr (k2 k)) 281]) (fun k => k ≤ 10) (fun k => 10 - k) 0 SFA SOA (Nat.zero_le _) ?_
  intro k hk
  repeat (first | (apply RL_pu; rfl; exact PuName0) | (refine js ?_; (refine bx ?_; intro bk)) | refine walk1 ?_)
  refine W_cond rfl (fun h => ?_) (fun h => ?_)
  ·have h1 := of_decide_eq_true h
   repeat (first | (apply RL_pu; rfl; exact PuName0) | (refine js ?_; (first | (apply Stp_storeK; rfl; rfl; (focus repeat' constructor); omega) | (refine bx ?_; intro bk))) | refine walk1 ?_)
   rw [kArr_congr (p := fun i => if i = (48 + (k : Int)).toNat then 2 else k2 k i) (q := k2 (k + 1)) (fun i hi => by
    unfold k2
    repeat' split
    all_goals omega)]
   exact ⟨k + 1, OA, OA, SFA, SOA⟩
  ·have h1 := of_decide_eq_false h
   obtain rfl : k = 10 := by omega
   repeat (first | (refine js ?_; (refine bx ?_; intro bk)) | refine walk ?_)
   exact ⟨rfl, SFA, SOA⟩
 rintro fr' O' ⟨hf, hO⟩
 apply thenQ_n
 refine W_sub hf hO ?_
 clear hf hO fr' O'
 repeat (first | (apply RL_pu; rfl; (first | exact PuName0 | (apply Pu_loadAll; rfl; (focus repeat' constructor); exact kArr_len _))) | (refine js ?_; (first | (apply Stp_storeK; rfl; rfl; (focus repeat' constructor); omega) | (apply Stp_storeAll; rfl; rfl; (focus repeat' constructor); exact kArr_len _; exact kArr_len _; exact kArr_one _) | (refine bx ?_; intro bk))) | refine walk1 ?_)
 refine ret_1 _ [] (.cellB rfl (by repeat' constructor) (List.take_of_length_le (Nat.le_of_eq (kArr_len _))) (kArr_len _)) .nil ⟨?_, rfl⟩
 rw [kArr_congr (q := byteK) (fun i hi => by
    unfold byteK k2 k1
    repeat' split
    all_goals omega)]
theorem wkName0 {G G' : Prop} (k : G') (h : Hold G' → G := by intro k9; (first | refine walk ?_ | (refine jn ?_; (try intro F); (apply Stp_pu; exact PuA); refine fin ?_)); exact k9.out) : G := h ⟨k⟩
theorem PuName2 {G : Prop} (h : G := by (apply Pu_loadO1; rfl; first | exact h1 0 _ rfl | exact h2 0 _ rfl | exact h4 0 _ rfl)) : G := h
theorem QyName2 {G : Prop} (h : G := by first | (apply Qy_y; rfl; exact PuName2) | exact QyA) : G := h
theorem QFName2 {G : Prop} (h : G := by repeat (first | exact QF.nil | (apply QF.mk; rfl; rfl; decide +kernel; exact QyName2))) : G := h
theorem PuName3 {G : Prop} (h : G := by (first | (apply Pu_indexC (c := c); rfl; rfl; omega; omega; exact hcd) | (apply Pu_indexArr; rfl; rfl; omega; omega) | (apply Pu_loadO1'; rfl; exact h3; exact hcell) | (apply Pu_loadO1; rfl; exact h4 0 _ rfl) | (apply Pu_andW; rfl; rfl))) : G := h
theorem QyName3 {G : Prop} (h : G := by first | (apply Qy_y; rfl; exact PuName3) | exact QyA) : G := h
theorem QFName3 {G : Prop} (h : G := by repeat (first | exact QF.nil | (apply QF.mk; rfl; rfl; decide +kernel; exact QyName3))) : G := h
theorem of1_spec (s : ByteArray) (a b m b1 b2 b3 b4 : Nat) (hs : (s.size : Int) ≤ 9223372036854775807) (hm : m < 256) (w : World) (h1 : CellsAt w ⟨b1, 0, none⟩ [.int .i64 a]) (h2 : CellsAt w ⟨b2, 0, none⟩ [.int .i64 b]) (h3 : CellsAt w ⟨b3, 0, none⟩ (kArr byteK)) (h4 : CellsAt w ⟨b4, 0, none⟩ [.int .u8 m]) :
  Does Tryz.prog 194 [.string s, .pointer (some ⟨b1, 0, none⟩), .pointer (some ⟨b2, 0, none⟩), .pointer (some ⟨b3, 0, none⟩), .pointer (some ⟨b4, 0, none⟩)] w (fun v O => v = .bool (nameB a b m s.data.toList) ∧ O = []) := by
 have hlen : s.data.toList.length = s.size := rfl
 have hg : ∀ j, s.data.toList.getD j 0 = (s.data.toList[j]?).getD 0 := fun j => by rw [List.getD_eq_getElem?_getD]
 refine Does_of_W Tryz.func194 rfl rfl rfl rfl ?_
 rw [nameB, hlen]
 obtain ⟨l, hl⟩ : ∃ l, l = s.data.toList := ⟨_, rfl⟩
 rw [← hl] at hlen hg ⊢
 repeat' (first | (apply RL_pu; rfl; exact PuName2) | (apply RD_Q; rfl; rfl; decide +kernel; rfl; rfl; exact QyName2) | refine walk1 ?_ | (refine RD_Lw ?_; intro F; (apply Stp_pu; first | exact PuName2 | exact PuA); refine ⟨_, EndsA, QFName2, ?_⟩) | refine und ?_ | (refine RL_gsplit rfl rfl rfl (fun hc => ?_) (fun hc => ?_)) | (refine RD_gsplit rfl rfl rfl (fun hc => ?_) (fun hc => ?_)) | (refine W_cond rfl (fun hc => ?_) (fun hc => ?_)))
 ·have h := of_decide_eq_true hc
  exact ret_1 _ [] (.tmp rfl) .nil ⟨by rw [decide_eq_false (show ¬ a ≤ s.size by omega)]; rfl, rfl⟩
 ·have h := of_decide_eq_true hc
  exact ret_1 _ [] (.tmp rfl) .nil ⟨by rw [decide_eq_false (show ¬ s.size ≤ b by omega), Bool.and_false]; rfl, rfl⟩
 rename_i hca
 have ha := of_decide_eq_false hca
 have hb := of_decide_eq_false hc
 rw [decide_eq_true (show a ≤ s.size by omega), decide_eq_true (show s.size ≤ b by omega), Bool.true_and, Bool.true_and]
 refine W_loopF [(0, .string s), (3, .pointer (some ⟨b3, 0, none⟩)), (4, .pointer (some ⟨b4, 0, none⟩)), (19, .int .i64 s.size)] [] (fun k : Nat => [(20, .int .i64 k)]) (fun _ => []) (fun k => k ≤ s.size ∧ okBytes m (l.take k) = true) (fun k => s.size - k) 0 SFA .nil ⟨Nat.zero_le _, rfl⟩ ?_
 rintro k ⟨hk, hok⟩
 repeat refine wkName0 ?_
 refine W_cond rfl (fun h => ?_) (fun h => ?_)
 ·have hlt := of_decide_eq_true h
  have hlt' : k < l.length := by omega
  have hd : l.getD k 0 = l[k] := by rw [hg, List.getElem?_eq_getElem hlt']; rfl
  have hc8 := UInt8.toNat_lt (l.getD k 0)
  have hcell := kArr_get (p := byteK) hc8
  have hw := wrap_and (byteK (l.getD k 0).toNat) (byteK_mem _) ⟨m, hm⟩
  have hst : okBytes m (l.take (k + 1)) = (okBytes m (l.take k) && !decide (byteK (l.getD k 0).toNat &&& m = 0)) := by
   rw [okBytes, List.take_succ_eq_append_getElem hlt', List.all_append, hd]
   simp [okBytes]
  have hall : okBytes m l = (okBytes m (l.take (k + 1)) && okBytes m (l.drop (k + 1))) := by
   rw [okBytes, okBytes, okBytes, ← List.all_append, List.take_append_drop]
  rw [hok, Bool.true_and] at hst
  obtain ⟨c, hcd⟩ : ∃ c, s.data.toList.getD k 0 = c := ⟨_, rfl⟩
  rw [hl, hcd] at hc8 hcell hw
  rw [hl] at hst
  rw [hcd, ← hl] at hst
  rw [← Nat.mul_one c.toNat] at hcell
  rw [show byteK (c.toNat * 1) = byteK c.toNat by rw [Nat.mul_one]] at hcell
  simp only at hw
  repeat (first | (apply RL_pu; rfl; exact PuName3) | (apply RD_Q; rfl; rfl; decide +kernel; rfl; rfl; exact QyName3) | refine walk1 ?_ | (refine jn ?_; (try intro F); (apply Stp_pu; first | exact PuName3 | exact PuA); first | refine ⟨_, EndsA, QFName3, ?_⟩ | refine fin ?_))
  rw [hw]
  refine W_cond rfl (fun hz => ?_) (fun hz => ?_)
  ·have h0 := of_decide_eq_true hz
   have h0' : byteK c.toNat &&& m = 0 := by omega
   rw [hall, hst, decide_eq_true h0']
   repeat refine wkName0 ?_
   exact rtA
  ·have h0 := of_decide_eq_false hz
   have h0' : ¬ byteK c.toNat &&& m = 0 := by omega
   rw [decide_eq_false h0'] at hst
   repeat refine wkName0 ?_
   exact ⟨k + 1, OA, ⟨OA, hst⟩, SFA, .nil⟩
 ·have h1 := of_decide_eq_false h
  obtain rfl : k = s.size := by omega
  rw [← hlen, List.take_length] at hok
  repeat refine wkName0 ?_
  exact ret_1 _ [] (.tmp rfl) .nil ⟨by rw [hok], rfl⟩
def ofV (b1 b2 b3 b4 : Nat) : Value := .func (.func 194) #[] #[.pointer (some ⟨b1, 0, none⟩), .pointer (some ⟨b2, 0, none⟩), .pointer (some ⟨b3, 0, none⟩), .pointer (some ⟨b4, 0, none⟩)]
def ofO (a b m b1 b2 b3 b4 : Nat) : List It := [.blk b1 [.int .i64 a] 3, .blk b2 [.int .i64 b] 3, .blk b3 (kArr byteK) 281, .blk b4 [.int .u8 m] 5]
theorem nof_spec (a b m : Nat) (w : World) : Does Tryz.prog 157 [.int .i64 a, .int .i64 b, .int .u8 m] w (fun v O => ∃ b1 b2 b3 b4, v = ofV b1 b2 b3 b4 ∧ O = ofO a b m b1 b2 b3 b4) := by
 refine Does_of_W Tryz.func157 rfl rfl rfl rfl ?_
 repeat (first | (refine js ?_; (first | (refine callE (fun w' _ => nkinds_spec w') ?_) | (apply Stp_storeAll; rfl; rfl; (focus repeat' constructor); exact kArr_len _; exact kArr_len _; exact kArr_one _) | (refine bx ?_; intro bk))) | refine walk ?_)
 exact ret_1 _ _ (.tmp rfl) SOA ⟨_, _, _, _, rfl, rfl⟩
theorem of_call {base : Nat} {s : ByteArray} {a b m b1 b2 b3 b4 : Nat} {O : List It} {w : World} (hs : (s.size : Int) ≤ 9223372036854775807) (hm : m < 256) (hH : Holds base O w) (hO : SubO (ofO a b m b1 b2 b3 b4) O) :
  Does Tryz.prog 194 ([] ++ [.string s] ++ [.pointer (some ⟨b1, 0, none⟩), .pointer (some ⟨b2, 0, none⟩), .pointer (some ⟨b3, 0, none⟩), .pointer (some ⟨b4, 0, none⟩)]) w (fun v O => v = .bool (nameB a b m s.data.toList) ∧ O = []) := by
 have h := hH.sub hO
 unfold ofO at h
 exact of1_spec s a b m b1 b2 b3 b4 hs hm w (h.cells (by repeat' constructor)) (h.cells (by repeat' constructor)) (h.cells (by repeat' constructor)) (h.cells (by repeat' constructor))
theorem letter_spec (s : ByteArray) (hs : (s.size : Int) ≤ 9223372036854775807) (w : World) : Does Tryz.prog 308 [.string s] w (fun v O => v = .bool (letterB s) ∧ O = []) := by
 refine Does_of_W Tryz.func308 rfl rfl rfl rfl ?_
 repeat (first | (refine js ?_; (first | (apply Stp_call (h := fun w' _ _ => nof_spec 1 4 1 w'); rfl; rintro v O' ⟨b1, b2, b3, b4, rfl, rfl⟩) | (apply Stp_callV (f := 194) (us := []) (vs := [.string s]) (cs := [.pointer (some ⟨b1, 0, none⟩), .pointer (some ⟨b2, 0, none⟩), .pointer (some ⟨b3, 0, none⟩), .pointer (some ⟨b4, 0, none⟩)]) (h := fun w' _ hH => of_call (a := 1) (b := 4) (m := 1) hs (by decide) hH (by exact .refl _)); rfl; rfl; rintro v O' ⟨rfl, rfl⟩))) | refine walk ?_)
 exact rtA
theorem abbr_spec (s : ByteArray) (hs : (s.size : Int) ≤ 9223372036854775807) (w : World) : Does Tryz.prog 134 [.string s] w (fun v O => v = .bool (abbrB s) ∧ O = []) := by
 refine Does_of_W Tryz.func134 rfl rfl rfl rfl ?_
 repeat (first | (refine js ?_; (first | (apply Stp_call (h := fun w' _ _ => nof_spec 3 6 1 w'); rfl; rintro v O' ⟨b1, b2, b3, b4, rfl, rfl⟩) | (apply Stp_callV (f := 194) (us := []) (vs := [.string s]) (cs := [.pointer (some ⟨b1, 0, none⟩), .pointer (some ⟨b2, 0, none⟩), .pointer (some ⟨b3, 0, none⟩), .pointer (some ⟨b4, 0, none⟩)]) (h := fun w' _ hH => of_call (a := 3) (b := 6) (m := 1) hs (by decide) hH (by exact .refl _)); rfl; rfl; rintro v O' ⟨rfl, rfl⟩))) | refine walk ?_)
 exact rtA
end Go.Proofs.YtonjepladadmhaaGreatDoor
namespace Go.Wk
open Go Go.RowKit
theorem nameB_size {a b m : Nat} {s : ByteArray} (h : nameB a b m s.data.toList = true) : (a : Int) ≤ s.size ∧ (s.size : Int) ≤ b := by
 simp only [nameB, Bool.and_eq_true, decide_eq_true_eq] at h
 have : s.data.toList.length = s.size := rfl
 omega
theorem ext1 (s : ByteArray) : (s.extract 0 1).data.toList = s.data.toList.take 1 := by
 rw [ByteArray.data_extract]; simp
end Go.Wk
namespace Go.Proofs.YtonjepladadmhaaGreatDoor
open Go Go.RowKit Go.Wk
attribute [local irreducible] W RL Does thenQ blockQ retQ Calls Pu Stp RD Qy Ay DoesIn nameB
theorem of_callE {base : Nat} {s : ByteArray} {a b m b1 b2 b3 b4 : Nat} {O : List It} {w : World} (hs : (s.size : Int) ≤ 9223372036854775807) (hm : m < 256) (hH : Holds base O w) (hO : SubO (ofO a b m b1 b2 b3 b4) O) :
  Does Tryz.prog 194 ([] ++ [.string s] ++ [.pointer (some ⟨b1, 0, none⟩), .pointer (some ⟨b2, 0, none⟩), .pointer (some ⟨b3, 0, none⟩), .pointer (some ⟨b4, 0, none⟩)]) w (fun v O => ∃ x, nameB a b m s.data.toList = x ∧ v = .bool x ∧ O = []) :=
 (of_call hs hm hH hO).monoO fun v O ⟨h1, h2⟩ => ⟨O, ⟨_, rfl, h1, h2⟩, fun _ _ h => h⟩
theorem PuName20 {G : Prop} (h : G := by (apply Pu_sliceS0; rfl; rfl; decide; exact hsz)) : G := h
theorem QyName20 {G : Prop} (h : G := by first | (apply Qy_y; rfl; exact PuName20) | exact QyA) : G := h
theorem QFName20 {G : Prop} (h : G := by repeat (first | exact QF.nil | (apply QF.mk; rfl; rfl; decide +kernel; exact QyName20))) : G := h
theorem set_spec (s : ByteArray) (hs : (s.size : Int) ≤ 9223372036854775807) (w : World) : Does Tryz.prog 106 [.string s] w (fun v O => v = .bool (setB s) ∧ O = []) := by
 have hs1 : ((s.extract 0 1).size : Int) ≤ 9223372036854775807 := by rw [ByteArray.size_extract]; omega
 refine Does_of_W Tryz.func106 rfl rfl rfl rfl ?_
 repeat (first | refine walk ?_ | (refine jn ?_; (try intro F); (first | (apply Stp_call (h := fun w' _ _ => nof_spec 1 30 15 w'); rfl; rintro v O' ⟨b1, b2, b3, b4, rfl, rfl⟩) | (apply Stp_callV (f := 194) (us := []) (vs := [.string (s)]) (cs := [.pointer (some ⟨b1, 0, none⟩), .pointer (some ⟨b2, 0, none⟩), .pointer (some ⟨b3, 0, none⟩), .pointer (some ⟨b4, 0, none⟩)]) (h := fun w' _ hH => of_callE (a := 1) (b := 30) (m := 15) hs (by decide) hH SOA); rfl; rfl; rintro v O' ⟨x1, hx1, rfl, rfl⟩) | (apply Stp_pu; exact PuA)); refine fin ?_))
 refine RD_gsplit rfl rfl rfl (fun hc => ?_) (fun hc => ?_)
 ·subst hc
  have hsz := (nameB_size hx1).1
  have e : setB s = nameB 1 1 1 (s.extract 0 1).data.toList := by rw [setB, hx1, ext1]; rfl
  rw [e]
  repeat (first | (apply RL_pu; rfl; exact PuName20) | (apply RD_Q; rfl; rfl; decide +kernel; rfl; rfl; exact QyName20) | refine walk1 ?_ | (refine jn ?_; (try intro F); (first | (apply Stp_call (h := fun w' _ _ => nof_spec 1 1 1 w'); rfl; rintro v O' ⟨b1, b2, b3, b4, rfl, rfl⟩) | (apply Stp_callV (f := 194) (us := []) (vs := [.string (s.extract 0 1)]) (cs := [.pointer (some ⟨b1, 0, none⟩), .pointer (some ⟨b2, 0, none⟩), .pointer (some ⟨b3, 0, none⟩), .pointer (some ⟨b4, 0, none⟩)]) (h := fun w' _ hH => of_callE (a := 1) (b := 1) (m := 1) hs1 (by decide) hH SOA); rfl; rfl; rintro v O' ⟨x2, hx2, rfl, rfl⟩) | (apply Stp_pu; first | exact PuName20 | exact PuA)); first | refine ⟨_, EndsA, QFName20, ?_⟩ | refine fin ?_))
  exact ret_1 _ [] (.tmp rfl) .nil ⟨by rw [hx2], rfl⟩
 ·subst hc
  have e : setB s = false := by rw [setB, hx1]; rfl
  rw [e]
  repeat (first | refine walk ?_ | (refine jn ?_; (try intro F); (apply Stp_pu; exact PuA); refine fin ?_))
  exact rtA
end Go.Proofs.YtonjepladadmhaaGreatDoor
namespace Go.Wk
open Go Go.RowKit
def condB (r : DRule) (least : Int) : Nat → Bool
 | 0 => namedY r.from_ && (namedY r.to || decide (r.to = 1048576))
 | 1 => decide (r.from_ ≤ r.to)
 | 2 => alwaysD r.from_ r.to r.month r.day
 | 3 => timedB r.at_ least
 | 4 => decide (-10800 ≤ r.save) && decide (r.save ≤ 10800)
 | _ => decide (r.letter = ByteArray.empty) || letterB r.letter
theorem Pu_addWE {P : Program} {n : Nat} {wr : World} {fr : Fr} {O : List It} {ty t t' : TypeId} {x y : Operand} {i j m : Int} (hx : ev fr x = some (.int .i64 i)) (hy : ev fr y = some (.int .i64 j)) (hm : IntKind.i64.wrap (i + j) = m) : Pu P n wr fr O (.binOp .add t x y t') ty (.int .i64 m) := hm ▸ Pu_addW hx hy
end Go.Wk
namespace Go.Proofs.YtonjepladadmhaaGreatDoor
open Go Go.RowKit Go.Wk
attribute [local irreducible] W RL Does thenQ blockQ retQ Calls Pu Stp RD Qy Ay DoesIn nameB
theorem namedY_spec (y : Int) (w : World) : Does Tryz.prog 300 [.int .i64 y] w (fun v O => v = .bool (namedY y) ∧ O = []) := by
 refine Does_of_W Tryz.func300 rfl rfl rfl rfl ?_
 repeat' (first | refine walk ?_ | refine und ?_ | (refine RL_gsplit rfl rfl rfl (fun hc => ?_) (fun hc => ?_)) | (refine RD_gsplit rfl rfl rfl (fun hc => ?_) (fun hc => ?_)) | (refine W_cond rfl (fun hc => ?_) (fun hc => ?_)))
 all_goals first | (refine ret_1 _ [] (.tmp rfl) .nil ⟨?_, rfl⟩; first | rfl | (simp only [*, Bool.true_and, Bool.false_and, Bool.true_or, Bool.false_or, Bool.not_true, Bool.not_false]; done) | (simp_all [namedY]; done) | (simp_all [namedY]; omega) | (simp_all [namedY]; rw [Bool.eq_iff_iff]; simp; omega)) | (exfalso; simp_all [namedY]; done) | (exfalso; simp_all [namedY]; omega) | (exfalso; omega)
theorem timed_spec (c : DClock) (least : Int) (hl : -9223372036854775808 ≤ least ∧ least ≤ 0) (w : World) : Does Tryz.prog 305 [.agg (DClock.enc c).toArray, .int .i64 least] w (fun v O => v = .bool (timedB c least) ∧ O = []) := by
 by_cases hc : clkChk c = true
 ·have hb : -604799 ≤ c.sec ∧ c.sec ≤ 604799 := by
   simp only [clkChk, Bool.and_eq_true, decide_eq_true_eq] at hc
   omega
  obtain ⟨m, hm⟩ : ∃ m, IntKind.i64.wrap (c.sec + least) = m := ⟨_, rfl⟩
  have hmm : (decide (-86400 ≤ m) && decide (m ≤ 172800)) = (decide (-86400 ≤ c.sec + least) && decide (c.sec + least ≤ 172800)) := by
   have hw : IntKind.i64.wrap (c.sec + least) = if c.sec + least < -9223372036854775808 then c.sec + least + 18446744073709551616 else c.sec + least := by
    rw [IntKind.wrap_i64]
    repeat' split
    all_goals omega
   rw [hw] at hm
   rw [Bool.eq_iff_iff]
   simp only [Bool.and_eq_true, decide_eq_true_eq]
   split at hm <;> omega
  have hT : timedB c least = (clkChk c && (if c.base = 1 then (decide (-86400 ≤ m) && decide (m ≤ 172800)) else (decide (-86400 ≤ c.sec) && decide (c.sec ≤ 172800)))) := by
   unfold timedB
   dsimp only
   congr 1
   by_cases hb1 : c.base = 1
   ·rw [if_pos hb1, if_pos hb1, hmm]
   ·rw [if_neg hb1, if_neg hb1]
  rw [hT]
  clear hT hmm
  have hcs := ccheck_spec c
  rw [hc] at hcs ⊢
  obtain ⟨s, b⟩ := c
  simp only at *
  show Does _ _ [.agg #[.int .i64 s, .int .i64 b], .int .i64 least] w _
  refine Does_of_W Tryz.func305 rfl rfl rfl rfl ?_
  repeat' (first | (apply RL_pu; rfl; (apply Pu_addWE; rfl; rfl; exact hm)) | (refine js ?_; (first | (refine callE (fun w' _ => hcs w') ?_) | (refine bx ?_; intro bk))) | refine walk1 ?_ | refine und ?_ | (refine RL_gsplit rfl rfl rfl (fun hc => ?_) (fun hc => ?_)) | (refine RD_gsplit rfl rfl rfl (fun hc => ?_) (fun hc => ?_)) | (refine W_cond rfl (fun hc => ?_) (fun hc => ?_)))
  all_goals exact clo1
 ·unfold timedB
  have hcs := ccheck_spec c
  rw [Bool.not_eq_true] at hc
  rw [hc] at hcs ⊢
  obtain ⟨s, b⟩ := c
  simp only at *
  show Does _ _ [.agg #[.int .i64 s, .int .i64 b], .int .i64 least] w _
  refine Does_of_W Tryz.func305 rfl rfl rfl rfl ?_
  repeat' (first | (refine js ?_; (first | (refine callE (fun w' _ => hcs w') ?_) | (refine bx ?_; intro bk))) | refine walk ?_ | refine und ?_ | (refine RL_gsplit rfl rfl rfl (fun hc => ?_) (fun hc => ?_)) | (refine RD_gsplit rfl rfl rfl (fun hc => ?_) (fun hc => ?_)) | (refine W_cond rfl (fun hc => ?_) (fun hc => ?_)))
  all_goals exact clo1
theorem cond1_spec (r : DRule) (least : Int) (w : World) : Does Tryz.prog 299 [.agg (DRule.enc r).toArray, .int .i64 least] w (fun v O => v = .bool (condB r least 0) ∧ O = []) := by
 unfold condB
 have h1 := namedY_spec r.from_
 have h2 := namedY_spec r.to
 generalize namedY r.from_ = x1 at *
 generalize namedY r.to = x2 at *
 obtain ⟨nm, fr, to, mo, ⟨dk, dw, dd⟩, ⟨cs, cb⟩, sv, le⟩ := r
 simp only at *
 show Does _ _ [.agg #[.string nm, .int .i64 fr, .int .i64 to, .int .i64 mo, .int .i64 dk, .int .i64 dw, .int .i64 dd, .int .i64 cs, .int .i64 cb, .int .i64 sv, .string le], .int .i64 least] w _
 refine Does_of_W Tryz.func299 rfl rfl rfl rfl ?_
 repeat' (first | (refine js ?_; (first | (refine callE (fun w' _ => h1 w') ?_) | (refine callE (fun w' _ => h2 w') ?_) | (refine bx ?_; intro bk))) | refine walk ?_ | refine und ?_ | (refine RL_gsplit rfl rfl rfl (fun hc => ?_) (fun hc => ?_)) | (refine RD_gsplit rfl rfl rfl (fun hc => ?_) (fun hc => ?_)) | (refine W_cond rfl (fun hc => ?_) (fun hc => ?_)))
 all_goals exact clo1
theorem cond2_spec (r : DRule) (least : Int) (w : World) : Does Tryz.prog 301 [.agg (DRule.enc r).toArray, .int .i64 least] w (fun v O => v = .bool (condB r least 1) ∧ O = []) := by
 unfold condB
 obtain ⟨nm, fr, to, mo, ⟨dk, dw, dd⟩, ⟨cs, cb⟩, sv, le⟩ := r
 simp only at *
 show Does _ _ [.agg #[.string nm, .int .i64 fr, .int .i64 to, .int .i64 mo, .int .i64 dk, .int .i64 dw, .int .i64 dd, .int .i64 cs, .int .i64 cb, .int .i64 sv, .string le], .int .i64 least] w _
 refine Does_of_W Tryz.func301 rfl rfl rfl rfl ?_
 repeat' (first | (refine js ?_; (refine bx ?_; intro bk)) | refine walk ?_ | (refine W_cond rfl (fun hc => ?_) (fun hc => ?_)))
 all_goals exact clo1
theorem cond3_spec (r : DRule) (least : Int) (w : World) (hG : Glob w) : Does Tryz.prog 302 [.agg (DRule.enc r).toArray, .int .i64 least] w (fun v O => v = .bool (condB r least 2) ∧ O = []) := by
 unfold condB
 have h1 := fun w' hw => always_spec r.from_ r.to r.month r.day w' (Glob.up (w' := w') hG hw)
 generalize alwaysD r.from_ r.to r.month r.day = x1 at *
 obtain ⟨nm, fr, to, mo, ⟨dk, dw, dd⟩, ⟨cs, cb⟩, sv, le⟩ := r
 simp only at *
 show Does _ _ [.agg #[.string nm, .int .i64 fr, .int .i64 to, .int .i64 mo, .int .i64 dk, .int .i64 dw, .int .i64 dd, .int .i64 cs, .int .i64 cb, .int .i64 sv, .string le], .int .i64 least] w _
 refine Does_of_W Tryz.func302 rfl rfl rfl rfl ?_
 repeat' (first | (refine js ?_; (first | (refine callE h1 ?_) | (refine bx ?_; intro bk))) | refine walk ?_ | (refine W_cond rfl (fun hc => ?_) (fun hc => ?_)))
 all_goals exact clo1
theorem cond4_spec (r : DRule) (least : Int) (hl : -9223372036854775808 ≤ least ∧ least ≤ 0) (w : World) : Does Tryz.prog 304 [.agg (DRule.enc r).toArray, .int .i64 least] w (fun v O => v = .bool (condB r least 3) ∧ O = []) := by
 unfold condB
 have h1 := timed_spec r.at_ least hl
 generalize timedB r.at_ least = x1 at *
 obtain ⟨nm, fr, to, mo, ⟨dk, dw, dd⟩, ⟨cs, cb⟩, sv, le⟩ := r
 simp only at *
 show Does _ _ [.agg #[.string nm, .int .i64 fr, .int .i64 to, .int .i64 mo, .int .i64 dk, .int .i64 dw, .int .i64 dd, .int .i64 cs, .int .i64 cb, .int .i64 sv, .string le], .int .i64 least] w _
 refine Does_of_W Tryz.func304 rfl rfl rfl rfl ?_
 repeat' (first | (refine js ?_; (first | (refine callE (fun w' hw => h1 w') ?_) | (refine bx ?_; intro bk))) | refine walk ?_ | (refine W_cond rfl (fun hc => ?_) (fun hc => ?_)))
 all_goals exact clo1
theorem cond5_spec (r : DRule) (least : Int) (w : World) : Does Tryz.prog 306 [.agg (DRule.enc r).toArray, .int .i64 least] w (fun v O => v = .bool (condB r least 4) ∧ O = []) := by
 unfold condB
 obtain ⟨nm, fr, to, mo, ⟨dk, dw, dd⟩, ⟨cs, cb⟩, sv, le⟩ := r
 simp only at *
 show Does _ _ [.agg #[.string nm, .int .i64 fr, .int .i64 to, .int .i64 mo, .int .i64 dk, .int .i64 dw, .int .i64 dd, .int .i64 cs, .int .i64 cb, .int .i64 sv, .string le], .int .i64 least] w _
 refine Does_of_W Tryz.func306 rfl rfl rfl rfl ?_
 repeat' (first | (refine js ?_; (refine bx ?_; intro bk)) | refine walk ?_ | refine und ?_ | (refine RL_gsplit rfl rfl rfl (fun hc => ?_) (fun hc => ?_)) | (refine RD_gsplit rfl rfl rfl (fun hc => ?_) (fun hc => ?_)) | (refine W_cond rfl (fun hc => ?_) (fun hc => ?_)))
 all_goals exact clo1
theorem cond6_spec (r : DRule) (least : Int) (hs : (r.letter.size : Int) ≤ 9223372036854775807) (w : World) : Does Tryz.prog 307 [.agg (DRule.enc r).toArray, .int .i64 least] w (fun v O => v = .bool (condB r least 5) ∧ O = []) := by
 unfold condB
 rw [show ByteArray.empty = ⟨#[]⟩ from rfl]
 have h1 := letter_spec r.letter hs
 generalize letterB r.letter = x1 at *
 obtain ⟨nm, fr, to, mo, ⟨dk, dw, dd⟩, ⟨cs, cb⟩, sv, le⟩ := r
 simp only at *
 show Does _ _ [.agg #[.string nm, .int .i64 fr, .int .i64 to, .int .i64 mo, .int .i64 dk, .int .i64 dw, .int .i64 dd, .int .i64 cs, .int .i64 cb, .int .i64 sv, .string le], .int .i64 least] w _
 refine Does_of_W Tryz.func307 rfl rfl rfl rfl ?_
 repeat' (first | (refine js ?_; (first | (refine callE (fun w' hw => h1 w') ?_) | (refine bx ?_; intro bk))) | refine walk ?_ | refine und ?_ | (refine RL_gsplit rfl rfl rfl (fun hc => ?_) (fun hc => ?_)) | (refine RD_gsplit rfl rfl rfl (fun hc => ?_) (fun hc => ?_)) | (refine W_cond rfl (fun hc => ?_) (fun hc => ?_)))
 all_goals exact clo1
theorem posix_spec (r : DRule) (w : World) : Does Tryz.prog 199 [.agg (DRule.enc r).toArray] w (fun v O => v = .bool (posixB r) ∧ O = []) := by
 unfold posixB
 obtain ⟨nm, fr, to, mo, ⟨dk, dw, dd⟩, ⟨cs, cb⟩, sv, le⟩ := r
 simp only at *
 show Does _ _ [.agg #[.string nm, .int .i64 fr, .int .i64 to, .int .i64 mo, .int .i64 dk, .int .i64 dw, .int .i64 dd, .int .i64 cs, .int .i64 cb, .int .i64 sv, .string le]] w _
 refine Does_of_W Tryz.func199 rfl rfl rfl rfl ?_
 repeat' (first | (apply RL_pu; rfl; (apply Pu_rem; rfl; rfl; decide)) | (refine js ?_; (refine bx ?_; intro bk)) | refine walk1 ?_ | refine und ?_ | (refine RL_gsplit rfl rfl rfl (fun hc => ?_) (fun hc => ?_)) | (refine RD_gsplit rfl rfl rfl (fun hc => ?_) (fun hc => ?_)) | (refine W_cond rfl (fun hc => ?_) (fun hc => ?_)))
 all_goals exact clo1
theorem least_spec (A : Option Addr) (c : Nat) (l : List DRule) (w : World) (hA : RdSl w A c DRule.enc 11 l) : Does Tryz.prog 67 [.slice A l.length c] w (fun v O => v = .int .i64 (leastD l) ∧ O = []) := by
 have hle := hA.le
 have hcp := hA.cap
 unfold maxLen at hcp
 generalize hres : leastD l = res
 unfold leastD at hres
 refine Does_of_W Tryz.func67 rfl rfl rfl rfl ?_
 repeat (first | (refine js ?_; (refine bx ?_; intro bk)) | refine walk ?_)
 refine W_loopF [(6, _), (7, _)] [] (fun g : Nat × Int => [(3, .int .i64 g.2), (8, .int .i64 g.1)]) (fun _ => []) (fun g => g.1 ≤ l.length ∧ (l.drop g.1).foldl (fun m r => min m r.save) g.2 = res) (fun g => l.length - g.1) (0, 0) SFA SOA ⟨Nat.zero_le _, hres⟩ ?_
 rintro ⟨k, m⟩ ⟨hk, hi⟩
 dsimp only at hk hi ⊢
 repeat (first | (refine js ?_; (refine bx ?_; intro bk)) | refine walk ?_)
 refine W_cond rfl (fun h => ?_) (fun h => ?_)
 ·have hlt : k < l.length := by simpa using h
  obtain ⟨hna, hca⟩ := hA.rd k _ (List.getElem?_eq_getElem hlt)
  rw [drop_cons hlt] at hi
  generalize l[k] = r at *
  obtain ⟨nm, fr, to, mo, ⟨dk, dw, dd⟩, ⟨cs, cb⟩, sv, le⟩ := r
  simp only [DRule.enc, List.foldl_cons] at hca hi
  repeat (first | (apply RL_pu; rfl; (first | exact PuI | (apply Pu_minI; rfl; rfl))) | (refine js ?_; (refine bx ?_; intro bk)) | refine walk1 ?_)
  rw [show (if sv < m then sv else m) = min m sv by split <;> omega]
  exact ⟨(k + 1, min m sv), OA, ⟨OA, hi⟩, SFA, .nil⟩
 ·have hkl : k = l.length := by
   have := of_decide_eq_false h
   omega
  subst hkl
  rw [List.drop_length] at hi
  repeat (first | (refine js ?_; (refine bx ?_; intro bk)) | refine walk ?_)
  exact ret_1 _ [] (.tmp rfl) .nil ⟨by rw [← hi]; rfl, rfl⟩
theorem other_spec (A : Option Addr) (c : Nat) (l : List DRule) (w : World) (hA : RdSl w A c DRule.enc 11 l) : Does Tryz.prog 110 [.slice A l.length c] w (fun v O => v = .tuple #[.int .i64 (otherD l).1, .bool (otherD l).2] ∧ O = []) := by
 have hle := hA.le
 have hcp := hA.cap
 unfold maxLen at hcp
 generalize hres : otherD l = res
 unfold otherD at hres
 refine Does_of_W Tryz.func110 rfl rfl rfl rfl ?_
 repeat (first | (refine js ?_; (refine bx ?_; intro bk)) | refine walk ?_)
 refine W_loopF [(7, _), (8, _)] [] (fun g : Nat × Int => [(4, .int .i64 g.2), (9, .int .i64 g.1)]) (fun _ => []) (fun g => g.1 ≤ l.length ∧ otherGo (l.drop g.1) g.2 = res) (fun g => l.length - g.1) (0, 0) SFA SOA ⟨Nat.zero_le _, hres⟩ ?_
 rintro ⟨k, m⟩ ⟨hk, hi⟩
 dsimp only at hk hi ⊢
 repeat (first | (refine js ?_; (refine bx ?_; intro bk)) | refine walk ?_)
 refine W_cond rfl (fun h => ?_) (fun h => ?_)
 ·have hlt : k < l.length := by simpa using h
  obtain ⟨hna, hca⟩ := hA.rd k _ (List.getElem?_eq_getElem hlt)
  rw [drop_cons hlt, otherGo] at hi
  generalize l[k] = r at *
  obtain ⟨nm, fr, to, mo, ⟨dk, dw, dd⟩, ⟨cs, cb⟩, sv, le⟩ := r
  simp only [DRule.enc] at hca hi
  repeat (first | (apply RL_pu; rfl; exact PuI) | (refine js ?_; (refine bx ?_; intro bk)) | refine walk1 ?_)
  refine W_cond rfl (fun h1 => ?_) (fun h1 => ?_)
  ·rw [if_pos (of_decide_eq_true h1)] at hi
   repeat (first | (refine js ?_; (refine bx ?_; intro bk)) | refine walk ?_)
   exact ⟨(k + 1, m), OA, ⟨OA, hi⟩, SFA, .nil⟩
  rw [if_neg (of_decide_eq_false h1)] at hi
  repeat' (first | (refine js ?_; (refine bx ?_; intro bk)) | refine walk ?_ | refine und ?_ | (refine RL_gsplit rfl rfl rfl (fun hc => ?_) (fun hc => ?_)) | (refine RD_gsplit rfl rfl rfl (fun hc => ?_) (fun hc => ?_)) | (refine W_cond rfl (fun hc => ?_) (fun hc => ?_)))
  ·rename_i h0
   simp only [Bool.not_eq_true', decide_eq_false_iff_not] at h0 hc
   rw [if_pos ⟨h0, hc⟩] at hi
   exact ret_2 _ _ [] (.tmp rfl) (.tmp rfl) .nil ⟨by rw [← hi], rfl⟩
  ·simp only [Bool.not_eq_false', decide_eq_true_eq] at hc
   rw [if_neg (fun e => e.2 hc)] at hi
   exact ⟨(k + 1, sv), OA, ⟨OA, hi⟩, SFA, .nil⟩
  ·simp only [Bool.not_eq_false', decide_eq_true_eq] at hc
   rw [if_neg (fun e => e.1 hc)] at hi
   exact ⟨(k + 1, sv), OA, ⟨OA, hi⟩, SFA, .nil⟩
 ·have hkl : k = l.length := by
   have := of_decide_eq_false h
   omega
  subst hkl
  rw [List.drop_length, otherGo] at hi
  repeat (first | (refine js ?_; (refine bx ?_; intro bk)) | refine walk ?_)
  exact ret_2 _ _ [] (.tmp rfl) (.tmp rfl) .nil ⟨by rw [← hi], rfl⟩
end Go.Proofs.YtonjepladadmhaaGreatDoor
namespace Go.Wk
open Go Go.RowKit
section
variable {P : Program} {n : Nat} {wr : World} {fr : Fr} {O : List It} {Q : Exit → Fr → List It → Prop}
def RW (P : Program) (n : Nat) (wr : World) (c : Code) (Q : Exit → Fr → List It → Prop) : Nat → Fr → List It → Prop
 | 0, _, _ => False
 | k + 1, fr, O => W P n wr c (thenQ (RW P n wr c Q k) Q) fr O
theorem RW_rounds {c : Code} : ∀ (k : Nat) (fr : Fr) (O : List It), RW P n wr c Q k fr O → ∀ a w, St n wr fr O a w → Code.rounds P c (lift n wr Q) k a w
 | 0, _, _, h, _, _, _ => h
 | k + 1, fr, O, h, a, w, hs => by
  rw [rounds_succ]
  refine wp_mono (h a w hs) ?_
  rintro e a' w' ⟨fr', O', hs', hq⟩
  cases e with
  | normal => exact RW_rounds k fr' O' hq a' w' hs'
  | _ => exact ⟨fr', O', hs', hq⟩
theorem W_rounds {c : Code} (k : Nat) (h : RW P n wr c Q k fr O) : W P n wr (.loop c) Q fr O := fun a w hs => wp_loop_rounds k (RW_rounds k fr O h a w hs)
theorem RW_succ {c : Code} {k : Nat} (h : W P n wr c (thenQ (RW P n wr c Q k) Q) fr O) : RW P n wr c Q (k + 1) fr O := h
theorem Does.monoH {f : FuncId} {args : List Value} {w : World} {R R' : Value → List It → Prop} (h : Does P f args w R) (hr : ∀ v O base w', R v O → Holds base O w' → ∃ O', R' v O' ∧ Holds base O' w') : Does P f args w R' :=
 Calls.mono h fun _ _ ⟨v, O, h1, h2, h3, h4⟩ => by
  obtain ⟨O', h5, h6⟩ := hr v O _ _ h4 h3
  exact ⟨v, O', h1, h2, h6, h5⟩
end
section
variable {P : Program} {n : Nat} {wr : World} {fr : Fr} {O : List It} {ty : TypeId}
theorem Pu_indexArrN {t len e sz : Nat} {x ix : Operand} {kk : IntKind} {i : Int} {cs vs : List Value} [hA : ArrT P t len e sz true] (hx : ev fr x = some (.agg cs.toArray)) (hi : ev fr ix = some (.int kk i)) (h0 : 0 ≤ i) (h1 : i < len) (hv : (cs.drop (i.toNat * sz)).take sz = vs) :
  Pu P n wr fr O (.index t x ix) ty (.agg vs.toArray) := fun a w hs _ _ _ _ => by
 have h := hA.h
 unfold arrChk at h
 split at h
 ·rename_i len' e' hu
  split at h
  ·rename_i sz' ag' ht
   simp only [Option.some.injEq, Prod.mk.injEq] at h
   obtain ⟨rfl, rfl, rfl, rfl⟩ := h
   obtain ⟨inf, dd, hinf, hsz, hag, _⟩ := Ty.parts ht
   have : Ty P e' sz' true := ⟨ht⟩
   subst hv
   simp only [execOp, hs.sim.ev hx, hs.sim.ev hi, Instr.index, asIntOf, Sem.run_bind, Sem.run_pure, Result.andThen_ok, run_underlying hu, h0, h1, and_self, if_true, part, run_isAgg, run_sizeOf]
   simp [List.take_drop]
  ·cases h
 ·cases h
end
end Go.Wk
namespace Go.Proofs.YtonjepladadmhaaGreatDoor
open Go Go.RowKit Go.Wk
attribute [local irreducible] W RL Does thenQ blockQ retQ Calls Pu Stp RD Qy Ay DoesIn nameB
theorem findI_any {α : Type} (p : α → Bool) : ∀ (l : List α) (k : Nat), decide (0 ≤ findI p l k) = l.any p
 | [], k => rfl
 | x :: l, k => by
  rw [findI, List.any_cons]
  by_cases h : p x = true
  ·rw [if_pos h, h]; simp
  ·rw [if_neg h, findI_any p l (k + 1)]
   simp [h]
theorem containsFn_spec (A : Option Addr) (c : Nat) (l : List DRule) (f : FuncId) [Body Tryz.prog f] (us cs : List Value) (p : DRule → Bool) (w : World) (hA : RdSl w A c DRule.enc 11 l)
  (hf : ∀ r w', Bel w.heap.size w w' → Does Tryz.prog f (us ++ [.agg (DRule.enc r).toArray] ++ cs) w' (fun v O => v = .bool (p r) ∧ O = [])) :
  Does Tryz.prog 160 [.slice A l.length c, .func (.func f) us.toArray cs.toArray] w (fun v O => v = .bool (l.any p) ∧ O = []) := by
 have h := fun w' (hw : Bel w.heap.size w w') => indexFunc_spec A c l f us cs p w' (hA.up hw) fun r w2 h2 => hf r w2 (hw.trans (h2.mono hw.size))
 rw [← findI_any p l 0]
 generalize findI p l 0 = k at *
 refine Does_of_W Tryz.func160 rfl rfl rfl rfl ?_
 repeat (first | (refine js ?_; (refine callE h ?_)) | refine walk ?_)
 exact rtA
theorem chk1_spec (r : DRule) (w : World) : Does Tryz.prog 158 [.agg (DRule.enc r).toArray] w (fun v O => v = .bool (decide (r.save = 0)) ∧ O = []) := by
 obtain ⟨nm, fr, to, mo, ⟨dk, dw, dd⟩, ⟨cs, cb⟩, sv, le⟩ := r
 show Does _ _ [.agg #[.string nm, .int .i64 fr, .int .i64 to, .int .i64 mo, .int .i64 dk, .int .i64 dw, .int .i64 dd, .int .i64 cs, .int .i64 cb, .int .i64 sv, .string le]] w _
 refine Does_of_W Tryz.func158 rfl rfl rfl rfl ?_
 repeat' (first | (refine js ?_; (refine bx ?_; intro bk)) | refine walk ?_ | (refine W_cond rfl (fun hc => ?_) (fun hc => ?_)))
 all_goals exact clo1
theorem last1_spec (r : DRule) (w : World) : Does Tryz.prog 198 [.agg (DRule.enc r).toArray] w (fun v O => v = .bool (!decide (r.to = 1048576)) ∧ O = []) := by
 obtain ⟨nm, fr, to, mo, ⟨dk, dw, dd⟩, ⟨cs, cb⟩, sv, le⟩ := r
 show Does _ _ [.agg #[.string nm, .int .i64 fr, .int .i64 to, .int .i64 mo, .int .i64 dk, .int .i64 dw, .int .i64 dd, .int .i64 cs, .int .i64 cb, .int .i64 sv, .string le]] w _
 refine Does_of_W Tryz.func198 rfl rfl rfl rfl ?_
 repeat' (first | (refine js ?_; (refine bx ?_; intro bk)) | refine walk ?_ | (refine W_cond rfl (fun hc => ?_) (fun hc => ?_)))
 all_goals exact clo1
theorem chk2_spec (r : DRule) (ad : Addr) (m : Int) (w : World) (h : w.cell? ad = some (.int .i64 m)) : Does Tryz.prog 159 [.agg (DRule.enc r).toArray, .pointer (some ad)] w (fun v O => v = .bool (!decide (r.save = 0) && !decide (r.save = m)) ∧ O = []) := by
 obtain ⟨nm, fr, to, mo, ⟨dk, dw, dd⟩, ⟨cs, cb⟩, sv, le⟩ := r
 show Does _ _ [.agg #[.string nm, .int .i64 fr, .int .i64 to, .int .i64 mo, .int .i64 dk, .int .i64 dw, .int .i64 dd, .int .i64 cs, .int .i64 cb, .int .i64 sv, .string le], .pointer (some ad)] w _
 refine Does_of_W Tryz.func159 rfl rfl rfl rfl ?_
 repeat' (first | (apply RL_pu; rfl; (apply Pu_loadO1; rfl; exact h)) | (refine js ?_; (refine bx ?_; intro bk)) | refine walk1 ?_ | refine und ?_ | (refine RL_gsplit rfl rfl rfl (fun hc => ?_) (fun hc => ?_)) | (refine RD_gsplit rfl rfl rfl (fun hc => ?_) (fun hc => ?_)) | (refine W_cond rfl (fun hc => ?_) (fun hc => ?_)))
 all_goals exact clo1
end Go.Proofs.YtonjepladadmhaaGreatDoor
