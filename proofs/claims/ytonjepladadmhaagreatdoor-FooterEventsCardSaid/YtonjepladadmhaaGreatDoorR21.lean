/- Contracts: name.kinds, of, Set, Letter, Abbr. Contracts: name.Set. Contracts: strings.Index at one byte, strings.SplitSeq, name.Zone. -/
import Derived.Test.YtonjepladadmhaaGreatDoorR13
import Derived.Laws.Strings2
import Derived.Test.YtonjepladadmhaaGreatDoorR20
set_option maxHeartbeats 4000000
set_option linter.unusedVariables false
set_option linter.unusedSimpArgs false
namespace Go.Wk
open Go Go.RowKit
def kArr (p : Nat → Nat) : List Value := (List.range 256).map fun i => .int .u8 (p i)
theorem kArr_len (p : Nat → Nat) : (kArr p).length = 256 := by simp [kArr]
theorem kArr_get {p : Nat → Nat} {j : Nat} (hj : j < 256) : (kArr p)[j]? = some (.int .u8 (p j)) := by simp [kArr, hj]
theorem kArr_set (p : Nat → Nat) (j v : Nat) : (kArr p).set j (.int .u8 v) = kArr fun i => if i = j then v else p i := by
 apply List.ext_getElem
 ·simp [kArr]
 ·intro i h1 h2
  simp only [kArr, List.getElem_set, List.getElem_map, List.getElem_range]
  by_cases h : j = i
  ·subst h; simp
  ·have : i ≠ j := fun e => h e.symm
   simp [h, this]
theorem kArr_congr {p q : Nat → Nat} (h : ∀ i, i < 256 → p i = q i) : kArr p = kArr q := by
 unfold kArr
 apply List.map_congr_left
 intro i hi
 rw [h i (List.mem_range.1 hi)]
theorem kArr_one (p : Nat → Nat) : (kArr p).all Value.oneCell' = true := by simp [kArr, Value.oneCell']
attribute [irreducible] kArr
theorem lay_all : ∀ (vs : List Value) (pre cs : List Value), cs.length = vs.length → lay (pre ++ cs) pre.length vs = pre ++ vs
 | [], pre, cs, h => by
  have : cs = [] := List.eq_nil_of_length_eq_zero h
  rw [this]; rfl
 | v :: r, pre, [], h => by simp at h
 | v :: r, pre, c :: cs, h => by
  rw [lay, List.set_append_right _ _ (Nat.le_refl _), Nat.sub_self, List.set_cons_zero]
  have := lay_all r (pre ++ [v]) cs (by simpa using h)
  rw [List.append_assoc, List.length_append] at this
  simpa using this
section
variable {P : Program} {n : Nat} {wr : World} {fr : Fr} {O : List It} {ty : TypeId} {pos : String} {af : Array Edge}
theorem Pu_loadAll {t sz b : Nat} {x : Operand} {cs : List Value} {bt : TypeId} {R : List It} [Ty P t sz true] (hx : ev fr x = some (.pointer (some ⟨b, 0, none⟩))) (hp : Pick (.blk b cs bt) O R) (hl : cs.length = sz) : Pu P n wr fr O (.load t x) ty (.agg cs.toArray) :=
 Pu_loadBN hx hp (by simp [List.take_of_length_le (Nat.le_of_eq hl)]) hl
theorem Pu_sliceS0 {t : TypeId} {x z : Operand} {s : ByteArray} {k' : IntKind} {j : Int} [hS : StringT P t] (hx : ev fr x = some (.string s)) (hz : ev fr z = some (.int k' j)) (h1 : 0 ≤ j) (h2 : j ≤ s.size) :
  Pu P n wr fr O (.slice t x none (some z) none) ty (.string (s.extract 0 j.toNat)) := fun a w hs _ _ _ _ => by
 have h : (Instr.slice t (.string s) none (some (.int k' j)) none).run P w = .ok (.string (s.extract 0 j.toNat)) w := by
  have hj : 0 ≤ j ∧ j ≤ (s.size : Int) := ⟨by omega, h2⟩
  simp [Instr.slice, Instr.sliceBounds, Instr.sliceBound, asIntOf, run_underlying hS.h, hj]
 simp [execOp, hs.sim.ev hx, hs.sim.ev hz, Instr.sliceAt, run_underlying hS.h, h]
theorem Pu_sliceSL {t : TypeId} {x y : Operand} {s : ByteArray} {k : IntKind} {i : Int} [hS : StringT P t] (hx : ev fr x = some (.string s)) (hy : ev fr y = some (.int k i)) (h0 : 0 ≤ i) (h1 : i ≤ s.size) :
  Pu P n wr fr O (.slice t x (some y) none none) ty (.string (s.extract i.toNat s.size)) := fun a w hs _ _ _ _ => by
 have h : (Instr.slice t (.string s) (some (.int k i)) none none).run P w = .ok (.string (s.extract i.toNat s.size)) w := by
  have hi : 0 ≤ i ∧ i ≤ (s.size : Int) := ⟨h0, h1⟩
  simp [Instr.slice, Instr.sliceBounds, Instr.sliceBound, asIntOf, run_underlying hS.h, hi]
 simp [execOp, hs.sim.ev hx, hs.sim.ev hy, Instr.sliceAt, run_underlying hS.h, h]
theorem Pu_indexC {t : TypeId} {x ix : Operand} {s : ByteArray} {kk : IntKind} {i : Int} {c : UInt8} [hS : StringT P t] (hx : ev fr x = some (.string s)) (hi : ev fr ix = some (.int kk i)) (h0 : 0 ≤ i) (h1 : i < s.size) (hc : s.data.toList.getD i.toNat 0 = c) : Pu P n wr fr O (.index t x ix) ty (.int .u8 c.toNat) := by
 subst hc
 exact Pu_indexS hx hi h0 h1
theorem Stp_storeK {t b j v : Nat} {bt : TypeId} {x y : Operand} {p : Nat → Nat} {O' : List It} {dst : Option Tmp} {g : Option (Nat × Bool)} {Kp : Value → List It → Prop} [Ty P t 1 false] (hx : ev fr x = some (.pointer (some ((⟨b, 0, none⟩ : Addr).add (j * 1))))) (hy : ev fr y = some (.int .u8 v))
  (hu : Upd O (.blk b (kArr p) bt) (.blk b (kArr fun i => if i = j then v else p i) bt) O') (hj : j < 256) (k : Kp undef O') : Stp P n wr fr O ⟨dst, .store t x y, ty, pos, af, g⟩ Kp := by
 rw [add_mk, Nat.zero_add, Nat.mul_one] at hx
 exact Stp_storeB (sz := 1) (v := .int .u8 v) (vs := [.int .u8 v]) (j := j) hx hy hu rfl rfl rfl (by rw [Nat.ble_eq, kArr_len]; omega) (kArr_set p j v) k
theorem Stp_storeAll {t b sz : Nat} {bt : TypeId} {x y : Operand} {cs vs : List Value} {O' : List It} {dst : Option Tmp} {g : Option (Nat × Bool)} {Kp : Value → List It → Prop} [Ty P t sz true] (hx : ev fr x = some (.pointer (some ⟨b, 0, none⟩))) (hy : ev fr y = some (.agg vs.toArray))
  (hu : Upd O (.blk b cs bt) (.blk b vs bt) O') (hl : vs.length = sz) (hc : cs.length = sz) (h1 : vs.all Value.oneCell' = true) (k : Kp undef O') : Stp P n wr fr O ⟨dst, .store t x y, ty, pos, af, g⟩ Kp :=
 Stp_storeB (v := .agg vs.toArray) (vs := vs) hx hy hu rfl hl h1 (by rw [Nat.ble_eq]; omega) (lay_all vs [] cs (by omega)) k
end
theorem Holds.cells {base b : Nat} {cs : List Value} {t : TypeId} {O R : List It} {w : World} (h : Holds base O w) (hp : Pick (.blk b cs t) O R) : CellsAt w ⟨b, 0, none⟩ cs := fun j v hj => by
 rw [add_mk, blk_cell (h.sat _ (hp.perm.mem_iff.2 List.mem_cons_self)), Nat.zero_add, hj]
theorem wrap_and : ∀ a ∈ [0, 1, 2, 4, 8, 16], ∀ s : Fin 256, IntKind.u8.wrap ((BitVec.ofInt IntKind.u8.bits ((a : Nat) : Int) &&& BitVec.ofInt IntKind.u8.bits ((s.val : Nat) : Int)).toNat : Nat) = ((a &&& s.val : Nat) : Int) := by decide +kernel
theorem byteK_mem (c : Nat) : byteK c ∈ [0, 1, 2, 4, 8, 16] := by
 unfold byteK
 repeat' split
 all_goals decide
end Go.Wk
namespace Go.Proofs.YtonjepladadmhaaGreatDoor
open Go Go.RowKit Go.Wk
attribute [local irreducible] W RL Does thenQ blockQ retQ Calls Pu Stp RD Qy Ay DoesIn
instance zeroKinds : ZeroT Tryz.prog 281 (kArr fun _ => 0) := ⟨by kernel_rfl⟩
def k1 (k i : Nat) : Nat := if (65 ≤ i ∧ i < 65 + k) ∨ (97 ≤ i ∧ i < 97 + k) then 1 else 0
def k2 (k i : Nat) : Nat := if 48 ≤ i ∧ i < 48 + k then 2 else k1 26 i
theorem PuName0 {G : Prop} (h : G := by (apply Pu_indexArr; rfl; rfl; omega; omega)) : G := h
theorem nkinds_spec (w : World) : Does Tryz.prog 193 [] w (fun v O => v = .agg (kArr byteK).toArray ∧ O = []) := by
 refine Does_of_W Tryz.func193 rfl rfl rfl rfl ?_
 repeat (first | (refine js ?_; (refine bx ?_; intro bk)) | refine walkB ?_)
 rename_i b0
 have e0 : kArr (k1 0) = kArr fun _ => 0 := kArr_congr fun i _ => if_neg (by omega)
 rw [← e0]
 refine W_post (fun fr' O' => Go.Wk.Sub [(0, .pointer (some ⟨b0, 0, none⟩)), (1, .pointer (some ⟨bk, 0, none⟩))] fr' ∧ SubO [.blk bk (kArr (k1 26)) 281, .blk b0 (kArr (k1 0)) 281] O') ?_ ?_
 ·apply W_block
  refine W_loopF [(0, .pointer (some ⟨b0, 0, none⟩)), (1, .pointer (some ⟨bk, 0, none⟩))] [.blk b0 (kArr (k1 0)) 281] (fun k : Nat => [(4, .int .i64 k)]) (fun k => [.blk bk (kArr (k1 k)) 281]) (fun k => k ≤ 26) (fun k => 26 - k) 0 SFA SOA (Nat.zero_le _) ?_
  intro k hk
  repeat (first | (apply RL_pu; rfl; exact PuName0) | (refine js ?_; (refine bx ?_; intro bk)) | refine walk1 ?_)
  refine W_cond rfl (fun h => ?_) (fun h => ?_)
  ·have h1 := of_decide_eq_true h
   repeat (first | (apply RL_pu; rfl; exact PuName0) | (refine js ?_; (first | (apply Stp_storeK; rfl; rfl; (focus repeat' constructor); omega) | (refine bx ?_; intro bk))) | refine walk1 ?_)
   rw [kArr_congr (p := fun i => if i = (97 + (k : Int)).toNat then 1 else if i = (65 + (k : Int)).toNat then 1 else k1 k i) (q := k1 (k + 1)) (fun i hi => by
    unfold k1
    repeat' split
    all_goals omega)]
   exact ⟨k + 1, OA, OA, SFA, SOA⟩
  ·have h1 := of_decide_eq_false h
   obtain rfl : k = 26 := by omega
   repeat (first | (refine js ?_; (refine bx ?_; intro bk)) | refine walk ?_)
   exact ⟨rfl, SFA, SOA⟩
 rintro fr' O' ⟨hf, hO⟩
 apply thenQ_n
 refine W_sub hf hO ?_
 clear hf hO fr' O'
 rw [show kArr (k1 26) = kArr (k2 0) from kArr_congr fun i _ => (if_neg (by omega)).symm]
 repeat (first | (refine js ?_; (refine bx ?_; intro bk)) | refine walkB ?_)
 refine W_post (fun fr' O' => Go.Wk.Sub [(0, .pointer (some ⟨b0, 0, none⟩)), (1, .pointer (some ⟨bk, 0, none⟩))] fr' ∧ SubO [.blk bk (kArr (k2 10)) 281, .blk b0 (kArr (k1 0)) 281] O') ?_ ?_
 ·apply W_block
  refine W_loopF [(0, .pointer (some ⟨b0, 0, none⟩)), (1, .pointer (some ⟨bk, 0, none⟩))] [.blk b0 (kArr (k1 0)) 281] (fun k : Nat => [(14, .int .i64 k)]) (fun k => [.blk bk (kArr (k2 k)) 281]) (fun k => k ≤ 10) (fun k => 10 - k) 0 SFA SOA (Nat.zero_le _) ?_
  intro k hk
  repeat (first | (apply RL_pu; rfl; exact PuName0) | (refine js ?_; (refine bx ?_; intro bk)) | refine walk1 ?_)
  refine W_cond rfl (fun h => ?_) (fun h => ?_)
  ·have h1 := of_decide_eq_true h
   repeat (first | (apply RL_pu; rfl; exact PuName0) | (refine js ?_; (first | (apply Stp_storeK; rfl; rfl; (focus repeat' constructor); omega) | (refine bx ?_; intro bk))) | refine walk1 ?_)
   rw [kArr_congr (p := fun i => if i = (48 + (k : Int)).toNat then 2 else k2 k i) (q := k2 (k + 1)) (fun i hi => by
    unfold k2
    repeat' split
    all_goals omega)]
   exact ⟨k + 1, OA, OA, SFA, SOA⟩
  ·have h1 := of_decide_eq_false h
   obtain rfl : k = 10 := by omega
   repeat (first | (refine js ?_; (refine bx ?_; intro bk)) | refine walk ?_)
   exact ⟨rfl, SFA, SOA⟩
 rintro fr' O' ⟨hf, hO⟩
 apply thenQ_n
 refine W_sub hf hO ?_
 clear hf hO fr' O'
 repeat (first | (apply RL_pu; rfl; (first | exact PuName0 | (apply Pu_loadAll; rfl; (focus repeat' constructor); exact kArr_len _))) | (refine js ?_; (first | (apply Stp_storeK; rfl; rfl; (focus repeat' constructor); omega) | (apply Stp_storeAll; rfl; rfl; (focus repeat' constructor); exact kArr_len _; exact kArr_len _; exact kArr_one _) | (refine bx ?_; intro bk))) | refine walk1 ?_)
 refine ret_1 _ [] (.cellB rfl (by repeat' constructor) (List.take_of_length_le (Nat.le_of_eq (kArr_len _))) (kArr_len _)) .nil ⟨?_, rfl⟩
 rw [kArr_congr (q := byteK) (fun i hi => by
    unfold byteK k2 k1
    repeat' split
    all_goals omega)]
theorem wkName0 {G G' : Prop} (k : G') (h : Hold G' → G := by intro k9; (first | refine walk ?_ | (refine jn ?_; (try intro F); (apply Stp_pu; exact PuA); refine fin ?_)); exact k9.out) : G := h ⟨k⟩
theorem PuName2 {G : Prop} (h : G := by (apply Pu_loadO1; rfl; first | exact h1 0 _ rfl | exact h2 0 _ rfl | exact h4 0 _ rfl)) : G := h
theorem QyName2 {G : Prop} (h : G := by first | (apply Qy_y; rfl; exact PuName2) | exact QyA) : G := h
theorem QFName2 {G : Prop} (h : G := by repeat (first | exact QF.nil | (apply QF.mk; rfl; rfl; decide +kernel; exact QyName2))) : G := h
theorem PuName3 {G : Prop} (h : G := by (first | (apply Pu_indexC (c := c); rfl; rfl; omega; omega; exact hcd) | (apply Pu_indexArr; rfl; rfl; omega; omega) | (apply Pu_loadO1'; rfl; exact h3; exact hcell) | (apply Pu_loadO1; rfl; exact h4 0 _ rfl) | (apply Pu_andW; rfl; rfl))) : G := h
theorem QyName3 {G : Prop} (h : G := by first | (apply Qy_y; rfl; exact PuName3) | exact QyA) : G := h
theorem QFName3 {G : Prop} (h : G := by repeat (first | exact QF.nil | (apply QF.mk; rfl; rfl; decide +kernel; exact QyName3))) : G := h
theorem of1_spec (s : ByteArray) (a b m b1 b2 b3 b4 : Nat) (hs : (s.size : Int) ≤ 9223372036854775807) (hm : m < 256) (w : World) (h1 : CellsAt w ⟨b1, 0, none⟩ [.int .i64 a]) (h2 : CellsAt w ⟨b2, 0, none⟩ [.int .i64 b]) (h3 : CellsAt w ⟨b3, 0, none⟩ (kArr byteK)) (h4 : CellsAt w ⟨b4, 0, none⟩ [.int .u8 m]) :
  Does Tryz.prog 194 [.string s, .pointer (some ⟨b1, 0, none⟩), .pointer (some ⟨b2, 0, none⟩), .pointer (some ⟨b3, 0, none⟩), .pointer (some ⟨b4, 0, none⟩)] w (fun v O => v = .bool (nameB a b m s.data.toList) ∧ O = []) := by
 have hlen : s.data.toList.length = s.size := rfl
 have hg : ∀ j, s.data.toList.getD j 0 = (s.data.toList[j]?).getD 0 := fun j => by rw [List.getD_eq_getElem?_getD]
 refine Does_of_W Tryz.func194 rfl rfl rfl rfl ?_
 rw [nameB, hlen]
 obtain ⟨l, hl⟩ : ∃ l, l = s.data.toList := ⟨_, rfl⟩
 rw [← hl] at hlen hg ⊢
 repeat' (first | (apply RL_pu; rfl; exact PuName2) | (apply RD_Q; rfl; rfl; decide +kernel; rfl; rfl; exact QyName2) | refine walk1 ?_ | (refine RD_Lw ?_; intro F; (apply Stp_pu; first | exact PuName2 | exact PuA); refine ⟨_, EndsA, QFName2, ?_⟩) | refine und ?_ | (refine RL_gsplit rfl rfl rfl (fun hc => ?_) (fun hc => ?_)) | (refine RD_gsplit rfl rfl rfl (fun hc => ?_) (fun hc => ?_)) | (refine W_cond rfl (fun hc => ?_) (fun hc => ?_)))
 ·have h := of_decide_eq_true hc
  exact ret_1 _ [] (.tmp rfl) .nil ⟨by rw [decide_eq_false (show ¬ a ≤ s.size by omega)]; rfl, rfl⟩
 ·have h := of_decide_eq_true hc
  exact ret_1 _ [] (.tmp rfl) .nil ⟨by rw [decide_eq_false (show ¬ s.size ≤ b by omega), Bool.and_false]; rfl, rfl⟩
 rename_i hca
 have ha := of_decide_eq_false hca
 have hb := of_decide_eq_false hc
 rw [decide_eq_true (show a ≤ s.size by omega), decide_eq_true (show s.size ≤ b by omega), Bool.true_and, Bool.true_and]
 refine W_loopF [(0, .string s), (3, .pointer (some ⟨b3, 0, none⟩)), (4, .pointer (some ⟨b4, 0, none⟩)), (19, .int .i64 s.size)] [] (fun k : Nat => [(20, .int .i64 k)]) (fun _ => []) (fun k => k ≤ s.size ∧ okBytes m (l.take k) = true) (fun k => s.size - k) 0 SFA .nil ⟨Nat.zero_le _, rfl⟩ ?_
 rintro k ⟨hk, hok⟩
 repeat refine wkName0 ?_
 refine W_cond rfl (fun h => ?_) (fun h => ?_)
 ·have hlt := of_decide_eq_true h
  have hlt' : k < l.length := by omega
  have hd : l.getD k 0 = l[k] := by rw [hg, List.getElem?_eq_getElem hlt']; rfl
  have hc8 := UInt8.toNat_lt (l.getD k 0)
  have hcell := kArr_get (p := byteK) hc8
  have hw := wrap_and (byteK (l.getD k 0).toNat) (byteK_mem _) ⟨m, hm⟩
  have hst : okBytes m (l.take (k + 1)) = (okBytes m (l.take k) && !decide (byteK (l.getD k 0).toNat &&& m = 0)) := by
   rw [okBytes, List.take_succ_eq_append_getElem hlt', List.all_append, hd]
   simp [okBytes]
  have hall : okBytes m l = (okBytes m (l.take (k + 1)) && okBytes m (l.drop (k + 1))) := by
   rw [okBytes, okBytes, okBytes, ← List.all_append, List.take_append_drop]
  rw [hok, Bool.true_and] at hst
  obtain ⟨c, hcd⟩ : ∃ c, s.data.toList.getD k 0 = c := ⟨_, rfl⟩
  rw [hl, hcd] at hc8 hcell hw
  rw [hl] at hst
  rw [hcd, ← hl] at hst
  rw [← Nat.mul_one c.toNat] at hcell
  rw [show byteK (c.toNat * 1) = byteK c.toNat by rw [Nat.mul_one]] at hcell
  simp only at hw
  repeat (first | (apply RL_pu; rfl; exact PuName3) | (apply RD_Q; rfl; rfl; decide +kernel; rfl; rfl; exact QyName3) | refine walk1 ?_ | (refine jn ?_; (try intro F); (apply Stp_pu; first | exact PuName3 | exact PuA); first | refine ⟨_, EndsA, QFName3, ?_⟩ | refine fin ?_))
  rw [hw]
  refine W_cond rfl (fun hz => ?_) (fun hz => ?_)
  ·have h0 := of_decide_eq_true hz
   have h0' : byteK c.toNat &&& m = 0 := by omega
   rw [hall, hst, decide_eq_true h0']
   repeat refine wkName0 ?_
   exact rtA
  ·have h0 := of_decide_eq_false hz
   have h0' : ¬ byteK c.toNat &&& m = 0 := by omega
   rw [decide_eq_false h0'] at hst
   repeat refine wkName0 ?_
   exact ⟨k + 1, OA, ⟨OA, hst⟩, SFA, .nil⟩
 ·have h1 := of_decide_eq_false h
  obtain rfl : k = s.size := by omega
  rw [← hlen, List.take_length] at hok
  repeat refine wkName0 ?_
  exact ret_1 _ [] (.tmp rfl) .nil ⟨by rw [hok], rfl⟩
def ofV (b1 b2 b3 b4 : Nat) : Value := .func (.func 194) #[] #[.pointer (some ⟨b1, 0, none⟩), .pointer (some ⟨b2, 0, none⟩), .pointer (some ⟨b3, 0, none⟩), .pointer (some ⟨b4, 0, none⟩)]
def ofO (a b m b1 b2 b3 b4 : Nat) : List It := [.blk b1 [.int .i64 a] 3, .blk b2 [.int .i64 b] 3, .blk b3 (kArr byteK) 281, .blk b4 [.int .u8 m] 5]
theorem nof_spec (a b m : Nat) (w : World) : Does Tryz.prog 157 [.int .i64 a, .int .i64 b, .int .u8 m] w (fun v O => ∃ b1 b2 b3 b4, v = ofV b1 b2 b3 b4 ∧ O = ofO a b m b1 b2 b3 b4) := by
 refine Does_of_W Tryz.func157 rfl rfl rfl rfl ?_
 repeat (first | (refine js ?_; (first | (refine callE (fun w' _ => nkinds_spec w') ?_) | (apply Stp_storeAll; rfl; rfl; (focus repeat' constructor); exact kArr_len _; exact kArr_len _; exact kArr_one _) | (refine bx ?_; intro bk))) | refine walk ?_)
 exact ret_1 _ _ (.tmp rfl) SOA ⟨_, _, _, _, rfl, rfl⟩
theorem of_call {base : Nat} {s : ByteArray} {a b m b1 b2 b3 b4 : Nat} {O : List It} {w : World} (hs : (s.size : Int) ≤ 9223372036854775807) (hm : m < 256) (hH : Holds base O w) (hO : SubO (ofO a b m b1 b2 b3 b4) O) :
  Does Tryz.prog 194 ([] ++ [.string s] ++ [.pointer (some ⟨b1, 0, none⟩), .pointer (some ⟨b2, 0, none⟩), .pointer (some ⟨b3, 0, none⟩), .pointer (some ⟨b4, 0, none⟩)]) w (fun v O => v = .bool (nameB a b m s.data.toList) ∧ O = []) := by
 have h := hH.sub hO
 unfold ofO at h
 exact of1_spec s a b m b1 b2 b3 b4 hs hm w (h.cells (by repeat' constructor)) (h.cells (by repeat' constructor)) (h.cells (by repeat' constructor)) (h.cells (by repeat' constructor))
theorem letter_spec (s : ByteArray) (hs : (s.size : Int) ≤ 9223372036854775807) (w : World) : Does Tryz.prog 308 [.string s] w (fun v O => v = .bool (letterB s) ∧ O = []) := by
 refine Does_of_W Tryz.func308 rfl rfl rfl rfl ?_
 repeat (first | (refine js ?_; (first | (apply Stp_call (h := fun w' _ _ => nof_spec 1 4 1 w'); rfl; rintro v O' ⟨b1, b2, b3, b4, rfl, rfl⟩) | (apply Stp_callV (f := 194) (us := []) (vs := [.string s]) (cs := [.pointer (some ⟨b1, 0, none⟩), .pointer (some ⟨b2, 0, none⟩), .pointer (some ⟨b3, 0, none⟩), .pointer (some ⟨b4, 0, none⟩)]) (h := fun w' _ hH => of_call (a := 1) (b := 4) (m := 1) hs (by decide) hH (by exact .refl _)); rfl; rfl; rintro v O' ⟨rfl, rfl⟩))) | refine walk ?_)
 exact rtA
theorem abbr_spec (s : ByteArray) (hs : (s.size : Int) ≤ 9223372036854775807) (w : World) : Does Tryz.prog 134 [.string s] w (fun v O => v = .bool (abbrB s) ∧ O = []) := by
 refine Does_of_W Tryz.func134 rfl rfl rfl rfl ?_
 repeat (first | (refine js ?_; (first | (apply Stp_call (h := fun w' _ _ => nof_spec 3 6 1 w'); rfl; rintro v O' ⟨b1, b2, b3, b4, rfl, rfl⟩) | (apply Stp_callV (f := 194) (us := []) (vs := [.string s]) (cs := [.pointer (some ⟨b1, 0, none⟩), .pointer (some ⟨b2, 0, none⟩), .pointer (some ⟨b3, 0, none⟩), .pointer (some ⟨b4, 0, none⟩)]) (h := fun w' _ hH => of_call (a := 3) (b := 6) (m := 1) hs (by decide) hH (by exact .refl _)); rfl; rfl; rintro v O' ⟨rfl, rfl⟩))) | refine walk ?_)
 exact rtA
end Go.Proofs.YtonjepladadmhaaGreatDoor
namespace Go.Wk
open Go Go.RowKit
theorem nameB_size {a b m : Nat} {s : ByteArray} (h : nameB a b m s.data.toList = true) : (a : Int) ≤ s.size ∧ (s.size : Int) ≤ b := by
 simp only [nameB, Bool.and_eq_true, decide_eq_true_eq] at h
 have : s.data.toList.length = s.size := rfl
 omega
theorem ext1 (s : ByteArray) : (s.extract 0 1).data.toList = s.data.toList.take 1 := by
 rw [ByteArray.data_extract]; simp
end Go.Wk
namespace Go.Proofs.YtonjepladadmhaaGreatDoor
open Go Go.RowKit Go.Wk
attribute [local irreducible] W RL Does thenQ blockQ retQ Calls Pu Stp RD Qy Ay DoesIn nameB
theorem of_callE {base : Nat} {s : ByteArray} {a b m b1 b2 b3 b4 : Nat} {O : List It} {w : World} (hs : (s.size : Int) ≤ 9223372036854775807) (hm : m < 256) (hH : Holds base O w) (hO : SubO (ofO a b m b1 b2 b3 b4) O) :
  Does Tryz.prog 194 ([] ++ [.string s] ++ [.pointer (some ⟨b1, 0, none⟩), .pointer (some ⟨b2, 0, none⟩), .pointer (some ⟨b3, 0, none⟩), .pointer (some ⟨b4, 0, none⟩)]) w (fun v O => ∃ x, nameB a b m s.data.toList = x ∧ v = .bool x ∧ O = []) :=
 (of_call hs hm hH hO).monoO fun v O ⟨h1, h2⟩ => ⟨O, ⟨_, rfl, h1, h2⟩, fun _ _ h => h⟩
theorem PuName20 {G : Prop} (h : G := by (apply Pu_sliceS0; rfl; rfl; decide; exact hsz)) : G := h
theorem QyName20 {G : Prop} (h : G := by first | (apply Qy_y; rfl; exact PuName20) | exact QyA) : G := h
theorem QFName20 {G : Prop} (h : G := by repeat (first | exact QF.nil | (apply QF.mk; rfl; rfl; decide +kernel; exact QyName20))) : G := h
theorem set_spec (s : ByteArray) (hs : (s.size : Int) ≤ 9223372036854775807) (w : World) : Does Tryz.prog 106 [.string s] w (fun v O => v = .bool (setB s) ∧ O = []) := by
 have hs1 : ((s.extract 0 1).size : Int) ≤ 9223372036854775807 := by rw [ByteArray.size_extract]; omega
 refine Does_of_W Tryz.func106 rfl rfl rfl rfl ?_
 repeat (first | refine walk ?_ | (refine jn ?_; (try intro F); (first | (apply Stp_call (h := fun w' _ _ => nof_spec 1 30 15 w'); rfl; rintro v O' ⟨b1, b2, b3, b4, rfl, rfl⟩) | (apply Stp_callV (f := 194) (us := []) (vs := [.string (s)]) (cs := [.pointer (some ⟨b1, 0, none⟩), .pointer (some ⟨b2, 0, none⟩), .pointer (some ⟨b3, 0, none⟩), .pointer (some ⟨b4, 0, none⟩)]) (h := fun w' _ hH => of_callE (a := 1) (b := 30) (m := 15) hs (by decide) hH SOA); rfl; rfl; rintro v O' ⟨x1, hx1, rfl, rfl⟩) | (apply Stp_pu; exact PuA)); refine fin ?_))
 refine RD_gsplit rfl rfl rfl (fun hc => ?_) (fun hc => ?_)
 ·subst hc
  have hsz := (nameB_size hx1).1
  have e : setB s = nameB 1 1 1 (s.extract 0 1).data.toList := by rw [setB, hx1, ext1]; rfl
  rw [e]
  repeat (first | (apply RL_pu; rfl; exact PuName20) | (apply RD_Q; rfl; rfl; decide +kernel; rfl; rfl; exact QyName20) | refine walk1 ?_ | (refine jn ?_; (try intro F); (first | (apply Stp_call (h := fun w' _ _ => nof_spec 1 1 1 w'); rfl; rintro v O' ⟨b1, b2, b3, b4, rfl, rfl⟩) | (apply Stp_callV (f := 194) (us := []) (vs := [.string (s.extract 0 1)]) (cs := [.pointer (some ⟨b1, 0, none⟩), .pointer (some ⟨b2, 0, none⟩), .pointer (some ⟨b3, 0, none⟩), .pointer (some ⟨b4, 0, none⟩)]) (h := fun w' _ hH => of_callE (a := 1) (b := 1) (m := 1) hs1 (by decide) hH SOA); rfl; rfl; rintro v O' ⟨x2, hx2, rfl, rfl⟩) | (apply Stp_pu; first | exact PuName20 | exact PuA)); first | refine ⟨_, EndsA, QFName20, ?_⟩ | refine fin ?_))
  exact ret_1 _ [] (.tmp rfl) .nil ⟨by rw [hx2], rfl⟩
 ·subst hc
  have e : setB s = false := by rw [setB, hx1]; rfl
  rw [e]
  repeat (first | refine walk ?_ | (refine jn ?_; (try intro F); (apply Stp_pu; exact PuA); refine fin ?_))
  exact rtA
end Go.Proofs.YtonjepladadmhaaGreatDoor
namespace Go.Wk
open Go Go.RowKit
def cutI (l : List UInt8) : Option Nat := l.findIdx? (· == 47)
theorem cutSl_acc : ∀ (l acc : List UInt8), cutSl l acc = match cutI l with | none => [acc ++ l] | some i => (acc ++ l.take i) :: cutSl (l.drop (i + 1)) []
 | [], acc => by simp [cutSl, cutI]
 | c :: l, acc => by
  rw [cutSl]
  by_cases h : c = 47
  ·subst h
   simp [cutI, List.findIdx?_cons]
  ·rw [if_neg h, cutSl_acc l]
   have hb : (c == 47) = false := by simpa using h
   simp only [cutI, List.findIdx?_cons, hb]
   cases h2 : l.findIdx? (· == 47) with
   | none => simp
   | some i => simp
theorem cutI_lt {l : List UInt8} {i : Nat} (h : cutI l = some i) : i < l.length := (List.findIdx?_eq_some_iff_findIdx_eq.1 h).1
theorem firstIdx_cut (s : ByteArray) : firstIdx s 47 = match cutI s.data.toList with | none => -1 | some i => (i : Int) := by
 unfold firstIdx cutI
 have hsz : s.size = s.data.toList.length := rfl
 have key : ∀ (l : List UInt8) (f : Nat → UInt8), (∀ i, i < l.length → f i = l.getD i 0) → (List.range l.length).find? (fun i => f i == 47) = l.findIdx? (· == 47) := by
  intro l
  induction l with
  | nil => intro f _; rfl
  | cons c l ih =>
   intro f hf
   rw [List.length_cons, List.range_succ_eq_map, List.find?_cons, List.findIdx?_cons]
   have h0 : f 0 = c := by rw [hf 0 (by simp)]; rfl
   rw [h0]
   cases hc : c == 47 with
   | true => rfl
   | false =>
    rw [List.find?_map]
    have := ih (fun i => f (i + 1)) (fun i hi => by rw [hf (i + 1) (by simp; omega)]; rfl)
    simp only [Function.comp_def] at this ⊢
    rw [show (fun x : Nat => f (Nat.succ x) == 47) = fun i => f (i + 1) == 47 from rfl, this]
    cases l.findIdx? (· == 47) <;> rfl
 have hk := key s.data.toList (fun i => s[i]!) (fun i hi => by
  have : i < s.size := hi
  rw [List.getD_eq_getElem?_getD, List.getElem?_eq_getElem hi]
  simp [getElem!_def, this]
  rfl)
 rw [hsz]
 rw [hk]
 cases s.data.toList.findIdx? (· == 47) <;> rfl
end Go.Wk
namespace Go.Proofs.YtonjepladadmhaaGreatDoor
open Go Go.RowKit Go.Wk
attribute [local irreducible] W RL Does thenQ blockQ retQ Calls Pu Stp RD Qy Ay DoesIn
theorem ixb_run (args : Array Value) (w : World) : (callFunc 249 args).run Tryz.prog w = ((Extern.BytealgIndexByte.indexByte args).run Tryz.prog w).andThen fun v w' => .ok (.value v) w' := by
 rw [run_callFunc_extern Tryz.func249 (by kernel_rfl) (by kernel_rfl) (by kernel_rfl) (e := Extern.BytealgIndexByte.indexByte) (by kernel_rfl)]
section
variable {n : Nat} {wr : World} {fr : Fr} {O : List It} {ty : TypeId} {pos : String} {af : Array Edge} {dst : Option Tmp} {g : Option (Nat × Bool)} {Kp : Value → List It → Prop}
theorem Stp_ixb {x y : Operand} {ts : Array TypeId} {s : ByteArray} {c : Int} (hx : ev fr x = some (.string s)) (hy : ev fr y = some (.int .u8 c)) (kk : Kp (.int .i64 (firstIdx s c.toNat.toUInt8)) O) :
  Stp Tryz.prog n wr fr O ⟨dst, .call ⟨.value (.func 249), #[x, y], ts⟩, ty, pos, af, g⟩ Kp :=
 Stp_val fun a w hs => by
  refine ⟨_, w, O, ?_, hs.old, hs.own, kk⟩
  have h1 := hs.sim.ev hx
  have h2 := hs.sim.ev hy
  have he : a.eval (.func 249) = .func (.func 249) #[] #[] := rfl
  have hc := ixb_run #[.string s, .int .u8 c] w
  rw [run_indexByte_string, Result.andThen_ok] at hc
  simp [execOp, resolve, he, Deferred.ofValue, invoke, hc, h1, h2]
end
theorem ixB_spec (s : ByteArray) (c : Int) (w : World) : Does Tryz.prog 237 [.string s, .int .u8 c] w (fun v O => v = .int .i64 (firstIdx s c.toNat.toUInt8) ∧ O = []) := by
 refine Does_of_W Tryz.func237 rfl rfl rfl rfl ?_
 repeat (first | (refine js ?_; (apply Stp_ixb; rfl; rfl)) | refine walk ?_)
 exact rtA
theorem firstIdx_one (s : ByteArray) (c : UInt8) (h : (⟨#[c]⟩ : ByteArray) = s) : firstIdx s c = 0 := by
 subst h
 have hs : (⟨#[c]⟩ : ByteArray).size = 1 := rfl
 unfold firstIdx
 rw [hs]
 have : (⟨#[c]⟩ : ByteArray)[0]! = c := rfl
 simp [List.range_succ, this]
theorem PuZone0 {G : Prop} (h : G := by (apply Pu_eqlSB; rfl; rfl; exact hb)) : G := h
theorem ix1_spec (s : ByteArray) (c : UInt8) (w : World) : Does Tryz.prog 223 [.string s, .string ⟨#[c]⟩] w (fun v O => v = .int .i64 (firstIdx s c) ∧ O = []) := by
 have hu : ((c.toNat : Int)).toNat.toUInt8 = c := by simp
 have hi := fun w' => ixB_spec s (c.toNat : Int) w'
 rw [hu] at hi
 have hsz : (0 : Int) < ((⟨#[c]⟩ : ByteArray).size : Int) := show (0 : Int) < 1 by decide
 by_cases he : (⟨#[c]⟩ : ByteArray) = s
 ·have hb : decide ((⟨#[c]⟩ : ByteArray) = s) = true := decide_eq_true he
  have h0 := firstIdx_one s c he
  refine Does_of_W Tryz.func223 rfl rfl rfl rfl ?_
  repeat (first | (apply RL_pu; rfl; exact PuZone0) | refine walk1 ?_)
  exact ret_1 _ [] (.tmp rfl) .nil ⟨by rw [h0], rfl⟩
 ·have hb : decide ((⟨#[c]⟩ : ByteArray) = s) = false := decide_eq_false he
  refine Does_of_W Tryz.func223 rfl rfl rfl rfl ?_
  repeat (first | (apply RL_pu; rfl; (first | exact PuZone0 | (apply Pu_indexS; rfl; rfl; decide; exact hsz))) | (refine js ?_; (refine callE (fun w' _ => hi w') ?_)) | refine walk1 ?_)
  exact rtA
theorem index1_spec (s : ByteArray) (c : UInt8) (w : World) : Does Tryz.prog 234 [.string s, .string ⟨#[c]⟩] w (fun v O => v = .int .i64 (firstIdx s c) ∧ O = []) := by
 have hi := fun w' => ix1_spec s c w'
 refine Does_of_W Tryz.func234 rfl rfl rfl rfl ?_
 repeat (first | (refine js ?_; (refine callE (fun w' _ => hi w') ?_)) | refine walk ?_)
 exact rtA
def itO (b1 b2 b3 : Nat) (s p : ByteArray) : List It := [.blk b1 [.string s] 9, .blk b2 [.string p] 9, .blk b3 [.int .i64 0] 3]
def itV (b1 b2 b3 : Nat) : Value := .func (.func 232) #[] #[.pointer (some ⟨b2, 0, none⟩), .pointer (some ⟨b1, 0, none⟩), .pointer (some ⟨b3, 0, none⟩)]
theorem splitSeq_spec (s p : ByteArray) (w : World) : Does Tryz.prog 221 [.string s, .string p, .int .i64 0] w (fun v O => ∃ b1 b2 b3, v = itV b1 b2 b3 ∧ O = itO b1 b2 b3 s p) := by
 refine Does_of_W Tryz.func221 rfl rfl rfl rfl ?_
 apply W_seq
 apply W_region
 apply RL_st; rfl; (apply Stp_boxNf; rfl; (focus repeat (first | exact Nf.nil | apply Nf.cons)); intro b1)
 apply RL_st; rfl; (apply Stp_boxNf; rfl; (focus repeat (first | exact Nf.nil | apply Nf.cons)); intro b2)
 apply RL_st; rfl; (apply Stp_boxNf; rfl; (focus repeat (first | exact Nf.nil | apply Nf.cons)); intro b3)
 repeat (first | (refine js ?_; (refine bx ?_; intro bk)) | refine walk ?_)
 exact ret_1 _ (itO b1 b2 b3 s p) (.tmp rfl) SOA ⟨b1, b2, b3, rfl, rfl⟩
theorem SplitSeq_spec (s p : ByteArray) (w : World) : Does Tryz.prog 200 [.string s, .string p] w (fun v O => ∃ b1 b2 b3, v = itV b1 b2 b3 ∧ O = itO b1 b2 b3 s p) := by
 have hi := fun w' => splitSeq_spec s p w'
 refine Does_of_W Tryz.func200 rfl rfl rfl rfl ?_
 repeat (first | (refine js ?_; (apply Stp_call (h := fun w' _ _ => hi w'); rfl; rintro v O' ⟨b1, b2, b3, rfl, rfl⟩)) | refine walk ?_)
 exact ret_1 _ (itO b1 b2 b3 s p) (.tmp rfl) SOA ⟨b1, b2, b3, rfl, rfl⟩
end Go.Proofs.YtonjepladadmhaaGreatDoor
