/- Contracts: the reference of layer 7: letters, sets. Contracts: the reference of layer 16: rules. Contracts: the reference of layer 16: least saves, the check of a set. -/
import Derived.Test.YtceekohkjgiabaaGreatDoorQ10
import Derived.Test.YtceekohkjgiabaaGreatDoorQ12
import Derived.Test.YtceekohkjgiabaaGreatDoorQ27
import Derived.Test.YtceekohkjgiabaaGreatDoorQ16
import Derived.Test.YtceekohkjgiabaaGreatDoorQ09
set_option maxHeartbeats 4000000
set_option linter.unusedVariables false
set_option linter.unusedSimpArgs false
namespace Go.Wk
open Go Go.RowKit
def letC (c : Int) : Bool := (decide (65 ≤ c) && decide (c ≤ 90)) || (decide (97 ≤ c) && decide (c ≤ 122))
def digC (c : Int) : Bool := decide (48 ≤ c) && decide (c ≤ 57)
theorem letC_eq (c : Nat) : letC c = decide (byteK c = 1) := by
 unfold letC byteK
 by_cases h : (65 ≤ c ∧ c ≤ 90) ∨ (97 ≤ c ∧ c ≤ 122)
 ·rw [if_pos h, Bool.eq_iff_iff]
  simp only [Bool.or_eq_true, Bool.and_eq_true, decide_eq_true_eq]
  constructor
  ·intro; trivial
  ·intro; omega
 ·rw [if_neg h, Bool.eq_iff_iff]
  simp only [Bool.or_eq_true, Bool.and_eq_true, decide_eq_true_eq]
  constructor
  ·intro; omega
  ·intro hh
   exfalso
   revert hh
   repeat' split
   all_goals decide
def setCh (c : Int) : Bool := letC c || (digC c || (decide (c = 95) || decide (c = 45)))
def partC (c : Int) : Bool := letC c || (digC c || (decide (c = 46) || (decide (c = 95) || (decide (c = 43) || decide (c = 45)))))
theorem byteK_one (c : Nat) : (!decide (byteK c &&& 1 = 0)) = letC c := by
 rw [letC_eq]
 rcases List.mem_cons.1 (byteK_mem c) with h | h
 ·rw [h]; rfl
 ·simp only [List.mem_cons, List.mem_nil_iff, or_false] at h
  rcases h with h | h | h | h | h <;> rw [h] <;> rfl
theorem byteK_all : ∀ c : Fin 256, (!decide (byteK c.val &&& 15 = 0)) = setCh (c.val : Nat) ∧ (!decide (byteK c.val &&& 31 = 0)) = partC (c.val : Nat) := by decide +kernel
theorem byteK_set (c : UInt8) : (!decide (byteK c.toNat &&& 15 = 0)) = setCh c.toNat := (byteK_all ⟨c.toNat, c.toNat_lt⟩).1
theorem byteK_part (c : UInt8) : (!decide (byteK c.toNat &&& 31 = 0)) = partC c.toNat := (byteK_all ⟨c.toNat, c.toNat_lt⟩).2
end Go.Wk
namespace Go.Proofs.YtceekohkjgiabaaGreatDoor
open Go Go.RowKit Go.Wk
attribute [local irreducible] W RL Does thenQ blockQ retQ Calls Pu Stp RD Qy Ay DoesIn
theorem rletter_spec (c : Int) (w : World) : Does Tryz.prog 98 [.int .u8 c] w (fun v O => v = .bool (letC c) ∧ O = []) := by
 refine Does_of_W Tryz.func98 rfl rfl rfl rfl ?_
 repeat' (first | refine walk ?_ | refine und ?_ | (refine RL_gsplit rfl rfl rfl (fun hc => ?_) (fun hc => ?_)) | (refine RD_gsplit rfl rfl rfl (fun hc => ?_) (fun hc => ?_)) | (refine W_cond rfl (fun hc => ?_) (fun hc => ?_)))
 all_goals first | (refine ret_1 _ [] (.tmp rfl) .nil ⟨?_, rfl⟩; first | rfl | (simp only [*, Bool.true_and, Bool.false_and, Bool.true_or, Bool.false_or, Bool.not_true, Bool.not_false]; done) | (simp_all [letC]; done) | (simp_all [letC]; omega) | (simp_all [letC]; rw [Bool.eq_iff_iff]; simp; omega)) | (exfalso; simp_all [letC]; done) | (exfalso; simp_all [letC]; omega) | (exfalso; omega)
theorem rdigit_spec (c : Int) (w : World) : Does Tryz.prog 99 [.int .u8 c] w (fun v O => v = .bool (digC c) ∧ O = []) := by
 refine Does_of_W Tryz.func99 rfl rfl rfl rfl ?_
 repeat' (first | refine walk ?_ | refine und ?_ | (refine RL_gsplit rfl rfl rfl (fun hc => ?_) (fun hc => ?_)) | (refine RD_gsplit rfl rfl rfl (fun hc => ?_) (fun hc => ?_)) | (refine W_cond rfl (fun hc => ?_) (fun hc => ?_)))
 all_goals first | (refine ret_1 _ [] (.tmp rfl) .nil ⟨?_, rfl⟩; first | rfl | (simp only [*, Bool.true_and, Bool.false_and, Bool.true_or, Bool.false_or, Bool.not_true, Bool.not_false]; done) | (simp_all [digC]; done) | (simp_all [digC]; omega) | (simp_all [digC]; rw [Bool.eq_iff_iff]; simp; omega)) | (exfalso; simp_all [digC]; done) | (exfalso; simp_all [digC]; omega) | (exfalso; omega)
theorem getD_at {l : List UInt8} {k : Nat} (h : k < l.length) : l.getD k 0 = l[k] := by rw [List.getD_eq_getElem?_getD, List.getElem?_eq_getElem h]; rfl
theorem PuRfD0 {G : Prop} (h : G := by (apply Pu_indexC; rfl; rfl; omega; omega; exact hgc)) : G := h
theorem rletters_spec (s : ByteArray) (a b : Nat) (hs : (s.size : Int) ≤ 9223372036854775807) (w : World) : Does Tryz.prog 159 [.string s, .int .i64 a, .int .i64 b] w (fun v O => v = .bool (nameB a b 1 s.data.toList) ∧ O = []) := by
 have hL : s.data.toList.length = s.size := rfl
 obtain ⟨R, hR⟩ : ∃ R, (s.data.toList.all fun c => letC c.toNat) = R := ⟨_, rfl⟩
 have hN : nameB a b 1 s.data.toList = (decide (a ≤ s.size) && (decide (s.size ≤ b) && R)) := by
  unfold nameB okBytes
  rw [← hR, hL, Bool.and_assoc]
  congr 3
  funext c
  exact byteK_one c.toNat
 rw [hN]
 refine Does_of_W Tryz.func159 rfl rfl rfl rfl ?_
 repeat (first | refine walk ?_)
 refine W_loopF [(0, .string s), (1, .int .i64 a), (2, .int .i64 b)] [] (fun k : Nat => [(7, .int .i64 k)]) (fun _ => []) (fun k => k ≤ s.size ∧ ((s.data.toList.drop k).all fun c => letC c.toNat) = R) (fun k => s.size - k) 0 SFA SOA ⟨Nat.zero_le _, hR⟩ ?_
 rintro k ⟨hk, hi⟩
 repeat (first | refine walk ?_)
 refine W_cond rfl (fun hc => ?_) (fun hc => ?_)
 ·simp only [decide_eq_true_eq, Int.ofNat_lt] at hc
  have hgc : s.data.toList.getD ((k : Int)).toNat 0 = s.data.toList[k] := getD_at (by omega)
  rw [drop_cons (show k < s.data.toList.length by omega), List.all_cons] at hi
  generalize s.data.toList[k] = c at *
  repeat (first | (apply RL_pu; rfl; exact PuRfD0) | (refine js ?_; (refine callE (fun w' _ => rletter_spec c.toNat w') ?_)) | refine walk1 ?_)
  refine W_cond rfl (fun h3 => ?_) (fun h3 => ?_)
  ·have h4 : letC c.toNat = false := by simpa using h3
   rw [h4, Bool.false_and] at hi
   subst hi
   repeat (first | refine walk ?_)
   exact ret_1 _ [] (.tmp rfl) .nil ⟨by simp, rfl⟩
  ·have h4 : letC c.toNat = true := by simpa using h3
   rw [h4, Bool.true_and] at hi
   repeat (first | refine walk ?_)
   exact ⟨k + 1, OA, ⟨OA, hi⟩, SFA, SOA⟩
 ·simp only [decide_eq_false_iff_not, Int.ofNat_lt] at hc
  rw [List.drop_eq_nil_of_le (by omega), List.all_nil] at hi
  subst hi
  rw [show decide (a ≤ s.size) = decide ((a : Int) ≤ s.size) by rw [decide_eq_decide]; omega, show decide (s.size ≤ b) = decide ((s.size : Int) ≤ b) by rw [decide_eq_decide]; omega, Bool.and_true]
  repeat' (first | refine walk ?_ | refine und ?_ | (refine RL_gsplit rfl rfl rfl (fun hc => ?_) (fun hc => ?_)) | (refine RD_gsplit rfl rfl rfl (fun hc => ?_) (fun hc => ?_)) | (refine W_cond rfl (fun hc => ?_) (fun hc => ?_)))
  all_goals exact clo1
theorem rLetter_spec (s : ByteArray) (hs : (s.size : Int) ≤ 9223372036854775807) (w : World) : Does Tryz.prog 146 [.string s] w (fun v O => v = .bool (letterB s) ∧ O = []) := by
 refine Does_of_W Tryz.func146 rfl rfl rfl rfl ?_
 repeat (first | (refine js ?_; (refine callE (fun w' _ => rletters_spec s 1 4 hs w') ?_)) | refine walk ?_)
 exact rtA
theorem rAbbr_spec (s : ByteArray) (hs : (s.size : Int) ≤ 9223372036854775807) (w : World) : Does Tryz.prog 120 [.string s] w (fun v O => v = .bool (abbrB s) ∧ O = []) := by
 refine Does_of_W Tryz.func120 rfl rfl rfl rfl ?_
 repeat (first | (refine js ?_; (refine callE (fun w' _ => rletters_spec s 3 6 hs w') ?_)) | refine walk ?_)
 exact rtA
theorem PuRfD1 {G : Prop} (h : G := by (apply Pu_lssB; rfl; rfl; exact b1)) : G := h
theorem PuRfD3 {G : Prop} (h : G := by (first | exact PuRfD0 | (apply Pu_lssB; rfl; rfl; exact b1) | (apply Pu_gtrB; rfl; rfl; exact b2))) : G := h
theorem PuRfD4 {G : Prop} (h : G := by (first | exact PuRfD0 | (apply Pu_neqB'; rfl; rfl; first | exact e1 | exact e2))) : G := h
theorem wkRfD0 {G G' : Prop} (k : G') (h : Hold G' → G := by intro k9; (first | refine und ?_ | (apply RL_pu; rfl; exact PuRfD4) | (refine js ?_; (first | (refine callE (fun w' _ => hcl w') ?_) | (refine callE (fun w' _ => hcd w') ?_))) | refine walk1 ?_); exact k9.out) : G := h ⟨k⟩
theorem rSet_spec (s : ByteArray) (hs : (s.size : Int) ≤ 9223372036854775807) (w : World) : Does Tryz.prog 54 [.string s] w (fun v O => v = .bool (setB s) ∧ O = []) := by
 have hL : s.data.toList.length = s.size := rfl
 obtain ⟨R, hR⟩ : ∃ R, (s.data.toList.all fun c => setCh c.toNat) = R := ⟨_, rfl⟩
 have hN : setB s = ((decide (1 ≤ s.size) && decide (s.size ≤ 30) && R) && letC (s.data.toList.getD 0 0).toNat) := by
  unfold setB nameB okBytes
  rw [← hR, hL]
  by_cases h0 : 1 ≤ s.size
  ·rw [show s.data.toList.take 1 = [s.data.toList.getD 0 0] by
    obtain ⟨x, l, hx⟩ : ∃ x l, s.data.toList = x :: l := by
     cases hd : s.data.toList with
     | nil => rw [hd] at hL; simp at hL; omega
     | cons x l => exact ⟨x, l, rfl⟩
    rw [hx]; rfl]
   congr 1
   ·congr 1
    congr 1
    funext c
    exact byteK_set c
   ·show ((!decide (byteK (s.data.toList.getD 0 0).toNat &&& 1 = 0)) && true) = _
    rw [Bool.and_true, byteK_one]
  ·rw [decide_eq_false h0]; rfl
 refine Does_of_W Tryz.func54 rfl rfl rfl rfl ?_
 by_cases h1 : s.size < 1
 ·have b1 : decide ((s.size : Int) < 1) = true := decide_eq_true (by omega)
  rw [show setB s = false by rw [hN, decide_eq_false (show ¬ 1 ≤ s.size by omega)]; rfl]
  repeat (first | refine und ?_ | (apply RL_pu; rfl; exact PuRfD1) | refine walk1 ?_)
  exact rtA
 have b1 : decide ((s.size : Int) < 1) = false := decide_eq_false (by omega)
 by_cases h2 : 30 < s.size
 ·have b2 : decide (30 < (s.size : Int)) = true := decide_eq_true (by omega)
  rw [show setB s = false by rw [hN, decide_eq_false (show ¬ s.size ≤ 30 by omega), Bool.and_false]; rfl]
  repeat (first | refine und ?_ | (apply RL_pu; rfl; (first | exact PuRfD1 | (apply Pu_gtrB; rfl; rfl; exact b2))) | refine walk1 ?_)
  exact rtA
 have b2 : decide (30 < (s.size : Int)) = false := decide_eq_false (by omega)
 obtain ⟨c, hgc⟩ : ∃ c, s.data.toList.getD ((0 : Int)).toNat 0 = c := ⟨_, rfl⟩
 rw [show s.data.toList.getD 0 0 = c from hgc, decide_eq_true (show 1 ≤ s.size by omega), decide_eq_true (show s.size ≤ 30 by omega)] at hN
 cases hl : letC c.toNat with
 | false =>
  have hcl := fun w' => rletter_spec c.toNat w'
  rw [hl] at hcl hN
  rw [hN, Bool.and_false]
  repeat (first | refine und ?_ | (apply RL_pu; rfl; exact PuRfD3) | (refine js ?_; (refine callE (fun w' _ => hcl w') ?_)) | refine walk1 ?_)
  exact rtA
 | true =>
 have hcl := fun w' => rletter_spec c.toNat w'
 rw [hl] at hcl hN
 rw [show setB s = R by rw [hN, Bool.and_true]; rfl]
 repeat (first | (apply RL_pu; rfl; exact PuRfD3) | (refine js ?_; (refine callE (fun w' _ => hcl w') ?_)) | refine walk1 ?_)
 clear hgc hl hcl hN
 refine W_loopF [(0, .string s)] [] (fun k : Nat => [(3, .int .i64 k)]) (fun _ => []) (fun k => k ≤ s.size ∧ ((s.data.toList.drop k).all fun c => setCh c.toNat) = R) (fun k => s.size - k) 0 SFA SOA ⟨Nat.zero_le _, hR⟩ ?_
 rintro k ⟨hk, hi⟩
 repeat (first | refine walk ?_)
 refine W_cond rfl (fun hc => ?_) (fun hc => ?_)
 ·simp only [decide_eq_true_eq, Int.ofNat_lt] at hc
  have hgc : s.data.toList.getD ((k : Int)).toNat 0 = s.data.toList[k] := getD_at (by omega)
  rw [drop_cons (show k < s.data.toList.length by omega), List.all_cons] at hi
  generalize s.data.toList[k] = c at *
  unfold setCh at hi
  have hcl := fun w' => rletter_spec c.toNat w'
  have hcd := fun w' => rdigit_spec c.toNat w'
  generalize letC c.toNat = x at *
  generalize digC c.toNat = y at *
  obtain ⟨z1, e1⟩ : ∃ z1, (!decide ((c.toNat : Int) = 95)) = z1 := ⟨_, rfl⟩
  obtain ⟨z2, e2⟩ : ∃ z2, (!decide ((c.toNat : Int) = 45)) = z2 := ⟨_, rfl⟩
  rw [show decide ((c.toNat : Int) = 95) = !z1 by rw [← e1, Bool.not_not], show decide ((c.toNat : Int) = 45) = !z2 by rw [← e2, Bool.not_not]] at hi
  have go : ∀ q : Bool, (x || (y || (!z1 || !z2))) = q → (q && (s.data.toList.drop (k + 1)).all fun c => setCh c.toNat) = R := fun q hq => by rw [← hq]; exact hi
  cases x with
  | true =>
   repeat (first | refine und ?_ | (apply RL_pu; rfl; exact PuRfD0) | (refine js ?_; (refine callE (fun w' _ => hcl w') ?_)) | refine walk1 ?_)
   exact ⟨k + 1, OA, ⟨OA, by simpa using go true rfl⟩, SFA, SOA⟩
  | false =>
  cases y with
  | true =>
   repeat (first | refine und ?_ | (apply RL_pu; rfl; exact PuRfD0) | (refine js ?_; (first | (refine callE (fun w' _ => hcl w') ?_) | (refine callE (fun w' _ => hcd w') ?_))) | refine walk1 ?_)
   exact ⟨k + 1, OA, ⟨OA, by simpa using go true rfl⟩, SFA, SOA⟩
  | false =>
  cases z1 with
  | false =>
   repeat refine wkRfD0 ?_
   exact ⟨k + 1, OA, ⟨OA, by simpa using go true rfl⟩, SFA, SOA⟩
  | true =>
  cases z2 with
  | false =>
   repeat refine wkRfD0 ?_
   exact ⟨k + 1, OA, ⟨OA, by simpa using go true rfl⟩, SFA, SOA⟩
  | true =>
   have := go false rfl
   rw [Bool.false_and] at this
   subst this
   repeat refine wkRfD0 ?_
   exact rtA
 ·simp only [decide_eq_false_iff_not, Int.ofNat_lt] at hc
  rw [List.drop_eq_nil_of_le (by omega), List.all_nil] at hi
  subst hi
  repeat (first | refine walk ?_)
  exact rtA
end Go.Proofs.YtceekohkjgiabaaGreatDoor
namespace Go.Wk
open Go Go.RowKit
def posixP (m : Int) (d : DDay) : Bool := if d.kind = 2 then true else if d.kind = 3 then decide (d.day.tmod 7 = 1) && decide (d.day < 29) else if d.kind = 1 then !decide (m = 2) || !decide (d.day = 29) else false
theorem posix_days (n : Int) : (decide (n.tmod 7 = 1) && decide (n < 29)) = (decide (n = 1) || decide (n = 8) || decide (n = 15) || decide (n = 22)) := by
 rw [Bool.eq_iff_iff]
 simp only [Bool.or_eq_true, Bool.and_eq_true, decide_eq_true_eq]
 by_cases h0 : 0 ≤ n
 ·rw [Int.tmod_eq_emod_of_nonneg h0]
  omega
 ·have h5 : n.tmod 7 ≤ 0 := by
   have := Int.tmod_nonneg (a := -n) 7 (by omega)
   rw [Int.neg_tmod] at this
   omega
  generalize n.tmod 7 = q at *
  omega
end Go.Wk
namespace Go.Proofs.YtceekohkjgiabaaGreatDoor
open Go Go.RowKit Go.Wk
attribute [local irreducible] W RL Does thenQ blockQ retQ Calls Pu Stp RD Qy Ay DoesIn nameB
theorem rnamed_spec (y : Int) (w : World) : Does Tryz.prog 143 [.int .i64 y] w (fun v O => v = .bool (namedY y) ∧ O = []) := by
 refine Does_of_W Tryz.func143 rfl rfl rfl rfl ?_
 repeat' (first | refine walk ?_ | refine und ?_ | (refine RL_gsplit rfl rfl rfl (fun hc => ?_) (fun hc => ?_)) | (refine RD_gsplit rfl rfl rfl (fun hc => ?_) (fun hc => ?_)) | (refine W_cond rfl (fun hc => ?_) (fun hc => ?_)))
 all_goals first | (refine ret_1 _ [] (.tmp rfl) .nil ⟨?_, rfl⟩; first | rfl | (simp only [*, Bool.true_and, Bool.false_and, Bool.true_or, Bool.false_or, Bool.not_true, Bool.not_false]; done) | (simp_all [namedY]; done) | (simp_all [namedY]; omega) | (simp_all [namedY]; rw [Bool.eq_iff_iff]; simp; omega)) | (exfalso; simp_all [namedY]; done) | (exfalso; simp_all [namedY]; omega) | (exfalso; omega)
theorem PuRfF0 {G : Prop} (h : G := by (apply Pu_geqB; rfl; rfl; exact b1)) : G := h
theorem PuRfF1 {G : Prop} (h : G := by (first | exact PuRfF0 | (apply Pu_neqB'; rfl; rfl; exact b2))) : G := h
theorem rtime_spec (c : DClock) (least : Int) (hl : -9223372036854775808 ≤ least ∧ least ≤ 0) (w : World) : Does Tryz.prog 145 [.agg (DClock.enc c).toArray, .int .i64 least] w (fun v O => v = .bool (timedB c least) ∧ O = []) := by
 have hcs := fun w' => r6chk_spec c w'
 unfold timedB
 cases hc : clkChk c with
 | false =>
  rw [hc] at hcs
  obtain ⟨s, b⟩ := c
  show Does _ _ [.agg #[.int .i64 s, .int .i64 b], .int .i64 least] w _
  refine Does_of_W Tryz.func145 rfl rfl rfl rfl ?_
  repeat (first | (refine js ?_; (first | (refine callE (fun w' _ => hcs w') ?_) | (refine bx ?_; intro bk))) | refine walk ?_)
  exact rtA
 | true =>
  rw [hc] at hcs
  have hb : -604799 ≤ c.sec ∧ c.sec ≤ 604799 := by
   simp only [clkChk, Bool.and_eq_true, decide_eq_true_eq] at hc
   omega
  obtain ⟨s, b⟩ := c
  dsimp only at hb ⊢
  rw [Bool.true_and]
  show Does _ _ [.agg #[.int .i64 s, .int .i64 b], .int .i64 least] w _
  refine Does_of_W Tryz.func145 rfl rfl rfl rfl ?_
  by_cases hb1 : b = 1
  ·subst hb1
   rw [if_pos rfl]
   by_cases h1 : -86400 - least ≤ s
   ·have b1 : decide (-86400 - least ≤ s) = true := decide_eq_true h1
    rw [show decide (-86400 ≤ s + least) = true from decide_eq_true (by omega), show decide (s + least ≤ 172800) = decide (s ≤ 172800 - least) by rw [decide_eq_decide]; omega, Bool.true_and]
    repeat (first | (apply RL_pu; rfl; exact PuRfF0) | (refine js ?_; (first | (refine callE (fun w' _ => hcs w') ?_) | (refine bx ?_; intro bk))) | refine walk1 ?_)
    exact rtA
   ·have b1 : decide (-86400 - least ≤ s) = false := decide_eq_false h1
    rw [show decide (-86400 ≤ s + least) = false from decide_eq_false (by omega), Bool.false_and]
    repeat (first | refine und ?_ | (apply RL_pu; rfl; exact PuRfF0) | (refine js ?_; (first | (refine callE (fun w' _ => hcs w') ?_) | (refine bx ?_; intro bk))) | refine walk1 ?_)
    exact rtA
  ·rw [if_neg hb1]
   have b2 : (!decide (b = 1)) = true := by rw [decide_eq_false hb1]; rfl
   by_cases h1 : -86400 ≤ s
   ·have b1 : decide (-86400 ≤ s) = true := decide_eq_true h1
    rw [b1, Bool.true_and]
    repeat (first | (apply RL_pu; rfl; exact PuRfF1) | (refine js ?_; (first | (refine callE (fun w' _ => hcs w') ?_) | (refine bx ?_; intro bk))) | refine walk1 ?_)
    exact rtA
   ·have b1 : decide (-86400 ≤ s) = false := decide_eq_false h1
    rw [b1, Bool.false_and]
    repeat (first | refine und ?_ | (apply RL_pu; rfl; exact PuRfF1) | (refine js ?_; (first | (refine callE (fun w' _ => hcs w') ?_) | (refine bx ?_; intro bk))) | refine walk1 ?_)
    exact rtA
theorem rposix_spec (m : Int) (d : DDay) (w : World) : Does Tryz.prog 147 [.int .i64 m, .agg (DDay.enc d).toArray] w (fun v O => v = .bool (posixP m d) ∧ O = []) := by
 unfold posixP
 rw [posix_days]
 obtain ⟨k, wk, n⟩ := d
 show Does _ _ [.int .i64 m, .agg #[.int .i64 k, .int .i64 wk, .int .i64 n]] w _
 refine Does_of_W Tryz.func147 rfl rfl rfl rfl ?_
 repeat' (first | (refine js ?_; (refine bx ?_; intro bk)) | refine walk ?_ | refine und ?_ | (refine RL_gsplit rfl rfl rfl (fun hc => ?_) (fun hc => ?_)) | (refine RD_gsplit rfl rfl rfl (fun hc => ?_) (fun hc => ?_)) | (refine W_cond rfl (fun hc => ?_) (fun hc => ?_)))
 all_goals exact clo1
set_option maxHeartbeats 1000000 in
theorem rrule_spec (r : DRule) (least : Int) (hl : -9223372036854775808 ≤ least ∧ least ≤ 0) (hs : (r.letter.size : Int) ≤ 9223372036854775807) (w : World) : Does Tryz.prog 100 [.agg (DRule.enc r).toArray, .int .i64 least] w (fun v O => v = .int .i64 (ruleErr r least) ∧ O = []) := by
 have h1 := fun w' => rnamed_spec r.from_ w'
 have h2 := fun w' => rnamed_spec r.to w'
 have h3 := fun w' => ralways_spec r.from_ r.to r.month r.day w'
 have h4 := fun w' => rtime_spec r.at_ least hl w'
 have h5 := fun w' => rLetter_spec r.letter hs w'
 unfold ruleErr
 generalize namedY r.from_ = n1 at *
 generalize namedY r.to = n2 at *
 generalize alwaysD r.from_ r.to r.month r.day = al at *
 generalize timedB r.at_ least = ti at *
 generalize letterB r.letter = lb at *
 obtain ⟨nm, fr, to, mo, ⟨dk, dw, dd⟩, ⟨cs, cb⟩, sv, le⟩ := r
 simp only at *
 show Does _ _ [.agg #[.string nm, .int .i64 fr, .int .i64 to, .int .i64 mo, .int .i64 dk, .int .i64 dw, .int .i64 dd, .int .i64 cs, .int .i64 cb, .int .i64 sv, .string le], .int .i64 least] w _
 obtain ⟨e1, he1⟩ : ∃ e1, decide (to = 1048576) = e1 := ⟨_, rfl⟩
 rw [he1]
 have he1' : (!decide (to = 1048576)) = !e1 := by rw [he1]
 rw [show decide (le = ByteArray.empty) = decide (le = (⟨#[]⟩ : ByteArray)) from rfl]
 refine Does_of_W Tryz.func100 rfl rfl rfl rfl ?_
 repeat' (first | (apply RL_pu; rfl; (apply Pu_neqB'; rfl; rfl; exact he1')) | (refine js ?_; (first | (refine callE (fun w' _ => h1 w') ?_) | (refine callE (fun w' _ => h2 w') ?_) | (refine callE (fun w' _ => h3 w') ?_) | (refine callE (fun w' _ => h4 w') ?_) | (refine callE (fun w' _ => h5 w') ?_) | (refine bx ?_; intro bk))) | refine walk1 ?_ | refine und ?_ | (refine RL_gsplit rfl rfl rfl (fun hc => ?_) (fun hc => ?_)) | (refine RD_gsplit rfl rfl rfl (fun hc => ?_) (fun hc => ?_)) | (refine W_cond rfl (fun hc => ?_) (fun hc => ?_)))
 all_goals exact clo1
end Go.Proofs.YtceekohkjgiabaaGreatDoor
namespace Go.Wk
open Go Go.RowKit
def lastM : List DRule → Bool
 | [] => true
 | [a, b] => (decide (a.save = 0) != decide (b.save = 0)) && !decide (a.month = b.month) && posixP a.month a.day && posixP b.month b.day
 | _ => false
theorem lastB_eq (l : List DRule) : lastB l = lastM (l.filter fun r => decide (r.to = 1048576)) := by
 unfold lastB
 generalize l.filter (fun r => decide (r.to = 1048576)) = F
 match F with
 | [] => rfl
 | [a] => rfl
 | [a, b] => rfl
 | a :: b :: c :: t => rfl
def chkT (L : Int) (lb : Bool) : List DRule → Nat → Bool → Bool → Nat × Int
 | [], _, z, s => if z = false ∨ (L < 0 ∧ s = false) then (0, 14) else if lb = false then (0, 16) else (0, 0)
 | r :: l, k, z, s => if ruleErr r L = 0 then chkT L lb l (k + 1) (z || decide (r.save = 0)) (s && (decide (r.save = 0) || decide (r.save = L))) else (k, ruleErr r L)
theorem chkT_go (L : Int) (lb : Bool) : ∀ (l : List DRule) (k : Nat) (z s : Bool), chkT L lb l k z s =
  match firstBad L l k with
  | some x => x
  | none => if (z || l.any fun r => decide (r.save = 0)) = false ∨ (L < 0 ∧ (!s || l.any fun r => !decide (r.save = 0) && !decide (r.save = L)) = true) then (0, 14) else if lb = false then (0, 16) else (0, 0)
 | [], k, z, s => by
  rw [chkT, firstBad]
  simp only [List.any_nil, Bool.or_false, Bool.not_eq_true']
 | r :: l, k, z, s => by
  rw [chkT, firstBad]
  by_cases h : ruleErr r L = 0
  ·rw [if_pos h, if_pos h, chkT_go L lb l (k + 1)]
   cases firstBad L l (k + 1) with
   | some x => rfl
   | none =>
    dsimp only
    rw [List.any_cons, List.any_cons, Bool.or_assoc]
    congr 3
    cases s <;> cases decide (r.save = 0) <;> cases decide (r.save = L) <;> rfl
  ·rw [if_neg h, if_neg h]
theorem chkT_eq (l : List DRule) : chkT (leastD l) (lastB l) l 0 false true = rsChk l := by
 rw [chkT_go]
 unfold rsChk
 cases firstBad (leastD l) l 0 <;> rfl
end Go.Wk
namespace Go.Proofs.YtceekohkjgiabaaGreatDoor
open Go Go.RowKit Go.Wk
attribute [local irreducible] W RL Does thenQ blockQ retQ Calls Pu Stp RD Qy Ay DoesIn nameB
theorem rleast_spec (A : Option Addr) (c : Nat) (l : List DRule) (w : World) (hA : RdSl w A c DRule.enc 11 l) : Does Tryz.prog 59 [.slice A l.length c] w (fun v O => v = .int .i64 (leastD l) ∧ O = []) := by
 have hle := hA.le
 have hcp := hA.cap
 unfold maxLen at hcp
 generalize hres : leastD l = res
 unfold leastD at hres
 refine Does_of_W Tryz.func59 rfl rfl rfl rfl ?_
 repeat (first | refine walk ?_)
 refine W_loopF [(0, .slice A l.length c)] [] (fun g : Nat × Int => [(3, .int .i64 g.2), (4, .int .i64 g.1)]) (fun _ => []) (fun g => g.1 ≤ l.length ∧ (l.drop g.1).foldl (fun m r => min m r.save) g.2 = res) (fun g => l.length - g.1) (0, 0) SFA SOA ⟨Nat.zero_le _, hres⟩ ?_
 rintro ⟨k, m⟩ ⟨hk, hi⟩
 dsimp only at hk hi ⊢
 repeat (first | refine walk ?_)
 refine W_cond rfl (fun h => ?_) (fun h => ?_)
 ·have hlt : k < l.length := by simpa using h
  obtain ⟨hna, hca⟩ := hA.rd k _ (List.getElem?_eq_getElem hlt)
  rw [drop_cons hlt, List.foldl_cons] at hi
  generalize l[k] = r at *
  simp only [DRule.enc] at hca
  repeat (first | (apply RL_pu; rfl; exact PuI) | refine walk1 ?_)
  refine W_cond rfl (fun h1 => ?_) (fun h1 => ?_)
  ·have h2 : r.save < m := by simpa using h1
   rw [show min m r.save = r.save by omega] at hi
   repeat (first | (apply RL_pu; rfl; exact PuI) | refine walk1 ?_)
   exact ⟨(k + 1, r.save), OA, ⟨OA, hi⟩, SFA, SOA⟩
  ·have h2 : ¬ r.save < m := by simpa using h1
   rw [show min m r.save = m by omega] at hi
   repeat (first | refine walk ?_)
   exact ⟨(k + 1, m), OA, ⟨OA, hi⟩, SFA, SOA⟩
 ·have hkl : k = l.length := by
   have := of_decide_eq_false h
   omega
  subst hkl
  rw [List.drop_length] at hi
  repeat (first | refine walk ?_)
  exact ret_1 _ [] (.tmp rfl) .nil ⟨by rw [← hi]; rfl, rfl⟩
theorem PuRfG0 {G : Prop} (h : G := by (first | exact PuI | (apply Pu_neqB'; rfl; rfl; exact b1))) : G := h
theorem PuRfG2 {G : Prop} (h : G := by (first | exact PuI | (apply Pu_neqB'; rfl; rfl; first | exact b1 | exact b2 | exact b3))) : G := h
theorem rother_spec (A : Option Addr) (c : Nat) (l : List DRule) (w : World) (hA : RdSl w A c DRule.enc 11 l) : Does Tryz.prog 58 [.slice A l.length c] w (fun v O => v = .tuple #[.int .i64 (otherD l).1, .bool (otherD l).2] ∧ O = []) := by
 have hle := hA.le
 have hcp := hA.cap
 unfold maxLen at hcp
 generalize hres : otherD l = res
 unfold otherD at hres
 refine Does_of_W Tryz.func58 rfl rfl rfl rfl ?_
 repeat (first | refine walk ?_)
 refine W_loopF [(0, .slice A l.length c)] [] (fun g : Nat × Int => [(4, .int .i64 g.2), (5, .int .i64 g.1)]) (fun _ => []) (fun g => g.1 ≤ l.length ∧ otherGo (l.drop g.1) g.2 = res) (fun g => l.length - g.1) (0, 0) SFA SOA ⟨Nat.zero_le _, hres⟩ ?_
 rintro ⟨k, m⟩ ⟨hk, hi⟩
 dsimp only at hk hi ⊢
 repeat (first | refine walk ?_)
 refine W_cond rfl (fun h => ?_) (fun h => ?_)
 ·have hlt : k < l.length := by simpa using h
  obtain ⟨hna, hca⟩ := hA.rd k _ (List.getElem?_eq_getElem hlt)
  rw [drop_cons hlt, otherGo] at hi
  generalize l[k] = r at *
  simp only [DRule.enc] at hca
  by_cases h1 : r.save = 0
  ·rw [if_pos h1] at hi
   have b1 : (!decide (r.save = 0)) = false := by rw [decide_eq_true h1]; rfl
   repeat (first | refine und ?_ | (apply RL_pu; rfl; exact PuRfG0) | refine walk1 ?_)
   exact ⟨(k + 1, m), OA, ⟨OA, hi⟩, SFA, SOA⟩
  rw [if_neg h1] at hi
  have b1 : (!decide (r.save = 0)) = true := by rw [decide_eq_false h1]; rfl
  by_cases h2 : m = 0
  ·have b2 : (!decide (m = 0)) = false := by rw [decide_eq_true h2]; rfl
   rw [if_neg (fun e => e.1 h2)] at hi
   repeat (first | refine und ?_ | (apply RL_pu; rfl; (first | exact PuI | (apply Pu_neqB'; rfl; rfl; first | exact b1 | exact b2))) | refine walk1 ?_)
   exact ⟨(k + 1, r.save), OA, ⟨OA, hi⟩, SFA, SOA⟩
  have b2 : (!decide (m = 0)) = true := by rw [decide_eq_false h2]; rfl
  by_cases h3 : r.save = m
  ·have b3 : (!decide (r.save = m)) = false := by rw [decide_eq_true h3]; rfl
   rw [if_neg (fun e => e.2 h3)] at hi
   repeat (first | refine und ?_ | (apply RL_pu; rfl; exact PuRfG2) | refine walk1 ?_)
   exact ⟨(k + 1, r.save), OA, ⟨OA, hi⟩, SFA, SOA⟩
  ·have b3 : (!decide (r.save = m)) = true := by rw [decide_eq_false h3]; rfl
   rw [if_pos ⟨h2, h3⟩] at hi
   repeat (first | refine und ?_ | (apply RL_pu; rfl; exact PuRfG2) | refine walk1 ?_)
   exact ret_2 _ _ [] (.tmp rfl) (.tmp rfl) .nil ⟨by rw [← hi], rfl⟩
 ·have hkl : k = l.length := by
   have := of_decide_eq_false h
   omega
  subst hkl
  rw [List.drop_length, otherGo] at hi
  repeat (first | refine walk ?_)
  exact ret_2 _ _ [] (.tmp rfl) (.tmp rfl) .nil ⟨by rw [← hi], rfl⟩
theorem PuRfG3 {G : Prop} (h : G := by (first | (apply Pu_eqlB; rfl; rfl; exact b1) | (apply Pu_neqB'; rfl; rfl; exact b2))) : G := h
theorem QyRfG3 {G : Prop} (h : G := by first | (apply Qy_y; rfl; exact PuRfG3) | exact QyA) : G := h
theorem QFRfG3 {G : Prop} (h : G := by repeat (first | exact QF.nil | (apply QF.mk; rfl; rfl; decide +kernel; exact QyRfG3))) : G := h
theorem PuRfG4 {G : Prop} (h : G := by (first | (apply Pu_indexAddrH; rfl; rfl; decide; (show (_ : Int) < ((2 : Nat) : Int); decide); (intro w' _ hO; first | exact (row_cell (hO.of (A := .row (.slice A1 2 c1) 48 11 2 ([x, y].flatMap DRule.enc)) (by repeat' constructor)) hg0).1 | exact (row_cell (hO.of (A := .row (.slice A1 2 c1) 48 11 2 ([x, y].flatMap DRule.enc)) (by repeat' constructor)) hg1).1)) | (apply Pu_loadRN; rfl; (focus repeat' constructor); (first | exact hn0 | exact hn1); rfl) | (apply Pu_eqlB; rfl; rfl; first | exact e1 | exact e2))) : G := h
theorem QyRfG4 {G : Prop} (h : G := by first | (apply Qy_y; rfl; exact PuRfG4) | exact QyA) : G := h
theorem QFRfG4 {G : Prop} (h : G := by repeat (first | exact QF.nil | (apply QF.mk; rfl; rfl; decide +kernel; exact QyRfG4))) : G := h
theorem PuRfG5 {G : Prop} (h : G := by (apply Pu_neqB'; rfl; rfl; exact e4)) : G := h
theorem QyRfG5 {G : Prop} (h : G := by first | (apply Qy_y; rfl; exact PuRfG5) | exact QyA) : G := h
theorem QFRfG5 {G : Prop} (h : G := by repeat (first | exact QF.nil | (apply QF.mk; rfl; rfl; decide +kernel; exact QyRfG5))) : G := h
set_option maxHeartbeats 1000000 in
theorem rlast_spec (A : Option Addr) (c : Nat) (l : List DRule) (w : World) (hA : RdSl w A c DRule.enc 11 l) (hn : l.length ≤ 1000000) : Does Tryz.prog 101 [.slice A l.length c] w (fun v O => v = .bool (lastB l) ∧ O = []) := by
 rw [lastB_eq]
 generalize hres : l.filter (fun r => decide (r.to = 1048576)) = res
 refine Does_of_W Tryz.func101 rfl rfl rfl rfl ?_
 repeat (first | refine walk ?_ | (refine jn ?_; (try intro F); (first | (refine bx ?_; intro bk) | (refine stA ?_) | (apply Stp_pu; exact PuA)); refine fin ?_) | (apply RD_W; rfl; intro bk))
 refine W_nil 48 11 ?_
 refine W_loopF [(0, .slice A l.length c)] [] (fun g : AG DRule => [(3, .slice g.A g.m g.c), (4, .int .i64 g.k)]) (fun g => [.row (.slice g.A g.m g.c) 48 11 g.m g.xs]) (fun g => g.k ≤ l.length ∧ g.m = g.acc.length ∧ g.xs = g.acc.flatMap DRule.enc ∧ g.m ≤ g.k ∧ g.acc ++ (l.drop g.k).filter (fun r => decide (r.to = 1048576)) = res) (fun g => l.length - g.k) ⟨0, none, 0, 0, [], []⟩ SFA SOA ⟨Nat.zero_le _, rfl, rfl, Nat.le_refl _, by simpa using hres⟩ ?_
 rintro ⟨k, A1, c1, m, xs, acc⟩ ⟨hk, hm, hx, hmk, hi⟩
 dsimp only at hk hm hx hmk hi ⊢
 repeat (first | refine walk ?_ | (refine jn ?_; (try intro F); (first | (refine bx ?_; intro bk) | (refine stA ?_) | (apply Stp_pu; exact PuA)); refine fin ?_) | (apply RD_W; rfl; intro bk))
 refine W_cond rfl (fun hc => ?_) (fun hc => ?_)
 ·simp only [decide_eq_true_eq, Int.ofNat_lt] at hc
  obtain ⟨hna, hca⟩ := hA.rd k _ (List.getElem?_eq_getElem hc)
  rw [drop_cons hc, List.filter_cons] at hi
  generalize l[k] = r at *
  repeat (first | (apply RL_pu; rfl; exact PuI) | (apply RD_Q; rfl; rfl; decide +kernel; rfl; rfl; exact QyI) | refine walk1 ?_ | (refine jn ?_; (try intro F); (first | (refine bx ?_; intro bk) | (refine stA ?_) | (apply Stp_pu; first | exact PuI | exact PuA)); first | refine ⟨_, EndsA, QFI, ?_⟩ | refine fin ?_) | (apply RD_W; rfl; intro bk))
  refine W_cond rfl (fun h3 => ?_) (fun h3 => ?_)
  ·rw [if_pos h3] at hi
   repeat (first | (apply RL_pu; rfl; exact PuI) | (apply RD_Q; rfl; rfl; decide +kernel; rfl; rfl; exact QyI) | refine walk1 ?_ | (refine jn ?_; (try intro F); (first | (apply Stp_append; rfl; rfl; (intro A' c'; (focus repeat' constructor)); (intro w' _ hO; exact blkRaw (hO.of (by repeat' constructor))); rfl; rfl; (simp only [maxLen]; omega); omega; intro A' c' hc1 hc2 hc3) | (refine bx ?_; intro bk) | (refine stA ?_) | (apply Stp_pu; first | exact PuI | exact PuA)); first | refine ⟨_, EndsA, QFI, ?_⟩ | refine fin ?_) | (apply RD_W; rfl; intro bk))
   exact ⟨⟨k + 1, A', c', m + 1, xs ++ r.enc, acc ++ [r]⟩, OA, ⟨OA, by simp [hm], by rw [hx]; exact flat_snoc acc r, OA, by rw [← hi]; simp⟩, SFA, SOA⟩
  rw [h3] at hi
  repeat (first | refine walk ?_ | (refine jn ?_; (try intro F); (first | (refine bx ?_; intro bk) | (refine stA ?_) | (apply Stp_pu; exact PuA)); refine fin ?_) | (apply RD_W; rfl; intro bk))
  exact ⟨⟨k + 1, A1, c1, m, xs, acc⟩, OA, ⟨OA, hm, hx, OA, hi⟩, SFA, SOA⟩
 simp only [decide_eq_false_iff_not, Int.ofNat_lt] at hc
 rw [List.drop_eq_nil_of_le (by omega), List.filter_nil, List.append_nil] at hi
 subst hi hx hm
 match acc, hmk with
 | [], _ =>
  repeat (first | refine walk ?_ | (refine jn ?_; (try intro F); (first | (refine bx ?_; intro bk) | (refine stA ?_) | (apply Stp_pu; exact PuA)); refine fin ?_) | (apply RD_W; rfl; intro bk))
  exact ret_1 _ [] (.tmp rfl) SOA ⟨rfl, rfl⟩
 | [x], _ =>
  repeat (first | refine walk ?_ | (refine jn ?_; (try intro F); (first | (refine bx ?_; intro bk) | (refine stA ?_) | (apply Stp_pu; exact PuA)); refine fin ?_) | (apply RD_W; rfl; intro bk))
  exact ret_1 _ [] (.tmp rfl) SOA ⟨rfl, rfl⟩
 | x :: y :: z :: t, _ =>
  have b1 : decide (((x :: y :: z :: t).length : Int) = 0) = false := decide_eq_false (by simp only [List.length_cons]; omega)
  have b2 : (!decide (((x :: y :: z :: t).length : Int) = 2)) = true := by rw [decide_eq_false (by simp only [List.length_cons]; omega)]; rfl
  repeat (first | (apply RL_pu; rfl; exact PuRfG3) | (apply RD_Q; rfl; rfl; decide +kernel; rfl; rfl; exact QyRfG3) | refine walk1 ?_ | (refine jn ?_; (try intro F); (first | (refine bx ?_; intro bk) | (refine stA ?_) | (apply Stp_pu; first | exact PuRfG3 | exact PuA)); first | refine ⟨_, EndsA, QFRfG3, ?_⟩ | refine fin ?_) | (apply RD_W; rfl; intro bk))
  exact ret_1 _ [] (.tmp rfl) SOA ⟨rfl, rfl⟩
 | [x, y], _ =>
  have hg0 := flat_get DRule.len [x, y] 0 _ 0 _ rfl rfl
  have hg1 := flat_get DRule.len [x, y] 1 _ 0 _ rfl rfl
  have hn0 : ∀ i v, (DRule.enc x)[i]? = some v → ([x, y].flatMap DRule.enc)[0 + i]? = some v := fun i v hv => by simpa using flat_get DRule.len [x, y] 0 _ i v rfl hv
  have hn1 : ∀ i v, (DRule.enc y)[i]? = some v → ([x, y].flatMap DRule.enc)[11 + i]? = some v := fun i v hv => by simpa using flat_get DRule.len [x, y] 1 _ i v rfl hv
  have hp1 := fun w' => rposix_spec x.month x.day w'
  have hp2 := fun w' => rposix_spec y.month y.day w'
  rw [lastM]
  generalize posixP x.month x.day = p1 at *
  generalize posixP y.month y.day = p2 at *
  simp only [DRule.enc] at hn0 hn1
  obtain ⟨z1, e1⟩ : ∃ z, decide (x.save = 0) = z := ⟨_, rfl⟩
  obtain ⟨z2, e2⟩ : ∃ z, decide (y.save = 0) = z := ⟨_, rfl⟩
  obtain ⟨z3, e3⟩ : ∃ z, decide (x.month = y.month) = z := ⟨_, rfl⟩
  have e4 : (!decide (x.month = y.month)) = !z3 := by rw [e3]
  rw [e1, e2, e3]
  repeat (first | (apply RL_pu; rfl; exact PuRfG4) | (apply RD_Q; rfl; rfl; decide +kernel; rfl; rfl; exact QyRfG4) | refine walk1 ?_ | (refine jn ?_; (try intro F); (first | (refine bx ?_; intro bk) | (refine stA ?_) | (apply Stp_pu; first | exact PuRfG4 | exact PuA)); first | refine ⟨_, EndsA, QFRfG4, ?_⟩ | refine fin ?_) | (apply RD_W; rfl; intro bk))
  have go : ∀ b1 b2 b3 b4 : Bool, (b1 && b2 && b3 && b4) = (if b1 then (if b2 then (if b3 then b4 else false) else false) else false) := by decide
  rw [go]
  cases z1 <;> cases z2 <;> cases z3 <;> cases p1
  all_goals
   repeat (first | refine und ?_ | (apply RL_pu; rfl; exact PuRfG5) | (apply RD_Q; rfl; rfl; decide +kernel; rfl; rfl; exact QyRfG5) | refine walk1 ?_ | (refine jg ?_; (try intro F); (first | (refine callE (fun w' _ => hp1 w') ?_) | (refine callE (fun w' _ => hp2 w') ?_) | (refine bx ?_; intro bk) | (refine stA ?_)); first | refine ⟨_, EndsA, QFRfG5, ?_⟩ | refine fin ?_) | (refine jn ?_; (try intro F); (first | (refine bx ?_; intro bk) | (refine stA ?_) | (apply Stp_pu; first | exact PuRfG5 | exact PuA)); first | refine ⟨_, EndsA, QFRfG5, ?_⟩ | refine fin ?_) | (apply RD_W; rfl; intro bk))
   exact rtA
set_option maxHeartbeats 1000000 in
theorem r16chk_spec (A : Option Addr) (c : Nat) (l : List DRule) (w : World) (hA : RdSl w A c DRule.enc 11 l) (hn : l.length ≤ 1000000) (hR : ∀ r ∈ l, (-9223372036854775808 ≤ r.save ∧ r.save ≤ 9223372036854775807) ∧ (r.letter.size : Int) ≤ 9223372036854775807) :
  Does Tryz.prog 56 [.slice A l.length c] w (fun v O => v = .tuple #[.int .i64 (rsChk l).1, .int .i64 (rsChk l).2] ∧ O = []) := by
 have hls := leastD_go64 l 0 (by omega) (by omega) fun r hr => (hR r hr).1
 change -9223372036854775808 ≤ leastD l ∧ leastD l ≤ 0 at hls
 have hlast := fun w' (hw : Bel w.heap.size w w') => rlast_spec A c l w' (hA.up hw) hn
 have hlst := fun w' (hw : Bel w.heap.size w w') => rleast_spec A c l w' (hA.up hw)
 obtain ⟨res, hres⟩ : ∃ res, rsChk l = res := ⟨_, rfl⟩
 rw [hres]
 rw [← chkT_eq] at hres
 generalize lastB l = lb at *
 generalize leastD l = L at *
 refine Does_of_W Tryz.func56 rfl rfl rfl rfl ?_
 repeat (first | (refine js ?_; (refine callE hlst ?_)) | refine walk ?_)
 refine W_loopF [(0, .slice A l.length c), (4, .int .i64 L)] [] (fun g : Nat × Bool × Bool => [(5, .bool g.2.1), (6, .bool g.2.2), (7, .int .i64 g.1)]) (fun _ => []) (fun g => g.1 ≤ l.length ∧ chkT L lb (l.drop g.1) g.1 g.2.1 g.2.2 = res) (fun g => l.length - g.1) (0, false, true) SFA SOA ⟨Nat.zero_le _, hres⟩ ?_
 clear hres
 rintro ⟨k, z, s⟩ ⟨hk, hi⟩
 dsimp only at hk hi ⊢
 repeat (first | refine walk ?_)
 refine W_cond rfl (fun h => ?_) (fun h => ?_)
 ·have hlt : k < l.length := by simpa using h
  obtain ⟨hna, hca⟩ := hA.rd k _ (List.getElem?_eq_getElem hlt)
  have hRr := hR l[k] (List.getElem_mem hlt)
  rw [drop_cons hlt, chkT] at hi
  generalize l[k] = r at *
  have hru := fun w' => rrule_spec r L hls hRr.2 w'
  generalize ruleErr r L = er at *
  simp only [DRule.enc] at hca hru
  by_cases h0 : er = 0
  ·rw [if_pos h0] at hi
   subst h0
   obtain ⟨z1, e1⟩ : ∃ z1, decide (r.save = 0) = z1 := ⟨_, rfl⟩
   obtain ⟨z2, e2⟩ : ∃ z2, decide (r.save = L) = z2 := ⟨_, rfl⟩
   rw [e1, e2] at hi
   cases z <;> cases s <;> cases z1
   all_goals
    repeat (first | refine und ?_ | (apply RL_pu; rfl; (first | exact PuI | (apply Pu_eqlB; rfl; rfl; first | exact e1 | exact e2))) | (refine js ?_; (refine callE (fun w' _ => hru w') ?_)) | refine walk1 ?_)
    exact ⟨(k + 1, _, _), OA, ⟨OA, hi⟩, SFA, SOA⟩
  ·rw [if_neg h0] at hi
   subst hi
   have b1 : (!decide (er = 0)) = true := by rw [decide_eq_false h0]; rfl
   repeat (first | (apply RL_pu; rfl; exact PuRfG0) | (refine js ?_; (refine callE (fun w' _ => hru w') ?_)) | refine walk1 ?_)
   exact rtB
 ·have hkl : k = l.length := by
   have := of_decide_eq_false h
   omega
  subst hkl
  rw [List.drop_length, chkT] at hi
  obtain ⟨z1, e1⟩ : ∃ z1, decide (L < 0) = z1 := ⟨_, rfl⟩
  subst hi
  cases z <;> cases s <;> cases z1
  all_goals
   first | (have hL0 : L < 0 := of_decide_eq_true e1) | (have hL0 : ¬ L < 0 := of_decide_eq_false e1)
   cases lb
   all_goals
    simp only [hL0, Bool.false_eq_true, Bool.true_eq_false, or_true, or_false, true_or, false_or, and_true, and_false, if_true, if_false, reduceCtorEq]
    repeat (first | refine und ?_ | (apply RL_pu; rfl; (apply Pu_lssB; rfl; rfl; exact e1)) | (refine js ?_; (refine callE hlast ?_)) | refine walk1 ?_)
    exact rtB
end Go.Proofs.YtceekohkjgiabaaGreatDoor
