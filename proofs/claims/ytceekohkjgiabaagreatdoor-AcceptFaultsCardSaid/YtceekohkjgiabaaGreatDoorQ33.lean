/- Contracts: the reference of layer 25: sizes, rule, sets, shifts. Contracts: the reference of layer 25: sets (layer 18's contract handed in), shifts. -/
import Derived.Test.YtceekohkjgiabaaGreatDoorQ28
import Derived.Test.YtceekohkjgiabaaGreatDoorQ21
import Derived.Test.YtceekohkjgiabaaGreatDoorQ32
set_option maxHeartbeats 4000000
set_option linter.unusedVariables false
set_option linter.unusedSimpArgs false
namespace Go.Proofs.YtceekohkjgiabaaGreatDoor
open Go Go.RowKit Go.Wk
attribute [local irreducible] W RL Does thenQ blockQ retQ Calls Pu Stp RD Qy Ay DoesIn
def manyZ : List DZone → Nat → Option Nat
 | [], _ => none
 | z :: l, k => if 60 < z.eras.length then some k else manyZ l (k + 1)
theorem manyZ_eq : ∀ (l : List DZone) (k : Nat), manyZ l k = (l.findIdx? fun z => decide (60 < z.eras.length)).map (· + k)
 | [], _ => rfl
 | z :: l, k => by
  rw [manyZ, List.findIdx?_cons]
  by_cases h : 60 < z.eras.length
  ·rw [if_pos h, decide_eq_true h]; simp
  ·rw [if_neg h, decide_eq_false h, manyZ_eq l (k + 1)]
   simp only [Bool.false_eq_true, if_false, Option.map_map]
   congr 1
   funext x
   simp only [Function.comp]
   omega
theorem PuRfQ0 {G : Prop} (h : G := by (apply Pu_gtrB; rfl; rfl; first | exact b1 | exact b2 | exact b3 | exact b4 | exact b5)) : G := h
theorem PuRfQ1 {G : Prop} (h : G := by (first | exact PuI | (apply Pu_gtrB; rfl; rfl; first | exact b1 | exact b2 | exact b3 | exact b4 | exact b5))) : G := h
theorem rsizes_spec (Ar Az Al As : Option Addr) (cr cz cl cs : Nat) (a : DSource) (w : World) (hA : RdSource w Ar Az Al As cr cz cl cs a) (hS : SrcOk a) :
  Does Tryz.prog 27 [srcV Ar Az Al As cr cz cl cs a] w (fun v O => v = ptV (sizesD a) ∧ O = []) := by
 have hnz := hS.nz
 unfold sizesD
 rw [show (a.zones.findIdx? fun z => decide (60 < z.eras.length)) = manyZ a.zones 0 by rw [manyZ_eq]; simp]
 obtain ⟨R, hR⟩ : ∃ R, manyZ a.zones 0 = R := ⟨_, rfl⟩
 rw [hR]
 refine Does_of_W Tryz.func27 rfl rfl rfl rfl ?_
 by_cases h1 : 2000 < a.rules.length
 ·have b1 : decide (2000 < (a.rules.length : Int)) = true := decide_eq_true (by omega)
  rw [if_pos h1]
  simp only [ptV, plV, DPlace.enc]
  repeat (first | (apply RL_pu; rfl; exact PuRfQ0) | (refine js ?_; (refine bx ?_; intro bk)) | refine walk1 ?_)
  exact rtC
 have b1 : decide (2000 < (a.rules.length : Int)) = false := decide_eq_false (by omega)
 rw [if_neg h1]
 by_cases h2 : 500 < a.zones.length
 ·have b2 : decide (500 < (a.zones.length : Int)) = true := decide_eq_true (by omega)
  rw [if_pos h2]
  simp only [ptV, plV, DPlace.enc]
  repeat (first | (apply RL_pu; rfl; exact PuRfQ0) | (refine js ?_; (refine bx ?_; intro bk)) | refine walk1 ?_)
  exact rtC
 have b2 : decide (500 < (a.zones.length : Int)) = false := decide_eq_false (by omega)
 rw [if_neg h2]
 repeat (first | (apply RL_pu; rfl; exact PuRfQ0) | (refine js ?_; (refine bx ?_; intro bk)) | refine walk1 ?_)
 rename_i bs
 obtain ⟨b2', hb2⟩ : ∃ b2, bk = b2 := ⟨_, rfl⟩
 rw [hb2]
 clear hb2 bk
 refine W_loopF [(1, .pointer (some ⟨bs, 0, none⟩)), (2, .pointer (some ⟨b2', 0, none⟩))] [.blk b2' [.int .i64 0, .int .i64 0, .int .i64 0] 31, .blk bs [.slice Ar a.rules.length cr, .slice Az a.zones.length cz, .slice Al a.links.length cl, .slice As a.shifts.length cs] 27]
  (fun k : Nat => [(4, .int .i64 k)]) (fun _ => []) (fun k => k ≤ a.zones.length ∧ manyZ (a.zones.drop k) k = R) (fun k => a.zones.length - k) 0 SFA SOA ⟨Nat.zero_le _, hR⟩ ?_
 clear hR
 rintro k ⟨hk, hi⟩
 repeat (first | (refine js ?_; (refine bx ?_; intro bk)) | refine walk ?_)
 refine W_cond rfl (fun hc => ?_) (fun hc => ?_)
 ·simp only [decide_eq_true_eq, Int.ofNat_lt] at hc
  obtain ⟨hna, cs1, ⟨Ae, ce, hEz, rfl⟩, hca⟩ := hA.z k _ (List.getElem?_eq_getElem hc)
  rw [drop_cons hc, manyZ] at hi
  generalize a.zones[k] = z at *
  by_cases h3 : 60 < z.eras.length
  ·have b3 : decide (60 < (z.eras.length : Int)) = true := decide_eq_true (by omega)
   rw [if_pos h3] at hi
   subst hi
   simp only [ptV, plV, DPlace.enc]
   repeat (first | (apply RL_pu; rfl; exact PuRfQ1) | (refine js ?_; (refine bx ?_; intro bk)) | refine walk1 ?_)
   exact rtC
  ·have b3 : decide (60 < (z.eras.length : Int)) = false := decide_eq_false (by omega)
   rw [if_neg h3] at hi
   repeat (first | (apply RL_pu; rfl; exact PuRfQ1) | (refine js ?_; (refine bx ?_; intro bk)) | refine walk1 ?_)
   exact ⟨k + 1, OA, ⟨OA, hi⟩, SFA, SOA⟩
 simp only [decide_eq_false_iff_not, Int.ofNat_lt] at hc
 rw [List.drop_eq_nil_of_le (by omega), manyZ] at hi
 subst hi
 dsimp only
 by_cases h4 : 1000 < a.links.length
 ·have b4 : decide (1000 < (a.links.length : Int)) = true := decide_eq_true (by omega)
  rw [if_pos h4]
  simp only [ptV, plV, DPlace.enc]
  repeat (first | (apply RL_pu; rfl; exact PuRfQ0) | (refine js ?_; (refine bx ?_; intro bk)) | refine walk1 ?_)
  exact rtC
 have b4 : decide (1000 < (a.links.length : Int)) = false := decide_eq_false (by omega)
 rw [if_neg h4]
 by_cases h5 : 2000 < a.shifts.length
 ·have b5 : decide (2000 < (a.shifts.length : Int)) = true := decide_eq_true (by omega)
  rw [if_pos h5]
  simp only [ptV, plV, DPlace.enc]
  repeat (first | (apply RL_pu; rfl; exact PuRfQ0) | (refine js ?_; (refine bx ?_; intro bk)) | refine walk1 ?_)
  exact rtC
 have b5 : decide (2000 < (a.shifts.length : Int)) = false := decide_eq_false (by omega)
 rw [if_neg h5]
 simp only [ptV, plV, DPlace.enc]
 repeat (first | (apply RL_pu; rfl; exact PuRfQ0) | (refine js ?_; (refine bx ?_; intro bk)) | refine walk1 ?_)
 exact rtC
structure RuG where
 k : Nat
 i : Nat
theorem PuRfQ2 {G : Prop} (h : G := by (first | exact PuI | (apply Pu_neqSB; rfl; rfl; exact b1))) : G := h
theorem rrule25_spec (Ar Az Al As : Option Addr) (cr cz cl cs : Nat) (a : DSource) (x : ByteArray) (i : Nat) (w : World) (hA : RdSource w Ar Az Al As cr cz cl cs a) (hn : a.rules.length ≤ 1000000) (hi : i ≤ 1000000) :
  Does Tryz.prog 55 [srcV Ar Az Al As cr cz cl cs a, .string x, .int .i64 i] w (fun v O => v = plV (ruleAt x a.rules i 0) ∧ O = []) := by
 obtain ⟨R, hR⟩ : ∃ R, ruleAt x a.rules i 0 = R := ⟨_, rfl⟩
 rw [hR]
 refine Does_of_W Tryz.func55 rfl rfl rfl rfl ?_
 repeat (first | (refine js ?_; (refine bx ?_; intro bk)) | refine walk ?_)
 rename_i bs
 obtain ⟨b6, hb6⟩ : ∃ b6, bk = b6 := ⟨_, rfl⟩
 rw [hb6]
 clear hb6 bk
 refine W_loopF [(1, .string x), (3, .pointer (some ⟨bs, 0, none⟩)), (6, .pointer (some ⟨b6, 0, none⟩))] [.blk b6 [.int .i64 0, .int .i64 0, .int .i64 0] 31, .blk bs [.slice Ar a.rules.length cr, .slice Az a.zones.length cz, .slice Al a.links.length cl, .slice As a.shifts.length cs] 27]
  (fun g : RuG => [(2, .int .i64 g.i), (7, .int .i64 g.k)]) (fun _ => []) (fun g => g.k ≤ a.rules.length ∧ g.i ≤ 1000000 ∧ ruleAt x (a.rules.drop g.k) g.i g.k = R) (fun g => a.rules.length - g.k) ⟨0, i⟩ SFA SOA ⟨Nat.zero_le _, hi, hR⟩ ?_
 clear hR
 rintro ⟨k, j⟩ ⟨hk, hj, hi⟩
 dsimp only at hk hj hi ⊢
 repeat (first | (refine js ?_; (refine bx ?_; intro bk)) | refine walk ?_)
 refine W_cond rfl (fun hc => ?_) (fun hc => ?_)
 ·simp only [decide_eq_true_eq, Int.ofNat_lt] at hc
  obtain ⟨hna, hca⟩ := hA.r.rd k _ (List.getElem?_eq_getElem hc)
  rw [drop_cons hc, ruleAt_cons] at hi
  generalize a.rules[k] = r at *
  simp only [DRule.enc] at hca
  by_cases h3 : r.name = x
  ·have b1 : (!decide (r.name = x)) = false := by rw [decide_eq_true h3]; rfl
   rw [if_pos h3] at hi
   cases j with
   | zero =>
    dsimp only at hi
    subst hi
    simp only [plV, DPlace.enc]
    repeat (first | (apply RL_pu; rfl; exact PuRfQ2) | (refine js ?_; (refine bx ?_; intro bk)) | refine walk1 ?_)
    exact ret_1 _ [] (.cellB rfl (by repeat' constructor) rfl rfl) .nil ⟨rfl, rfl⟩
   | succ j =>
    dsimp only at hi
    have b2 : decide (((j + 1 : Nat) : Int) = 0) = false := decide_eq_false (by omega)
    repeat (first | (apply RL_pu; rfl; (first | exact PuRfQ2 | (apply Pu_eqlB; rfl; rfl; exact b2))) | (refine js ?_; (refine bx ?_; intro bk)) | refine walk1 ?_)
    refine ⟨⟨k + 1, j⟩, OA, ⟨OA, OA, hi⟩, ?_, SOA⟩
    rw [show ((j + 1 : Nat) : Int) - 1 = (j : Int) by omega]
    exact SFA
  ·have b1 : (!decide (r.name = x)) = true := by rw [decide_eq_false h3]; rfl
   rw [if_neg h3] at hi
   repeat (first | (apply RL_pu; rfl; exact PuRfQ2) | (refine js ?_; (refine bx ?_; intro bk)) | refine walk1 ?_)
   exact ⟨⟨k + 1, j⟩, OA, ⟨OA, hj, hi⟩, SFA, SOA⟩
 simp only [decide_eq_false_iff_not, Int.ofNat_lt] at hc
 rw [List.drop_eq_nil_of_le (by omega), ruleAt_nil] at hi
 subst hi
 simp only [plV, DPlace.enc]
 repeat (first | (refine js ?_; (refine bx ?_; intro bk)) | refine walk ?_)
 exact ret_1 _ [] (.cellB rfl (by repeat' constructor) rfl rfl) .nil ⟨rfl, rfl⟩
theorem PuRfS0 {G : Prop} (h : G := by (first | exact PuI | (apply Pu_eqlB; rfl; rfl; exact hb))) : G := h
theorem QyRfS0 {G : Prop} (h : G := by first | (apply Qy_y; rfl; exact PuRfS0) | exact QyA) : G := h
theorem QFRfS0 {G : Prop} (h : G := by repeat (first | exact QF.nil | (apply QF.mk; rfl; rfl; decide +kernel; exact QyRfS0))) : G := h
theorem PuRfS1 {G : Prop} (h : G := by (first | exact PuI | (apply Pu_lssB; rfl; rfl; exact bj) | (apply Pu_eqlSB; rfl; rfl; exact by1))) : G := h
theorem QyRfS1 {G : Prop} (h : G := by first | (apply Qy_y; rfl; exact PuRfS1) | exact QyA) : G := h
theorem QFRfS1 {G : Prop} (h : G := by repeat (first | exact QF.nil | (apply QF.mk; rfl; rfl; decide +kernel; exact QyRfS1))) : G := h
theorem PuRfS2 {G : Prop} (h : G := by (apply Pu_lssB; rfl; rfl; exact bj)) : G := h
theorem QyRfS2 {G : Prop} (h : G := by first | (apply Qy_y; rfl; exact PuRfS2) | exact QyA) : G := h
theorem QFRfS2 {G : Prop} (h : G := by repeat (first | exact QF.nil | (apply QF.mk; rfl; rfl; decide +kernel; exact QyRfS2))) : G := h
theorem wkRfS0 {G G' : Prop} (k : G') (h : Hold G' → G := by intro k9; (first | refine und ?_ | (apply RL_pu; rfl; exact PuRfS2) | (apply RD_Q; rfl; rfl; decide +kernel; rfl; rfl; exact QyRfS2) | refine walk1 ?_ | (refine jg ?_; (try intro F); (first | (refine callO (fun w' hw hO => hot A3 c3 w' (rowRd DRule.len (hO.of (A := .row (.slice A3 R.length c3) 48 11 R.length (R.flatMap DRule.enc)) (by repeat' constructor)))) ?_) | (refine callO (fun w' hw hO => hle A3 c3 w' (rowRd DRule.len (hO.of (A := .row (.slice A3 R.length c3) 48 11 R.length (R.flatMap DRule.enc)) (by repeat' constructor)))) ?_) | (refine stA ?_)); first | refine ⟨_, EndsA, QFRfS2, ?_⟩ | refine fin ?_) | (refine jn ?_; (try intro F); (first | (refine stA ?_) | (apply Stp_pu; first | exact PuRfS2 | exact PuA)); first | refine ⟨_, EndsA, QFRfS2, ?_⟩ | refine fin ?_)); exact k9.out) : G := h ⟨k⟩
theorem PuRfS3 {G : Prop} (h : G := by (first | exact PuRfS2 | (apply Pu_neqB'; rfl; rfl; exact hb2))) : G := h
theorem QyRfS3 {G : Prop} (h : G := by first | (apply Qy_y; rfl; exact PuRfS3) | exact QyA) : G := h
theorem QFRfS3 {G : Prop} (h : G := by repeat (first | exact QF.nil | (apply QF.mk; rfl; rfl; decide +kernel; exact QyRfS3))) : G := h
set_option maxHeartbeats 1000000 in
theorem rshifts_spec (Ar Az Al As : Option Addr) (cr cz cl cs : Nat) (a : DSource) (w : World) (hA : RdSource w Ar Az Al As cr cz cl cs a) (hS : SrcOk a) :
  Does Tryz.prog 29 [srcV Ar Az Al As cr cz cl cs a] w (fun v O => v = ptV (shiftsGo a a.shifts [] 0) ∧ O = []) := by
 have hn := hS.nr
 have hns := hS.ns
 have hcap := hA.s.le
 obtain ⟨res, hres⟩ : ∃ res, shiftsGo a a.shifts [] 0 = res := ⟨_, rfl⟩
 rw [hres]
 refine Does_of_W Tryz.func29 rfl rfl rfl rfl ?_
 repeat (first | refine walk ?_ | (refine jn ?_; (try intro F); (first | (refine bx ?_; intro bk) | (refine stA ?_) | (apply Stp_pu; exact PuA)); refine fin ?_) | (apply RD_W; rfl; intro bk))
 rename_i b1
 obtain ⟨b2, hb2⟩ : ∃ b2, bk = b2 := ⟨_, rfl⟩
 rw [hb2]
 clear hb2 bk
 refine W_loopF [(1, .pointer (some ⟨b1, 0, none⟩)), (2, .pointer (some ⟨b2, 0, none⟩))] [.blk b2 [.int .i64 0, .int .i64 0, .int .i64 0] 31, .blk b1 [.slice Ar a.rules.length cr, .slice Az a.zones.length cz, .slice Al a.links.length cl, .slice As a.shifts.length cs] 27]
  (fun k : Nat => [(4, .int .i64 k)]) (fun _ => []) (fun k => k ≤ a.shifts.length ∧ shiftsGo a (a.shifts.drop k) (a.shifts.take k) k = res) (fun k => a.shifts.length - k) 0 SFA SOA ⟨Nat.zero_le _, hres⟩ ?_
 clear hres
 rintro k ⟨hk, hi⟩
 repeat (first | refine walk ?_ | (refine jn ?_; (try intro F); (first | (refine bx ?_; intro bk) | (refine stA ?_) | (apply Stp_pu; exact PuA)); refine fin ?_) | (apply RD_W; rfl; intro bk))
 refine W_cond rfl (fun hc => ?_) (fun hc => ?_)
 ·simp only [decide_eq_true_eq, Int.ofNat_lt] at hc
  obtain ⟨hna, hca⟩ := hA.s.rd k _ (List.getElem?_eq_getElem hc)
  have htk := List.take_append_getElem hc
  rw [drop_cons hc, shiftsGo] at hi
  rw [htk] at hi
  generalize a.shifts[k] = x at *
  have hof := fun w' (hw : Bel w.heap.size w w') => of_spec Ar Az Al As cr cz cl cs a x w' (hA.up hw) hn
  have hot := fun A3 c3 w' h => rother_spec A3 c3 (ofB a.rules x) w' h
  have hle := fun A3 c3 w' h => rleast_spec A3 c3 (ofB a.rules x) w' h
  generalize ofB a.rules x = R at *
  generalize otherD R = od at *
  obtain ⟨ox, ob⟩ := od
  dsimp only at hi hot
  by_cases hR : R = []
  ·rw [if_pos hR] at hi
   subst hi
   have hb : decide ((R.length : Int) = 0) = true := by rw [hR]; rfl
   have hnb := hna
   have hcb := hca
   simp only [ptV, plV, DPlace.enc]
   repeat (first | (apply RL_pu; rfl; exact PuRfS0) | (apply RD_Q; rfl; rfl; decide +kernel; rfl; rfl; exact QyRfS0) | refine walk1 ?_ | (refine jg ?_; (try intro F); (first | (apply Stp_call (h := fun w' hw _ => hof w' hw); rfl; rintro v O' ⟨A3, c3, rfl, rfl⟩) | (refine bx ?_; intro bk) | (refine stA ?_)); first | refine ⟨_, EndsA, QFRfS0, ?_⟩ | refine fin ?_) | (refine jn ?_; (try intro F); (first | (refine bx ?_; intro bk) | (refine stA ?_) | (apply Stp_pu; first | exact PuRfS0 | exact PuA)); first | refine ⟨_, EndsA, QFRfS0, ?_⟩ | refine fin ?_) | (apply RD_W; rfl; intro bk))
   exact rtC
  rw [if_neg hR] at hi
  have hb : decide ((R.length : Int) = 0) = false := decide_eq_false (fun h => hR (List.eq_nil_of_length_eq_zero (by omega)))
  obtain ⟨m, hm⟩ : ∃ m, memB x (a.shifts.take k) = m := ⟨_, rfl⟩
  rw [hm] at hi
  have htl : (a.shifts.take k).length = k := by rw [List.length_take]; omega
  have hgt : ∀ j, j < k → (a.shifts.take k)[j]? = a.shifts[j]? := fun j hj => by rw [List.getElem?_take, if_pos hj]
  generalize a.shifts.take k = L at *
  have hnb := hna
  have hcb := hca
  repeat (first | (apply RL_pu; rfl; exact PuRfS0) | (apply RD_Q; rfl; rfl; decide +kernel; rfl; rfl; exact QyRfS0) | refine walk1 ?_ | (refine jg ?_; (try intro F); (first | (apply Stp_call (h := fun w' hw _ => hof w' hw); rfl; rintro v O' ⟨A3, c3, rfl, rfl⟩) | (refine bx ?_; intro bk) | (refine stA ?_)); first | refine ⟨_, EndsA, QFRfS0, ?_⟩ | refine fin ?_) | (refine jn ?_; (try intro F); (first | (refine bx ?_; intro bk) | (refine stA ?_) | (apply Stp_pu; first | exact PuRfS0 | exact PuA)); first | refine ⟨_, EndsA, QFRfS0, ?_⟩ | refine fin ?_) | (apply RD_W; rfl; intro bk))
  generalize bk = b5
  refine W_loopF [(1, .pointer (some ⟨b1, 0, none⟩)), (2, .pointer (some ⟨b2, 0, none⟩)), (4, .int .i64 k), (5, .pointer (some ⟨b5, 0, none⟩)), (6, .slice A3 R.length c3)] [.blk b5 [.int .i64 4, .int .i64 k, .int .i64 0] 31, .row (.slice A3 R.length c3) 48 11 R.length (R.flatMap DRule.enc), .blk b2 [.int .i64 0, .int .i64 0, .int .i64 0] 31, .blk b1 [.slice Ar a.rules.length cr, .slice Az a.zones.length cz, .slice Al a.links.length cl, .slice As a.shifts.length cs] 27]
   (fun j : Nat => [(7, .int .i64 j)]) (fun _ => []) (fun j => j ≤ k ∧ memB x (L.drop j) = m) (fun j => k - j) 0 SFA SOA ⟨Nat.zero_le _, hm⟩ ?_
  clear hm
  rintro j ⟨hj, hmj⟩
  by_cases hjk : j < k
  ·have bj : decide ((j : Int) < (k : Int)) = true := decide_eq_true (by omega)
   clear hnb hcb
   obtain ⟨hnb, hcb⟩ := hA.s.rd j _ (List.getElem?_eq_getElem (show j < a.shifts.length by omega))
   have hg := hgt j hjk
   have hjl : j < L.length := by omega
   rw [List.getElem?_eq_getElem hjl, List.getElem?_eq_getElem (show j < a.shifts.length by omega)] at hg
   simp only [Option.some.injEq] at hg
   rw [drop_cons hjl, memB_cons, hg] at hmj
   generalize a.shifts[j] = y at *
   by_cases hyx : y = x
   ·have by1 : decide (y = x) = true := decide_eq_true hyx
    rw [by1, Bool.true_or] at hmj
    subst hmj
    rw [if_pos rfl] at hi
    subst hi
    simp only [ptV, plV, DPlace.enc]
    repeat (first | (apply RL_pu; rfl; exact PuRfS1) | (apply RD_Q; rfl; rfl; decide +kernel; rfl; rfl; exact QyRfS1) | refine walk1 ?_ | (refine jn ?_; (try intro F); (first | (refine bx ?_; intro bk) | (refine stA ?_) | (apply Stp_pu; first | exact PuRfS1 | exact PuA)); first | refine ⟨_, EndsA, QFRfS1, ?_⟩ | refine fin ?_) | (apply RD_W; rfl; intro bk))
    exact rtC
   ·have by1 : decide (y = x) = false := decide_eq_false hyx
    rw [by1, Bool.false_or] at hmj
    repeat (first | (apply RL_pu; rfl; exact PuRfS1) | (apply RD_Q; rfl; rfl; decide +kernel; rfl; rfl; exact QyRfS1) | refine walk1 ?_ | (refine jn ?_; (try intro F); (first | (refine bx ?_; intro bk) | (refine stA ?_) | (apply Stp_pu; first | exact PuRfS1 | exact PuA)); first | refine ⟨_, EndsA, QFRfS1, ?_⟩ | refine fin ?_) | (apply RD_W; rfl; intro bk))
    exact ⟨j + 1, OA, ⟨OA, hmj⟩, SFA, SOA⟩
  ·have bj : decide ((j : Int) < (k : Int)) = false := decide_eq_false (by omega)
   rw [List.drop_eq_nil_of_le (by omega)] at hmj
   rw [show memB x [] = false from rfl] at hmj
   subst hmj
   rw [if_neg (by decide)] at hi
   generalize leastD R = lt at *
   by_cases hl : lt = 0
   ·subst hl
    cases ob with
    | false =>
     rw [if_pos (.inr rfl)] at hi
     subst hi
     simp only [ptV, plV, DPlace.enc]
     repeat (first | refine wkRfS0 ?_ | (refine jg ?_; (try intro F); (refine bx ?_; intro bk); first | refine ⟨_, EndsA, QFRfS2, ?_⟩ | refine fin ?_) | (refine jn ?_; (try intro F); (refine bx ?_; intro bk); first | refine ⟨_, EndsA, QFRfS2, ?_⟩ | refine fin ?_) | (apply RD_W; rfl; intro bk))
     exact rtC
    | true =>
     rw [if_neg (by rintro (h | h); exact h rfl; cases h)] at hi
     repeat (first | refine wkRfS0 ?_ | (refine jg ?_; (try intro F); (refine bx ?_; intro bk); first | refine ⟨_, EndsA, QFRfS2, ?_⟩ | refine fin ?_) | (refine jn ?_; (try intro F); (refine bx ?_; intro bk); first | refine ⟨_, EndsA, QFRfS2, ?_⟩ | refine fin ?_) | (apply RD_W; rfl; intro bk))
     exact ⟨k + 1, OA, ⟨OA, hi⟩, SFA, SOA⟩
   ·rw [if_pos (.inl hl)] at hi
    subst hi
    have hb2 : (!decide (lt = 0)) = true := by rw [decide_eq_false hl]; rfl
    simp only [ptV, plV, DPlace.enc]
    repeat (first | refine und ?_ | (apply RL_pu; rfl; exact PuRfS3) | (apply RD_Q; rfl; rfl; decide +kernel; rfl; rfl; exact QyRfS3) | refine walk1 ?_ | (refine jg ?_; (try intro F); (first | (refine callO (fun w' hw hO => hot A3 c3 w' (rowRd DRule.len (hO.of (A := .row (.slice A3 R.length c3) 48 11 R.length (R.flatMap DRule.enc)) (by repeat' constructor)))) ?_) | (refine callO (fun w' hw hO => hle A3 c3 w' (rowRd DRule.len (hO.of (A := .row (.slice A3 R.length c3) 48 11 R.length (R.flatMap DRule.enc)) (by repeat' constructor)))) ?_) | (refine bx ?_; intro bk) | (refine stA ?_)); first | refine ⟨_, EndsA, QFRfS3, ?_⟩ | refine fin ?_) | (refine jn ?_; (try intro F); (first | (refine bx ?_; intro bk) | (refine stA ?_) | (apply Stp_pu; first | exact PuRfS3 | exact PuA)); first | refine ⟨_, EndsA, QFRfS3, ?_⟩ | refine fin ?_) | (apply RD_W; rfl; intro bk))
    exact rtC
 ·simp only [decide_eq_false_iff_not, Int.ofNat_lt] at hc
  rw [List.drop_eq_nil_of_le (by omega), shiftsGo] at hi
  subst hi
  repeat (first | refine walk ?_ | (refine jn ?_; (try intro F); (first | (refine bx ?_; intro bk) | (refine stA ?_) | (apply Stp_pu; exact PuA)); refine fin ?_) | (apply RD_W; rfl; intro bk))
  exact rtC
def RapS : Prop := ∀ (A : Option Addr) (c : Nat) (l : List DRule) (w : World), RdSl w A c DRule.enc 11 l → l.length ≤ 1000000 → (rsChk l).2 = 0 → Does Tryz.prog 57 [.slice A l.length c] w (fun v O => v = apV (apartD l) ∧ O = [])
theorem PuRfS4 {G : Prop} (h : G := by (first | (apply Pu_indexAddrH; rfl; rfl; omega; omega; (intro w' _ hO; exact (row_cell (hO.of (A := .row (.slice An N.length cn) 9 1 N.length (N.flatMap strEnc)) (by repeat' constructor)) hg1).1)) | (apply Pu_loadR; rfl; (focus repeat' constructor); exact hg1))) : G := h
theorem QyRfS4 {G : Prop} (h : G := by first | (apply Qy_y; rfl; exact PuRfS4) | exact QyA) : G := h
theorem QFRfS4 {G : Prop} (h : G := by repeat (first | exact QF.nil | (apply QF.mk; rfl; rfl; decide +kernel; exact QyRfS4))) : G := h
theorem PuRfS5 {G : Prop} (h : G := by (first | exact PuRfS4 | (apply Pu_neqB'; rfl; rfl; exact hb2))) : G := h
theorem QyRfS5 {G : Prop} (h : G := by first | (apply Qy_y; rfl; exact PuRfS5) | exact QyA) : G := h
theorem QFRfS5 {G : Prop} (h : G := by repeat (first | exact QF.nil | (apply QF.mk; rfl; rfl; decide +kernel; exact QyRfS5))) : G := h
set_option maxHeartbeats 2000000 in
theorem rsets_spec (Ar Az Al As : Option Addr) (cr cz cl cs : Nat) (a : DSource) (w : World) (hP : RapS) (hA : RdSource w Ar Az Al As cr cz cl cs a) (hS : SrcOk a) (hV : SavI a) :
  Does Tryz.prog 28 [srcV Ar Az Al As cr cz cl cs a] w (fun v O => v = ptV (setsD a) ∧ O = []) := by
 have hn := hS.nr
 have hnm := fun w' (hw : Bel w.heap.size w w') => rnames_spec Ar Az Al As cr cz cl cs a w' (hA.up hw) hn
 have hNm := namesB_mem a.rules []
 have hNl := namesB_len a.rules []
 unfold setsD
 generalize namesB a.rules [] = N at *
 simp only [List.length_nil, Nat.zero_add] at hNl
 obtain ⟨res, hres⟩ : ∃ res, setsGo a.rules N = res := ⟨_, rfl⟩
 rw [hres]
 refine Does_of_W Tryz.func28 rfl rfl rfl rfl ?_
 repeat (first | refine walk ?_ | (refine jg ?_; (try intro F); (first | (apply Stp_call (h := fun w' hw _ => hnm w' hw); rfl; rintro v O' ⟨An, cn, rfl, rfl⟩) | (refine bx ?_; intro bk) | (refine stA ?_)); refine fin ?_) | (refine jn ?_; (try intro F); (first | (refine bx ?_; intro bk) | (refine stA ?_) | (apply Stp_pu; exact PuA)); refine fin ?_) | (apply RD_W; rfl; intro bk))
 rename_i b1
 obtain ⟨b2, hb2⟩ : ∃ b2, bk = b2 := ⟨_, rfl⟩
 rw [hb2]
 clear hb2 bk
 refine W_loopF [(1, .pointer (some ⟨b1, 0, none⟩)), (2, .pointer (some ⟨b2, 0, none⟩)), (4, .slice An N.length cn)] [.row (.slice An N.length cn) 9 1 N.length (N.flatMap strEnc), .blk b2 [.int .i64 0, .int .i64 0, .int .i64 0] 31, .blk b1 [.slice Ar a.rules.length cr, .slice Az a.zones.length cz, .slice Al a.links.length cl, .slice As a.shifts.length cs] 27]
  (fun k : Nat => [(5, .int .i64 k)]) (fun _ => []) (fun k => k ≤ N.length ∧ setsGo a.rules (N.drop k) = res) (fun k => N.length - k) 0 SFA SOA ⟨Nat.zero_le _, hres⟩ ?_
 clear hnm hres
 rintro k ⟨hk, hi⟩
 repeat (first | refine walk ?_ | (refine jn ?_; (try intro F); (first | (refine bx ?_; intro bk) | (refine stA ?_) | (apply Stp_pu; exact PuA)); refine fin ?_) | (apply RD_W; rfl; intro bk))
 refine W_cond rfl (fun hc => ?_) (fun hc => ?_)
 ·simp only [decide_eq_true_eq, Int.ofNat_lt] at hc
  have hg1 : (N.flatMap strEnc)[k * 1]? = some (.string N[k]) := by
   have := flat_get (enc := strEnc) (fun _ => rfl) N k _ 0 (.string N[k]) (List.getElem?_eq_getElem hc) rfl
   simpa using this
  have hxm := hNm _ (List.getElem_mem hc)
  rw [drop_cons hc, setsGo] at hi
  generalize N[k] = x at *
  have hxs : x.size ≤ 1000000000 := by
   rcases hxm with h | ⟨r, hr, rfl⟩
   ·cases h
   ·exact (hS.rs r hr).1
  have hof := fun w' (hw : Bel w.heap.size w w') => of_spec Ar Az Al As cr cz cl cs a x w' (hA.up hw) hn
  have hset := fun w' => rSet_spec x (by omega) w'
  have hRs : ∀ r ∈ ofB a.rules x, r ∈ a.rules := fun r h => ofB_sub h
  have hRl := ofB_len a.rules x
  have hck := fun A3 c3 w' (hw : Bel w.heap.size w w') h => r16chk_spec A3 c3 (ofB a.rules x) w' h (by omega) (fun r hr => ⟨hV r (hRs r hr), by have := (hS.rs r (hRs r hr)).2; omega⟩)
  have hap := fun (hz : (rsChk (ofB a.rules x)).2 = 0) A3 c3 w' (hw : Bel w.heap.size w w') h => hP A3 c3 (ofB a.rules x) w' h (by omega) hz
  have hru0 := fun (i : Nat) (hi : i ≤ 1000000) w' (hw : Bel w.heap.size w w') => rrule25_spec Ar Az Al As cr cz cl cs a x i w' (hA.up hw) hn hi
  have hcl := rsChk_ok (ofB a.rules x)
  have har := apartD_rule (ofB a.rules x)
  unfold setFault at hi
  generalize ofB a.rules x = R at *
  cases hsb : setB x with
  | false =>
   rw [hsb] at hi hset
   rw [if_pos rfl] at hi
   dsimp only at hi
   have hru := hru0 0 (Nat.zero_le _)
   generalize ruleAt x a.rules 0 0 = pl at *
   obtain ⟨p1, p2, p3⟩ := pl
   simp only [plV, DPlace.enc] at hru
   subst hi
   simp only [ptV, plV, DPlace.enc]
   repeat (first | (apply RL_pu; rfl; exact PuRfS4) | (apply RD_Q; rfl; rfl; decide +kernel; rfl; rfl; exact QyRfS4) | refine walk1 ?_ | (refine jg ?_; (try intro F); (first | (apply Stp_call (h := fun w' hw _ => hof w' hw); rfl; rintro v O' ⟨A3, c3, rfl, rfl⟩) | (refine callE (fun w' _ => hset w') ?_) | (refine callE hru ?_) | (refine bx ?_; intro bk) | (refine stA ?_)); first | refine ⟨_, EndsA, QFRfS4, ?_⟩ | refine fin ?_) | (refine jn ?_; (try intro F); (first | (refine bx ?_; intro bk) | (refine stA ?_) | (apply Stp_pu; first | exact PuRfS4 | exact PuA)); first | refine ⟨_, EndsA, QFRfS4, ?_⟩ | refine fin ?_) | (apply RD_W; rfl; intro bk))
   exact rtC
  | true =>
   rw [hsb] at hi hset
   rw [if_neg (by decide)] at hi
   generalize rsChk R = rc at *
   obtain ⟨ci, ce⟩ := rc
   dsimp only at hi hck hcl hap
   by_cases hce : ce = 0
   ·subst hce
    replace hap := hap rfl
    rw [if_neg (fun h => h rfl)] at hi
    generalize apartD R = ap at *
    cases ap with
    | none =>
     simp only [apV, DEvent.enc, dEv0] at hap
     dsimp only at hi
     repeat (first | (apply RL_pu; rfl; exact PuRfS4) | (apply RD_Q; rfl; rfl; decide +kernel; rfl; rfl; exact QyRfS4) | refine walk1 ?_ | (refine jg ?_; (try intro F); (first | (apply Stp_call (h := fun w' hw _ => hof w' hw); rfl; rintro v O' ⟨A3, c3, rfl, rfl⟩) | (refine callE (fun w' _ => hset w') ?_) | (refine callO (fun w' hw hO => hck A3 c3 w' hw (rowRd DRule.len (hO.of (A := .row (.slice A3 R.length c3) 48 11 R.length (R.flatMap DRule.enc)) (by repeat' constructor)))) ?_) | (refine callO (fun w' hw hO => hap A3 c3 w' hw (rowRd DRule.len (hO.of (A := .row (.slice A3 R.length c3) 48 11 R.length (R.flatMap DRule.enc)) (by repeat' constructor)))) ?_) | (refine bx ?_; intro bk) | (refine stA ?_)); first | refine ⟨_, EndsA, QFRfS4, ?_⟩ | refine fin ?_) | (refine jn ?_; (try intro F); (first | (refine bx ?_; intro bk) | (refine stA ?_) | (apply Stp_pu; first | exact PuRfS4 | exact PuA)); first | refine ⟨_, EndsA, QFRfS4, ?_⟩ | refine fin ?_) | (apply RD_W; rfl; intro bk))
     exact ⟨k + 1, OA, ⟨OA, hi⟩, SFA, SOA⟩
    | some e =>
     obtain ⟨j, hj, hjl⟩ := har e rfl
     obtain ⟨ey, er, en⟩ := e
     dsimp only at hj
     subst hj
     simp only [apV, DEvent.enc] at hap
     simp only [Int.toNat_natCast] at hi
     have hru := hru0 j (by omega)
     generalize ruleAt x a.rules j 0 = pl at *
     obtain ⟨p1, p2, p3⟩ := pl
     simp only [plV, DPlace.enc] at hru
     subst hi
     simp only [ptV, plV, DPlace.enc]
     repeat (first | (apply RL_pu; rfl; exact PuRfS4) | (apply RD_Q; rfl; rfl; decide +kernel; rfl; rfl; exact QyRfS4) | refine walk1 ?_ | (refine jg ?_; (try intro F); (first | (apply Stp_call (h := fun w' hw _ => hof w' hw); rfl; rintro v O' ⟨A3, c3, rfl, rfl⟩) | (refine callE (fun w' _ => hset w') ?_) | (refine callO (fun w' hw hO => hck A3 c3 w' hw (rowRd DRule.len (hO.of (A := .row (.slice A3 R.length c3) 48 11 R.length (R.flatMap DRule.enc)) (by repeat' constructor)))) ?_) | (refine callO (fun w' hw hO => hap A3 c3 w' hw (rowRd DRule.len (hO.of (A := .row (.slice A3 R.length c3) 48 11 R.length (R.flatMap DRule.enc)) (by repeat' constructor)))) ?_) | (refine callE hru ?_) | (refine bx ?_; intro bk) | (refine stA ?_)); first | refine ⟨_, EndsA, QFRfS4, ?_⟩ | refine fin ?_) | (refine jn ?_; (try intro F); (first | (refine bx ?_; intro bk) | (refine stA ?_) | (apply Stp_pu; first | exact PuRfS4 | exact PuA)); first | refine ⟨_, EndsA, QFRfS4, ?_⟩ | refine fin ?_) | (apply RD_W; rfl; intro bk))
     exact rtC
   ·rw [if_pos hce] at hi
    dsimp only at hi
    have hb2 : (!decide (ce = 0)) = true := by rw [decide_eq_false hce]; rfl
    have hru := hru0 ci (by omega)
    generalize ruleAt x a.rules ci 0 = pl at *
    obtain ⟨p1, p2, p3⟩ := pl
    simp only [plV, DPlace.enc] at hru
    subst hi
    simp only [ptV, plV, DPlace.enc]
    repeat (first | (apply RL_pu; rfl; exact PuRfS5) | (apply RD_Q; rfl; rfl; decide +kernel; rfl; rfl; exact QyRfS5) | refine walk1 ?_ | (refine jg ?_; (try intro F); (first | (apply Stp_call (h := fun w' hw _ => hof w' hw); rfl; rintro v O' ⟨A3, c3, rfl, rfl⟩) | (refine callE (fun w' _ => hset w') ?_) | (refine callO (fun w' hw hO => hck A3 c3 w' hw (rowRd DRule.len (hO.of (A := .row (.slice A3 R.length c3) 48 11 R.length (R.flatMap DRule.enc)) (by repeat' constructor)))) ?_) | (refine callE hru ?_) | (refine bx ?_; intro bk) | (refine stA ?_)); first | refine ⟨_, EndsA, QFRfS5, ?_⟩ | refine fin ?_) | (refine jn ?_; (try intro F); (first | (refine bx ?_; intro bk) | (refine stA ?_) | (apply Stp_pu; first | exact PuRfS5 | exact PuA)); first | refine ⟨_, EndsA, QFRfS5, ?_⟩ | refine fin ?_) | (apply RD_W; rfl; intro bk))
    exact rtC
 ·simp only [decide_eq_false_iff_not, Int.ofNat_lt] at hc
  rw [List.drop_eq_nil_of_le (by omega), setsGo] at hi
  subst hi
  repeat (first | refine walk ?_ | (refine jn ?_; (try intro F); (first | (refine bx ?_; intro bk) | (refine stA ?_) | (apply Stp_pu; exact PuA)); refine fin ?_) | (apply RD_W; rfl; intro bk))
  exact rtC
end Go.Proofs.YtceekohkjgiabaaGreatDoor
