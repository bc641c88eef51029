/- Contract: ruleset.Check. Contracts: checked.Add, until.seconds, Check, Nominal. Contracts: events.last, On. Contracts: cmp.Compare, cmp.Or, events.order. Contracts: events.After$1. -/
import Derived.Test.YtonjepladadmhaaGreatDoorS12
import Derived.Test.YtonjepladadmhaaGreatDoorS08
set_option maxHeartbeats 4000000
set_option linter.unusedVariables false
set_option linter.unusedSimpArgs false
namespace Go.Proofs.YtonjepladadmhaaGreatDoor
open Go Go.RowKit Go.Wk
attribute [local irreducible] W RL Does thenQ blockQ retQ Calls Pu Stp RD Qy Ay DoesIn nameB posixB RW
def tailR (l : List DRule) : Nat × Int :=
 if (l.any fun r => decide (r.save = 0)) = false ∨ (leastD l < 0 ∧ (l.any fun r => !decide (r.save = 0) && !decide (r.save = leastD l)) = true) then (0, 14)
 else if lastB l = false then (0, 16)
 else (0, 0)
def outR (l : List DRule) : Option (Nat × Int) → Nat × Int
 | some x => x
 | none => tailR l
theorem rsChk_eq (l : List DRule) : rsChk l = outR l (firstBad (leastD l) l 0) := by
 unfold rsChk outR tailR
 cases firstBad (leastD l) l 0 <;> rfl
theorem ruleErr_eq (r : DRule) (least : Int) : ruleErr r least = if condB r least 0 = false then 3 else if condB r least 1 = false then 12 else if condB r least 2 = false then 3 else if condB r least 3 = false then 3 else if condB r least 4 = false then 14 else if condB r least 5 = false then 15 else 0 := by
 by_cases h : r.to < r.from_
 ·have e : condB r least 1 = false := decide_eq_false (by omega)
  rw [e, if_pos rfl, ruleErr, if_pos h]; rfl
 ·have e : condB r least 1 = true := decide_eq_true (by omega)
  rw [e, if_neg (show ¬ true = false by decide), ruleErr, if_neg h]; rfl
theorem leastD_go (l : List DRule) : ∀ m : Int, -4611686018427387904 ≤ m → m ≤ 4611686018427387904 → (∀ r ∈ l, -4611686018427387904 ≤ r.save ∧ r.save ≤ 4611686018427387904) → -4611686018427387904 ≤ l.foldl (fun m r => min m r.save) m ∧ l.foldl (fun m r => min m r.save) m ≤ 4611686018427387904 := by
 induction l with
 | nil => intro m h1 h2 _; exact ⟨h1, h2⟩
 | cons r l ih =>
  intro m h1 h2 h
  have hr := h r List.mem_cons_self
  exact ih (min m r.save) (by omega) (by omega) fun x hx => h x (List.mem_cons_of_mem _ hx)
theorem leastD_go64 (l : List DRule) : ∀ m : Int, -9223372036854775808 ≤ m → m ≤ 0 → (∀ r ∈ l, -9223372036854775808 ≤ r.save ∧ r.save ≤ 9223372036854775807) → -9223372036854775808 ≤ l.foldl (fun m r => min m r.save) m ∧ l.foldl (fun m r => min m r.save) m ≤ 0 := by
 induction l with
 | nil => intro m h1 h2 _; exact ⟨h1, h2⟩
 | cons r l ih =>
  intro m h1 h2 h
  have hr := h r List.mem_cons_self
  exact ih (min m r.save) (by omega) (by omega) fun x hx => h x (List.mem_cons_of_mem _ hx)
def condFn (j : Nat) : FuncId := if j = 0 then 299 else if j = 1 then 301 else if j = 2 then 302 else if j = 3 then 304 else if j = 4 then 306 else 307
def errN (j : Nat) : Int := if j = 0 then 3 else if j = 1 then 12 else if j = 2 then 3 else if j = 3 then 3 else if j = 4 then 14 else 15
def errFrom (b : Nat → Bool) : Nat → Int
 | 0 => 0
 | n + 1 => if b (5 - n) = false then errN (5 - n) else errFrom b n
theorem ruleErr_from (r : DRule) (least : Int) : ruleErr r least = errFrom (condB r least) 6 := ruleErr_eq r least
theorem cond_cells (j : Nat) (hj : j < 6) : (condCells.drop (((j : Int)).toNat * 2)).take 2 = [fnV (condFn j), .int .i64 (errN j)] := by
 have h : j = 0 ∨ j = 1 ∨ j = 2 ∨ j = 3 ∨ j = 4 ∨ j = 5 := by omega
 rcases h with rfl | rfl | rfl | rfl | rfl | rfl <;> rfl
theorem conds_spec (j : Nat) (hj : j < 6) (r : DRule) (least : Int) (w : World) (hG : Glob w) (hl : -9223372036854775808 ≤ least ∧ least ≤ 0) (hs : (r.letter.size : Int) ≤ 9223372036854775807) :
  Does Tryz.prog (condFn j) [.agg (DRule.enc r).toArray, .int .i64 least] w (fun v O => v = .bool (condB r least j) ∧ O = []) := by
 have h : j = 0 ∨ j = 1 ∨ j = 2 ∨ j = 3 ∨ j = 4 ∨ j = 5 := by omega
 rcases h with rfl | rfl | rfl | rfl | rfl | rfl
 ·exact cond1_spec r least w
 ·exact cond2_spec r least w
 ·exact cond3_spec r least w hG
 ·exact cond4_spec r least hl w
 ·exact cond5_spec r least w
 ·exact cond6_spec r least hs w
theorem condFn_body (j : Nat) : Body Tryz.prog (condFn j) := by
 unfold condFn
 split
 ·infer_instance
 split
 ·infer_instance
 split
 ·infer_instance
 split
 ·infer_instance
 split <;> infer_instance
theorem PuRsE0 {G : Prop} (h : G := by (first | exact PuI | (apply Pu_loadON; rfl; exact hG.con; rfl))) : G := h
theorem QyRsE0 {G : Prop} (h : G := by first | (apply Qy_y; rfl; exact PuRsE0) | exact QyA) : G := h
theorem QFRsE0 {G : Prop} (h : G := by repeat (first | exact QF.nil | (apply QF.mk; rfl; rfl; decide +kernel; exact QyRsE0))) : G := h
theorem PuRsE1 {G : Prop} (h : G := by (apply Pu_indexArrN; rfl; rfl; omega; omega; exact hcc)) : G := h
theorem QyRsE1 {G : Prop} (h : G := by first | (apply Qy_y; rfl; exact PuRsE1) | exact QyA) : G := h
theorem QFRsE1 {G : Prop} (h : G := by repeat (first | exact QF.nil | (apply QF.mk; rfl; rfl; decide +kernel; exact QyRsE1))) : G := h
theorem rscheck_spec (A : Option Addr) (c : Nat) (l : List DRule) (w : World) (hG : Glob w) (hA : RdSl w A c DRule.enc 11 l) (hn : l.length ≤ 1000000) (hR : ∀ r ∈ l, (-9223372036854775808 ≤ r.save ∧ r.save ≤ 9223372036854775807) ∧ (r.letter.size : Int) ≤ 9223372036854775807) :
  Does Tryz.prog 107 [.slice A l.length c] w (fun v O => v = .tuple #[.int .i64 (rsChk l).1, .int .i64 (rsChk l).2] ∧ O = []) := by
 have hls := leastD_go64 l 0 (by omega) (by omega) fun r hr => (hR r hr).1
 have hlast := fun w' (hw : Bel w.heap.size w w') => last_spec A c l w' (hA.up hw) hn
 have hany1 := fun w' (hw : Bel w.heap.size w w') => containsFn_spec A c l 158 [] [] (fun r => decide (r.save = 0)) w' (hA.up hw) fun r w2 _ => chk1_spec r w2
 have hany2 := fun (b : Nat) w' (hw : Bel w.heap.size w w') (hc : CellsAt w' ⟨b, 0, none⟩ [.int .i64 (leastD l)]) => containsFn_spec A c l 159 [] [.pointer (some ⟨b, 0, none⟩)] (fun r => !decide (r.save = 0) && !decide (r.save = leastD l)) w' (hA.up hw) fun r w2 h2 => chk2_spec r ⟨b, 0, none⟩ (leastD l) w2 ((hc.up h2 (Nat.le_refl _)) 0 _ rfl)
 have hlst := fun w' (hw : Bel w.heap.size w w') => least_spec A c l w' (hA.up hw)
 obtain ⟨res, hres⟩ : ∃ res, rsChk l = res := ⟨_, rfl⟩
 rw [hres]
 rw [rsChk_eq] at hres
 have htl : ∃ t, tailR l = t := ⟨_, rfl⟩
 change -9223372036854775808 ≤ leastD l ∧ leastD l ≤ 0 at hls
 refine Does_of_W Tryz.func107 rfl rfl rfl rfl ?_
 repeat (first | refine walk ?_ | (refine jg ?_; (try intro F); (first | (refine callE hlst ?_) | (refine bx ?_; intro bk) | (refine stA ?_)); refine fin ?_) | (refine jn ?_; (try intro F); (first | (refine bx ?_; intro bk) | (refine stA ?_) | (apply Stp_pu; exact PuA)); refine fin ?_) | (apply RD_W; rfl; intro bk))
 refine W_loopF [(0, .slice A l.length c), (4, .pointer (some ⟨bk, 0, none⟩)), (13, .slice A l.length c), (14, .int .i64 l.length)] [.blk bk [.int .i64 (leastD l)] 2] (fun k : Nat => [(15, .int .i64 k)]) (fun _ => []) (fun k => k ≤ l.length ∧ outR l (firstBad (leastD l) (l.drop k) k) = res) (fun k => l.length - k) 0 SFA SOA ⟨Nat.zero_le _, hres⟩ ?_
 rintro k ⟨hk, hi⟩
 repeat (first | refine walk ?_ | (refine jn ?_; (try intro F); (first | (refine bx ?_; intro bk) | (refine stA ?_) | (apply Stp_pu; exact PuA)); refine fin ?_) | (apply RD_W; rfl; intro bk))
 refine W_cond rfl (fun h => ?_) (fun h => ?_)
 ·have hlt : k < l.length := by simpa using h
  obtain ⟨hna, hca⟩ := hA.rd k _ (List.getElem?_eq_getElem hlt)
  have hRr := hR l[k] (List.getElem_mem hlt)
  rw [drop_cons hlt, firstBad, ruleErr_from] at hi
  generalize l[k] = r at *
  have hcs := fun j (hj : j < 6) w' (hw : Bel w.heap.size w w') => conds_spec j hj r (leastD l) w' (hG.up hw) hls hRr.2
  generalize condB r (leastD l) = bb at *
  obtain ⟨nm, fr, to, mo, ⟨dk, dw, dd⟩, ⟨cs, cb⟩, sv, le⟩ := r
  simp only [DRule.enc] at hca hcs
  obtain ⟨b4, hb4⟩ : ∃ b4, bk = b4 := ⟨_, rfl⟩
  rw [hb4] at *
  clear hb4 bk
  repeat (first | (apply RL_pu; rfl; exact PuRsE0) | (apply RD_Q; rfl; rfl; decide +kernel; rfl; rfl; exact QyRsE0) | refine walk1 ?_ | (refine jn ?_; (try intro F); (first | (refine bx ?_; intro bk) | (refine stA ?_) | (apply Stp_pu; first | exact PuRsE0 | exact PuA)); first | refine ⟨_, EndsA, QFRsE0, ?_⟩ | refine fin ?_) | (apply RD_W; rfl; intro bk))
  refine W_loopF [(20, .agg condCells.toArray), (6, .pointer (some ⟨bk, 0, none⟩)), (5, .int .i64 k), (15, .int .i64 k), (0, .slice A l.length c), (4, .pointer (some ⟨b4, 0, none⟩)), (13, .slice A l.length c), (14, .int .i64 l.length)] [.blk bk [.string nm, .int .i64 fr, .int .i64 to, .int .i64 mo, .int .i64 dk, .int .i64 dw, .int .i64 dd, .int .i64 cs, .int .i64 cb, .int .i64 sv, .string le] 27, .blk b4 [.int .i64 (leastD l)] 2] (fun j : Nat => [(21, .int .i64 j)]) (fun _ => []) (fun j => j ≤ 6 ∧ errFrom bb (6 - j) = errFrom bb 6) (fun j => 6 - j) 0 SFA SOA ⟨Nat.zero_le _, rfl⟩ ?_
  rintro j ⟨hj, he⟩
  repeat (first | refine walk ?_ | (refine jn ?_; (try intro F); (first | (refine bx ?_; intro bk) | (refine stA ?_) | (apply Stp_pu; exact PuA)); refine fin ?_) | (apply RD_W; rfl; intro bk))
  refine W_cond rfl (fun h2 => ?_) (fun h2 => ?_)
  ·have hj6 : j < 6 := by have := of_decide_eq_true h2; omega
   have hcj := hcs j hj6
   have hcc := cond_cells j hj6
   haveI := condFn_body j
   rw [show 6 - j = (5 - j) + 1 by omega, errFrom, show 5 - (5 - j) = j by omega] at he
   have hne : errN j ≠ 0 := by
    unfold errN
    repeat' split
    all_goals decide
   generalize condFn j = cf at *
   generalize bb j = bj at *
   generalize errN j = ej at *
   repeat (first | (apply RL_pu; rfl; exact PuRsE1) | (apply RD_Q; rfl; rfl; decide +kernel; rfl; rfl; exact QyRsE1) | refine walk1 ?_ | (refine jg ?_; (try intro F); (first | (apply Stp_callV (f := cf) (us := []) (cs := []) (vs := [.agg #[.string nm, .int .i64 fr, .int .i64 to, .int .i64 mo, .int .i64 dk, .int .i64 dw, .int .i64 dd, .int .i64 cs, .int .i64 cb, .int .i64 sv, .string le], .int .i64 (leastD l)]) (h := fun w' hw _ => hcj w' hw); rfl; rfl; rintro v O' ⟨rfl, rfl⟩) | (refine bx ?_; intro bk) | (refine stA ?_)); first | refine ⟨_, EndsA, QFRsE1, ?_⟩ | refine fin ?_) | (refine jn ?_; (try intro F); (first | (refine bx ?_; intro bk) | (refine stA ?_) | (apply Stp_pu; first | exact PuRsE1 | exact PuA)); first | refine ⟨_, EndsA, QFRsE1, ?_⟩ | refine fin ?_) | (apply RD_W; rfl; intro bk))
   refine W_cond rfl (fun h3 => ?_) (fun h3 => ?_)
   ·have hb : bj = false := by simpa using h3
    rw [if_pos hb] at he
    rw [← he, if_neg hne] at hi
    repeat (first | refine walk ?_ | (refine jn ?_; (try intro F); (first | (refine bx ?_; intro bk) | (refine stA ?_) | (apply Stp_pu; exact PuA)); refine fin ?_) | (apply RD_W; rfl; intro bk))
    exact ret_2 _ _ [] (.tmp rfl) (.tmp rfl) .nil ⟨by rw [← hi]; rfl, rfl⟩
   ·have hb : bj = true := by simpa using h3
    rw [if_neg (by rw [hb]; decide)] at he
    repeat (first | refine walk ?_ | (refine jn ?_; (try intro F); (first | (refine bx ?_; intro bk) | (refine stA ?_) | (apply Stp_pu; exact PuA)); refine fin ?_) | (apply RD_W; rfl; intro bk))
    exact ⟨j + 1, OA, ⟨OA, by rw [show 6 - (j + 1) = 5 - j by omega]; exact he⟩, SFA, SOA⟩
  ·have hj6 : j = 6 := by have := of_decide_eq_false h2; omega
   subst hj6
   rw [show errFrom bb (6 - 6) = 0 from rfl] at he
   rw [← he, if_pos rfl] at hi
   repeat (first | refine walk ?_ | (refine jn ?_; (try intro F); (first | (refine bx ?_; intro bk) | (refine stA ?_) | (apply Stp_pu; exact PuA)); refine fin ?_) | (apply RD_W; rfl; intro bk))
   exact ⟨k + 1, OA, ⟨OA, hi⟩, SFA, SOA⟩
 ·have hkl : k = l.length := by
   have := of_decide_eq_false h
   omega
  subst hkl
  rw [List.drop_length, firstBad, outR, tailR] at hi
  generalize l.any (fun r => decide (r.save = 0)) = a1 at *
  generalize l.any (fun r => !decide (r.save = 0) && !decide (r.save = leastD l)) = a2 at *
  generalize lastB l = a3 at *
  have hany3 := hany2 bk
  clear hany2 hlst
  repeat' (first | (refine js ?_; (first | (refine callE hany1 ?_) | (apply Stp_call (h := fun w' hw hH => hany3 w' hw (hH.cells (by repeat' constructor))); rfl; rintro v O' ⟨rfl, rfl⟩) | (refine callE hlast ?_) | (refine bx ?_; intro bk))) | refine walk ?_ | (refine RD_G0w ?_; intro F; (first | (refine callE hany1 ?_) | (apply Stp_call (h := fun w' hw hH => hany3 w' hw (hH.cells (by repeat' constructor))); rfl; rintro v O' ⟨rfl, rfl⟩) | (refine callE hlast ?_)); refine ⟨_, EndsA, SubO.right _ _, ?_⟩) | (refine RD_Lw ?_; intro F; (first | (refine callE hany1 ?_) | (apply Stp_call (h := fun w' hw hH => hany3 w' hw (hH.cells (by repeat' constructor))); rfl; rintro v O' ⟨rfl, rfl⟩) | (refine callE hlast ?_) | (refine bx ?_; intro bk) | (refine stA ?_) | (apply Stp_pu; exact PuA)); refine ⟨_, EndsA, QFA, ?_⟩) | (apply RD_W; rfl; intro bk) | refine und ?_ | (refine RL_gsplit rfl rfl rfl (fun hc => ?_) (fun hc => ?_)) | (refine RD_gsplit rfl rfl rfl (fun hc => ?_) (fun hc => ?_)) | (refine W_cond rfl (fun hc => ?_) (fun hc => ?_)))
  all_goals clear hany1 hany3 hlast hG hA hR
  all_goals subst hi
  all_goals try (have h0 : ¬ leastD l < 0 := of_decide_eq_false (by assumption); simp only [h0, false_and, or_false])
  all_goals exact clo2
end Go.Proofs.YtonjepladadmhaaGreatDoor
namespace Go.Proofs.YtonjepladadmhaaGreatDoor
open Go Go.RowKit Go.Wk
attribute [local irreducible] W RL Does thenQ blockQ retQ Calls Pu Stp RD Qy Ay DoesIn
theorem PuUntil0 {G : Prop} (h : G := by (apply Pu_mul; rfl; rfl; (constructor <;> omega))) : G := h
theorem add_spec (a b : Int) (h : -9223372036854775808 ≤ a + b ∧ a + b ≤ 9223372036854775807) (w : World) : Does Tryz.prog 135 [.int .i64 a, .int .i64 b] w (fun v O => v = .tuple #[.int .i64 (a + b), .bool true] ∧ O = []) := by
 have hd : ¬ ((!(decide (a < a + b) == decide (0 < b))) = true) := by
  rw [show decide (a < a + b) = decide (0 < b) from by rw [Bool.eq_iff_iff]; simp only [decide_eq_true_eq]; omega]
  simp
 refine Does_of_W Tryz.func135 rfl rfl rfl rfl ?_
 repeat' (first | (apply RL_pu; rfl; exact PuUntil0) | refine walk1 ?_ | refine und ?_ | (refine RL_gsplit rfl rfl rfl (fun hc => ?_) (fun hc => ?_)) | (refine RD_gsplit rfl rfl rfl (fun hc => ?_) (fun hc => ?_)) | (refine W_cond rfl (fun hc => ?_) (fun hc => ?_)))
 all_goals first | (exfalso; simp_all; done) | exact rtB | skip
theorem onD_bd (y m : Int) (d : DDay) : -2000000000000 ≤ (onD y m d).1 ∧ (onD y m d).1 ≤ 2000000000000 := by
 unfold onD
 split
 ·exact ⟨by decide, by decide⟩
 ·rename_i h1
  split
  ·exact ⟨by decide, by decide⟩
  ·rename_i h2
   split
   ·exact ⟨by decide, by decide⟩
   ·simp only [Bool.not_eq_false] at h1 h2
    have hb := dayNo_bd h1
    have hl := lenM_bd y m
    have hd := dayChk_bd h2
    simp only [findD, behindW, beforeW]
    repeat' split
    all_goals omega
theorem seconds_spec (u : DUntil) (hc : -604799 ≤ u.at_.sec ∧ u.at_.sec ≤ 604799) (w : World) (hG : Glob w) : Does Tryz.prog 128 [.agg (DUntil.enc u).toArray] w (fun v O => v = .int .i64 (86400 * (onD u.year u.month u.day).1 + u.at_.sec) ∧ O = []) := by
 have ho := fun w' (hw : Bel w.heap.size w w') => on_spec u.year u.month u.day w' (hG.up hw)
 have hb := onD_bd u.year u.month u.day
 generalize onD u.year u.month u.day = x at *
 obtain ⟨x1, x2⟩ := x
 obtain ⟨is, yr, mo, ⟨dk, dw, dd⟩, ⟨cs, cb⟩⟩ := u
 simp only at *
 show Does _ _ [.agg #[.bool is, .int .i64 yr, .int .i64 mo, .int .i64 dk, .int .i64 dw, .int .i64 dd, .int .i64 cs, .int .i64 cb]] w _
 refine Does_of_W Tryz.func128 rfl rfl rfl rfl ?_
 repeat' (first | (apply RL_pu; rfl; exact PuUntil0) | (refine js ?_; (first | (refine callE ho ?_) | (refine bx ?_; intro bk))) | refine walk1 ?_ | (refine W_cond rfl (fun hc => ?_) (fun hc => ?_)))
 all_goals exact clo1
theorem PuUntil1 {G : Prop} (h : G := by (apply Pu_add; rfl; rfl; (constructor <;> (simp only [decide_eq_false_iff_not, decide_eq_true_eq] at *; omega)))) : G := h
theorem ucheck_spec (u : DUntil) (least : Int) (w : World) (hG : Glob w) : Does Tryz.prog 172 [.agg (DUntil.enc u).toArray, .int .i64 least] w (fun v O => v = .int .i64 (untilChk u least) ∧ O = []) := by
 have ho := fun w' (hw : Bel w.heap.size w w') => on_spec u.year u.month u.day w' (hG.up hw)
 have hcc := ccheck_spec u.at_
 have hcb : clkChk u.at_ = true → -604799 ≤ u.at_.sec ∧ u.at_.sec ≤ 604799 := fun hc => by
  simp only [clkChk, Bool.and_eq_true, decide_eq_true_eq] at hc
  omega
 unfold untilChk
 generalize onD u.year u.month u.day = x at *
 generalize clkChk u.at_ = y at *
 obtain ⟨x1, x2⟩ := x
 obtain ⟨is, yr, mo, ⟨dk, dw, dd⟩, ⟨cs, cb⟩⟩ := u
 simp only at *
 cases y
 ·clear hcb
  show Does _ _ [.agg #[.bool is, .int .i64 yr, .int .i64 mo, .int .i64 dk, .int .i64 dw, .int .i64 dd, .int .i64 cs, .int .i64 cb], .int .i64 least] w _
  refine Does_of_W Tryz.func172 rfl rfl rfl rfl ?_
  repeat' (first | (apply RL_pu; rfl; exact PuUntil1) | (refine js ?_; (first | (refine callE (fun w' hw => hcc w') ?_) | (refine bx ?_; intro bk))) | refine walk1 ?_ | refine und ?_ | (refine RL_gsplit rfl rfl rfl (fun hc => ?_) (fun hc => ?_)) | (refine RD_gsplit rfl rfl rfl (fun hc => ?_) (fun hc => ?_)) | (refine W_cond rfl (fun hc => ?_) (fun hc => ?_)))
  all_goals clear ho hcc hG
  all_goals exact clo1
 ·have hb := hcb rfl
  clear hcb
  show Does _ _ [.agg #[.bool is, .int .i64 yr, .int .i64 mo, .int .i64 dk, .int .i64 dw, .int .i64 dd, .int .i64 cs, .int .i64 cb], .int .i64 least] w _
  refine Does_of_W Tryz.func172 rfl rfl rfl rfl ?_
  repeat' (first | (apply RL_pu; rfl; exact PuUntil1) | (refine js ?_; (first | (refine callE (fun w' hw => hcc w') ?_) | (refine callE ho ?_) | (refine bx ?_; intro bk))) | refine walk1 ?_ | refine und ?_ | (refine RL_gsplit rfl rfl rfl (fun hc => ?_) (fun hc => ?_)) | (refine RD_gsplit rfl rfl rfl (fun hc => ?_) (fun hc => ?_)) | (refine W_cond rfl (fun hc => ?_) (fun hc => ?_)))
  all_goals clear ho hcc hG
  all_goals exact clo1
theorem untilChk_ok {u : DUntil} {least : Int} (h : untilChk u least = 0) : (-10800 ≤ least ∧ least ≤ 0) ∧ -604799 ≤ u.at_.sec ∧ u.at_.sec ≤ 604799 := by
 unfold untilChk at h
 split at h
 ·cases h
 split at h
 ·cases h
 split at h
 ·cases h
 ·rename_i h1 _ h2
  have hc : clkChk u.at_ = true := by
   cases hc : clkChk u.at_
   ·exact absurd (.inr (.inr hc)) h2
   ·rfl
  simp only [clkChk, Bool.and_eq_true, decide_eq_true_eq] at hc
  omega
theorem nominal_spec (u : DUntil) (least : Int) (w : World) (hG : Glob w) : Does Tryz.prog 125 [.agg (DUntil.enc u).toArray, .int .i64 least] w (fun v O => v = .tuple #[.int .i64 (nominalU u least).1, .int .i64 (nominalU u least).2] ∧ O = []) := by
 have hcu := fun w' (hw : Bel w.heap.size w w') => ucheck_spec u least w' (hG.up hw)
 unfold nominalU
 by_cases he : untilChk u least = 0
 ·obtain ⟨hl, hc⟩ := untilChk_ok he
  have hs := fun w' (hw : Bel w.heap.size w w') => seconds_spec u hc w' (hG.up hw)
  have hb := onD_bd u.year u.month u.day
  rw [if_neg (by simpa using he)]
  rw [he] at hcu
  generalize onD u.year u.month u.day = x at *
  obtain ⟨x1, x2⟩ := x
  clear he
  obtain ⟨is, yr, mo, ⟨dk, dw, dd⟩, ⟨cs, cb⟩⟩ := u
  simp only at *
  show Does _ _ [.agg #[.bool is, .int .i64 yr, .int .i64 mo, .int .i64 dk, .int .i64 dw, .int .i64 dd, .int .i64 cs, .int .i64 cb], .int .i64 least] w _
  refine Does_of_W Tryz.func125 rfl rfl rfl rfl ?_
  repeat' (first | (apply RL_pu; rfl; exact PuUntil1) | (refine js ?_; (first | (refine callE hcu ?_) | (refine callE hs ?_) | (refine bx ?_; intro bk))) | refine walk1 ?_ | (refine W_cond rfl (fun hc => ?_) (fun hc => ?_)))
  all_goals clear hs hcu hG
  all_goals exact clo2
 ·rw [if_pos he]
  generalize untilChk u least = x at *
  obtain ⟨is, yr, mo, ⟨dk, dw, dd⟩, ⟨cs, cb⟩⟩ := u
  simp only at *
  show Does _ _ [.agg #[.bool is, .int .i64 yr, .int .i64 mo, .int .i64 dk, .int .i64 dw, .int .i64 dd, .int .i64 cs, .int .i64 cb], .int .i64 least] w _
  refine Does_of_W Tryz.func125 rfl rfl rfl rfl ?_
  repeat (first | (apply RL_pu; rfl; exact PuUntil1) | (refine js ?_; (first | (refine callE hcu ?_) | (refine bx ?_; intro bk))) | refine walkB1 ?_)
  refine W_cond rfl (fun h1 => ?_) (fun h1 => ?_)
  ·repeat (first | (refine js ?_; (refine bx ?_; intro bk)) | refine walk ?_)
   exact rtB
  ·exact absurd (by simpa using h1) he
end Go.Proofs.YtonjepladadmhaaGreatDoor
namespace Go.Wk
open Go Go.RowKit
section
variable {P : Program} {n : Nat} {wr : World} {fr : Fr} {O : List It} {ty : TypeId}
theorem Pu_maxK {x y : Operand} {ts : Array TypeId} {k : IntKind} {i j q : Int} (hx : ev fr x = some (.int k i)) (hy : ev fr y = some (.int k j)) (hq : (if i < j then j else i) = q) : Pu P n wr fr O (.call ⟨.builtin .max, #[x, y], ts⟩) ty (.int k q) := by
 rw [← hq]
 exact Pu_maxJ hx hy
theorem Pu_minK {x y : Operand} {ts : Array TypeId} {k : IntKind} {i j q : Int} (hx : ev fr x = some (.int k i)) (hy : ev fr y = some (.int k j)) (hq : (if j < i then j else i) = q) : Pu P n wr fr O (.call ⟨.builtin .min, #[x, y], ts⟩) ty (.int k q) := by
 rw [← hq]
 exact Pu_minI hx hy
end
end Go.Wk
namespace Go.Proofs.YtonjepladadmhaaGreatDoor
open Go Go.RowKit Go.Wk
attribute [local irreducible] W RL Does thenQ blockQ retQ Calls Pu Stp RD Qy Ay DoesIn
theorem lastY_spec (r : DRule) (w : World) : Does Tryz.prog 65 [.agg (DRule.enc r).toArray] w (fun v O => v = .int .i64 (lastY r) ∧ O = []) := by
 unfold lastY
 obtain ⟨nm, fr, to, mo, ⟨dk, dw, dd⟩, ⟨cs, cb⟩, sv, le⟩ := r
 simp only at *
 show Does _ _ [.agg #[.string nm, .int .i64 fr, .int .i64 to, .int .i64 mo, .int .i64 dk, .int .i64 dw, .int .i64 dd, .int .i64 cs, .int .i64 cb, .int .i64 sv, .string le]] w _
 refine Does_of_W Tryz.func65 rfl rfl rfl rfl ?_
 rw [show min to 2000000000 = if 2000000000 < to then 2000000000 else to by split <;> omega]
 repeat' (first | (apply RL_pu; rfl; (apply Pu_minI; rfl; rfl)) | (refine js ?_; (refine bx ?_; intro bk)) | refine walk1 ?_ | (refine W_cond rfl (fun hc => ?_) (fun hc => ?_)))
 all_goals exact clo1
def evV : Option DEvent → Value
 | some e => .agg (DEvent.enc e).toArray
 | none => .agg (DEvent.enc dEv0).toArray
theorem leastD_le (l : List DRule) (h : ∀ r ∈ l, -4611686018427387904 ≤ r.save ∧ r.save ≤ 4611686018427387904) : -4611686018427387904 ≤ leastD l ∧ leastD l ≤ 0 := by
 have h1 := leastD_go l 0 (by omega) (by omega) h
 refine ⟨h1.1, ?_⟩
 have : ∀ (l : List DRule) (m : Int), l.foldl (fun m r => min m r.save) m ≤ m := fun l => by
  induction l with
  | nil => intro m; exact Int.le_refl _
  | cons r l ih => intro m; have := ih (min m r.save); simp only [List.foldl_cons]; omega
 exact this l 0
theorem PuEv1 {G : Prop} (h : G := by (first | exact PuI | (apply Pu_add; rfl; rfl; (constructor <;> omega)) | (apply Pu_mul; rfl; rfl; (constructor <;> omega)) | (apply Pu_add; rfl; rfl; (constructor <;> (simp only [decide_eq_false_iff_not, decide_eq_true_eq] at *; omega))) | (apply Pu_maxK; rfl; rfl; exact hmx) | (apply Pu_maxJ; rfl; rfl))) : G := h
theorem evOn_spec (A : Option Addr) (c : Nat) (l : List DRule) (i : Nat) (y : Int) (r : DRule) (w : World) (hG : Glob w) (hA : RdSl w A c DRule.enc 11 l) (hi : l[i]? = some r) (hn : l.length ≤ 1000000) (hR : ∀ r ∈ l, -4611686018427387904 ≤ r.save ∧ r.save ≤ 4611686018427387904) :
  Does Tryz.prog 26 [.slice A l.length c, .int .i64 i, .int .i64 y] w (fun v O => v = .tuple #[evV (onR (leastD l) r i y), .bool (onR (leastD l) r i y).isSome] ∧ O = []) := by
 have hlt : i < l.length := (List.getElem?_eq_some_iff.1 hi).1
 have hls := leastD_le l hR
 have hlst := fun w' (hw : Bel w.heap.size w w') => least_spec A c l w' (hA.up hw)
 have hlast := lastY_spec r
 have hcc := ccheck_spec r.at_
 have hcb : clkChk r.at_ = true → -604799 ≤ r.at_.sec ∧ r.at_.sec ≤ 604799 := fun hc => by
  simp only [clkChk, Bool.and_eq_true, decide_eq_true_eq] at hc
  omega
 have ho := fun w' (hw : Bel w.heap.size w w') => on_spec y r.month r.day w' (hG.up hw)
 have hob := onD_bd y r.month r.day
 obtain ⟨hna, hca⟩ := hA.rd i _ hi
 obtain ⟨res, hres⟩ : ∃ res, onR (leastD l) r i y = res := ⟨_, rfl⟩
 rw [hres]
 unfold onR at hres
 clear hi hR
 generalize leastD l = least at *
 generalize lastY r = ly at *
 generalize onD y r.month r.day = x at *
 generalize clkChk r.at_ = z at *
 obtain ⟨x1, x2⟩ := x
 obtain ⟨nm, fr, to, mo, ⟨dk, dw, dd⟩, ⟨cs, cb⟩, sv, le⟩ := r
 simp only [DRule.enc] at *
 rw [show max fr (-2000000000) = if fr < -2000000000 then -2000000000 else fr by split <;> omega] at hres
 rw [show max least (-10800) = if least < -10800 then -10800 else least by split <;> omega] at hres
 have hmb : -10800 ≤ (if least < -10800 then (-10800 : Int) else least) ∧ (if least < -10800 then (-10800 : Int) else least) ≤ 0 := by split <;> omega
 obtain ⟨mx, hmx⟩ : ∃ mx, (if least < -10800 then (-10800 : Int) else least) = mx := ⟨_, rfl⟩
 rw [hmx] at hres hmb
 cases z
 ·clear hcb ho hob
  obtain rfl : none = res := by rw [← hres, if_pos (by simp)]
  clear hres
  refine Does_of_W Tryz.func26 rfl rfl rfl rfl ?_
  repeat' (first | (apply RL_pu; rfl; exact PuEv1) | (refine js ?_; (first | (refine callE hlst ?_) | (refine callE (fun w' hw => hlast w') ?_) | (refine callE (fun w' hw => hcc w') ?_) | (refine callE ho ?_) | (refine bx ?_; intro bk))) | refine walk1 ?_ | refine und ?_ | (refine RL_gsplit rfl rfl rfl (fun hc => ?_) (fun hc => ?_)) | (refine RD_gsplit rfl rfl rfl (fun hc => ?_) (fun hc => ?_)) | (refine W_cond rfl (fun hc => ?_) (fun hc => ?_)))
  ·exact absurd (of_decide_eq_true hc) (by omega)
  all_goals first | exact rtC | (exfalso; simp_all; done)
 ·have hb := hcb rfl
  clear hcb
  refine Does_of_W Tryz.func26 rfl rfl rfl rfl ?_
  repeat' (first | (apply RL_pu; rfl; exact PuEv1) | (refine js ?_; (first | (refine callE hlst ?_) | (refine callE (fun w' hw => hlast w') ?_) | (refine callE (fun w' hw => hcc w') ?_) | (refine callE ho ?_) | (refine bx ?_; intro bk))) | refine walk1 ?_ | refine und ?_ | (refine RL_gsplit rfl rfl rfl (fun hc => ?_) (fun hc => ?_)) | (refine RD_gsplit rfl rfl rfl (fun hc => ?_) (fun hc => ?_)) | (refine W_cond rfl (fun hc => ?_) (fun hc => ?_)))
  ·exact absurd (of_decide_eq_true hc) (by omega)
  ·have h := of_decide_eq_true hc
   obtain rfl : none = res := by rw [← hres, if_pos (.inl h)]
   exact rtC
  ·have h := of_decide_eq_true hc
   obtain rfl : none = res := by rw [← hres, if_pos (.inr (.inl h))]
   exact rtC
  ·have hx : ¬ x2 = 0 := by simpa using hc
   obtain rfl : none = res := by rw [← hres, if_neg (fun h => h.elim (fun h => absurd h (of_decide_eq_false (by assumption))) (fun h => h.elim (fun h => absurd h (of_decide_eq_false (by assumption))) (fun h => by cases h))), if_pos hx]
   exact rtC
  ·rename_i hx2
   have hx : ¬ ¬ x2 = 0 := by simpa using hx2
   obtain rfl : some ⟨y, (i : Int), 86400 * x1 + cs + mx⟩ = res := by rw [← hres, if_neg (fun h => h.elim (fun h => absurd h (of_decide_eq_false (by assumption))) (fun h => h.elim (fun h => absurd h (of_decide_eq_false (by assumption))) (fun h => by cases h))), if_neg hx, if_pos (of_decide_eq_true hc)]
   exact rtC
  ·rename_i hx2
   have hx : ¬ ¬ x2 = 0 := by simpa using hx2
   obtain rfl : some ⟨y, (i : Int), 86400 * x1 + cs⟩ = res := by rw [← hres, if_neg (fun h => h.elim (fun h => absurd h (of_decide_eq_false (by assumption))) (fun h => h.elim (fun h => absurd h (of_decide_eq_false (by assumption))) (fun h => by cases h))), if_neg hx, if_neg (of_decide_eq_false hc), Int.add_zero]
   exact rtC
end Go.Proofs.YtonjepladadmhaaGreatDoor
namespace Go.Wk
open Go Go.RowKit
def cmpI (a b : Int) : Int := if a < b then -1 else if b < a then 1 else 0
def iEnc (i : Int) : List Value := [.int .i64 i]
def firstNz : List Int → Int
 | [] => 0
 | x :: l => if x = 0 then firstNz l else x
theorem ordE_eq (a b : DEvent) : ordE a b = firstNz [cmpI a.nominal b.nominal, cmpI a.rule b.rule, cmpI a.year b.year] := by
 unfold ordE cmpI firstNz firstNz firstNz firstNz
 repeat' split
 all_goals omega
end Go.Wk
namespace Go.Proofs.YtonjepladadmhaaGreatDoor
open Go Go.RowKit Go.Wk
attribute [local irreducible] W RL Does thenQ blockQ retQ Calls Pu Stp RD Qy Ay DoesIn
theorem nan64_spec (a : Int) (w : World) : Does Tryz.prog 155 [.int .i64 a] w (fun v O => v = .bool false ∧ O = []) := by
 refine Does_of_W Tryz.func155 rfl rfl rfl rfl ?_
 repeat (first | refine walk ?_)
 exact ret_1 _ [] (.tmp rfl) .nil ⟨by simp, rfl⟩
theorem nanI_spec (a : Int) (w : World) : Does Tryz.prog 156 [.int .i64 a] w (fun v O => v = .bool false ∧ O = []) := by
 refine Does_of_W Tryz.func156 rfl rfl rfl rfl ?_
 repeat (first | refine walk ?_)
 exact ret_1 _ [] (.tmp rfl) .nil ⟨by simp, rfl⟩
theorem cmp64_spec (a b : Int) (w : World) : Does Tryz.prog 101 [.int .i64 a, .int .i64 b] w (fun v O => v = .int .i64 (cmpI a b) ∧ O = []) := by
 refine Does_of_W Tryz.func101 rfl rfl rfl rfl ?_
 repeat' (first | (refine js ?_; (first | (refine callE (fun w' _ => nan64_spec a w') ?_) | (refine callE (fun w' _ => nan64_spec b w') ?_))) | refine walk ?_ | (refine W_cond rfl (fun hc => ?_) (fun hc => ?_)))
 all_goals first | (refine ret_1 _ [] (.tmp rfl) .nil ⟨?_, rfl⟩; first | rfl | (simp only [*, Bool.true_and, Bool.false_and, Bool.true_or, Bool.false_or, Bool.not_true, Bool.not_false]; done) | (simp_all [cmpI]; done) | (simp_all [cmpI]; omega) | (simp_all [cmpI]; rw [Bool.eq_iff_iff]; simp; omega)) | (exfalso; simp_all [cmpI]; done) | (exfalso; simp_all [cmpI]; omega) | (exfalso; omega)
theorem cmpN_spec (a b : Int) (w : World) : Does Tryz.prog 102 [.int .i64 a, .int .i64 b] w (fun v O => v = .int .i64 (cmpI a b) ∧ O = []) := by
 refine Does_of_W Tryz.func102 rfl rfl rfl rfl ?_
 repeat' (first | (refine js ?_; (first | (refine callE (fun w' _ => nanI_spec a w') ?_) | (refine callE (fun w' _ => nanI_spec b w') ?_))) | refine walk ?_ | (refine W_cond rfl (fun hc => ?_) (fun hc => ?_)))
 all_goals first | (refine ret_1 _ [] (.tmp rfl) .nil ⟨?_, rfl⟩; first | rfl | (simp only [*, Bool.true_and, Bool.false_and, Bool.true_or, Bool.false_or, Bool.not_true, Bool.not_false]; done) | (simp_all [cmpI]; done) | (simp_all [cmpI]; omega) | (simp_all [cmpI]; rw [Bool.eq_iff_iff]; simp; omega)) | (exfalso; simp_all [cmpI]; done) | (exfalso; simp_all [cmpI]; omega) | (exfalso; omega)
theorem or_spec (A : Option Addr) (c : Nat) (l : List Int) (w : World) (hA : RdSl w A c iEnc 1 l) : Does Tryz.prog 100 [.slice A l.length c] w (fun v O => v = .int .i64 (firstNz l) ∧ O = []) := by
 have hle := hA.le
 have hcp := hA.cap
 unfold maxLen at hcp
 obtain ⟨res, hres⟩ : ∃ res, firstNz l = res := ⟨_, rfl⟩
 rw [hres]
 refine Does_of_W Tryz.func100 rfl rfl rfl rfl ?_
 repeat (first | refine walk ?_)
 refine W_loopF [(6, _), (7, _), (3, _)] [] (fun k : Nat => [(8, .int .i64 k)]) (fun _ => []) (fun k => k ≤ l.length ∧ firstNz (l.drop k) = res) (fun k => l.length - k) 0 SFA SOA ⟨Nat.zero_le _, hres⟩ ?_
 rintro k ⟨hk, hi⟩
 repeat (first | refine walk ?_)
 refine W_cond rfl (fun h => ?_) (fun h => ?_)
 ·have hlt : k < l.length := by simpa using h
  obtain ⟨hna, hca⟩ := hA.rd k _ (List.getElem?_eq_getElem hlt)
  rw [drop_cons hlt, firstNz] at hi
  generalize l[k] = r at *
  repeat (first | (apply RL_pu; rfl; exact PuI) | refine walk1 ?_)
  refine W_cond rfl (fun h2 => ?_) (fun h2 => ?_)
  ·rw [if_neg (by simpa using h2)] at hi
   repeat (first | refine walk ?_)
   exact ret_1 _ [] (.tmp rfl) .nil ⟨by rw [← hi], rfl⟩
  ·rw [if_pos (by simpa using h2)] at hi
   repeat (first | refine walk ?_)
   exact ⟨k + 1, OA, ⟨OA, hi⟩, SFA, .nil⟩
 ·have hkl : k = l.length := by
   have := of_decide_eq_false h
   omega
  subst hkl
  rw [List.drop_length] at hi
  repeat (first | refine walk ?_)
  exact ret_1 _ [] (.tmp rfl) .nil ⟨by rw [← hi]; rfl, rfl⟩
theorem cellsRd {α : Type} {enc : α → List Value} {sz c : Nat} {ad : Addr} {l : List α} {w : World} (hsz : ∀ x, (enc x).length = sz) (h1 : l.length ≤ c) (h2 : c ≤ maxLen) (h : CellsAt w ad (l.flatMap enc)) : RdSl w (some ad) c enc sz l :=
 ⟨h1, h2, fun k x hk => ⟨by simp, fun j v hj => by
  rw [add_of_add]
  exact h _ v (flat_get hsz l k x j v hk hj)⟩⟩
theorem order_spec (a b : DEvent) (w : World) : Does Tryz.prog 53 [.agg (DEvent.enc a).toArray, .agg (DEvent.enc b).toArray] w (fun v O => v = .int .i64 (ordE a b) ∧ O = []) := by
 rw [ordE_eq]
 obtain ⟨y, r, n⟩ := a
 obtain ⟨y2, r2, n2⟩ := b
 dsimp only
 have h1 := cmp64_spec n n2
 have h2 := cmpN_spec r r2
 have h3 := cmp64_spec y y2
 generalize cmpI n n2 = x1 at *
 generalize cmpI r r2 = x2 at *
 generalize cmpI y y2 = x3 at *
 have h4 := fun (bk : Nat) w' (hc : CellsAt w' ⟨bk, 0, none⟩ [.int .i64 x1, .int .i64 x2, .int .i64 x3]) => or_spec (some ⟨bk, 0, none⟩) 3 [x1, x2, x3] w' (cellsRd (fun _ => rfl) (Nat.le_refl 3) (by decide) hc)
 show Does _ _ [.agg #[.int .i64 y, .int .i64 r, .int .i64 n], .agg #[.int .i64 y2, .int .i64 r2, .int .i64 n2]] w _
 refine Does_of_W Tryz.func53 rfl rfl rfl rfl ?_
 repeat (first | refine walk ?_ | (refine jg ?_; (try intro F); (first | (refine callE (fun w' _ => h1 w') ?_) | (refine callE (fun w' _ => h2 w') ?_) | (refine callE (fun w' _ => h3 w') ?_) | (apply Stp_call (h := fun w' _ hH => h4 _ w' (hH.cells (by repeat' constructor))); rfl; rintro v O' ⟨rfl, rfl⟩) | (refine bx ?_; intro bk)); refine fin ?_) | (refine jn ?_; (try intro F); (first | (refine bx ?_; intro bk) | (apply Stp_pu; exact PuA)); refine fin ?_) | (apply RD_W; rfl; intro bk))
 exact rtA
end Go.Proofs.YtonjepladadmhaaGreatDoor
namespace Go.Wk
open Go Go.RowKit
section
variable {P : Program} {n : Nat} {wr : World} {fr : Fr} {O : List It} {ty : TypeId}
theorem Pu_max3 {x y z : Operand} {ts : Array TypeId} {k : IntKind} {i j l q : Int} (hx : ev fr x = some (.int k i)) (hy : ev fr y = some (.int k j)) (hz : ev fr z = some (.int k l)) (hq : max (max i j) l = q) : Pu P n wr fr O (.call ⟨.builtin .max, #[x, y, z], ts⟩) ty (.int k q) := by
 have h1 : (if i < j then j else i) = max i j := by split <;> omega
 have h2 : (if max i j < l then l else max i j) = q := by rw [← hq]; split <;> omega
 exact fun a w hs _ _ _ _ => by
  simp only [execOp, resolve, invoke, builtin, Builtin.max_, Builtin.max2, hs.sim.ev hx, hs.sim.ev hy, hs.sim.ev hz]
  simp [execOp, resolve, invoke, builtin, Builtin.max_, Builtin.max2, hs.sim.ev hx, hs.sim.ev hy, hs.sim.ev hz, h1, h2]
end
end Go.Wk
namespace Go.Proofs.YtonjepladadmhaaGreatDoor
open Go Go.RowKit Go.Wk
attribute [local irreducible] W RL Does thenQ blockQ retQ Calls Pu Stp RD Qy Ay DoesIn
theorem PuEvA0 {G : Prop} (h : G := by (first | exact PuI | (apply Pu_loadO1; rfl; first | exact c1 0 _ rfl | exact c2 0 _ rfl | exact c3 0 _ rfl | exact hcell) | (apply Pu_max3; rfl; rfl; rfl; exact hy0))) : G := h
theorem QyEvA0 {G : Prop} (h : G := by first | (apply Qy_y; rfl; exact PuEvA0) | exact QyA) : G := h
theorem QFEvA0 {G : Prop} (h : G := by repeat (first | exact QF.nil | (apply QF.mk; rfl; rfl; decide +kernel; exact QyEvA0))) : G := h
theorem PuEvA1 {G : Prop} (h : G := by (apply Pu_loadO1; rfl; first | exact c1 0 _ rfl | exact c2 0 _ rfl | exact c3 0 _ rfl)) : G := h
theorem QyEvA1 {G : Prop} (h : G := by first | (apply Qy_y; rfl; exact PuEvA1) | exact QyA) : G := h
theorem QFEvA1 {G : Prop} (h : G := by repeat (first | exact QF.nil | (apply QF.mk; rfl; rfl; decide +kernel; exact QyEvA1))) : G := h
theorem after1_spec (A : Option Addr) (c : Nat) (l : List DRule) (i : Nat) (r : DRule) (yr nominal : Int) (b1 b2 b3 : Nat) (w : World) (hG : Glob w) (hA : RdSl w A c DRule.enc 11 l) (hi : l[i]? = some r) (hn : l.length ≤ 1000000) (hR : ∀ r ∈ l, -4611686018427387904 ≤ r.save ∧ r.save ≤ 4611686018427387904)
  (hy : -2000000000 ≤ yr ∧ yr ≤ 2000000000) (hf : r.from_ ≤ 4611686018427387904) (c1 : CellsAt w ⟨b1, 0, none⟩ [.slice A l.length c]) (c2 : CellsAt w ⟨b2, 0, none⟩ [.int .i64 yr]) (c3 : CellsAt w ⟨b3, 0, none⟩ [.int .i64 nominal]) :
  Does Tryz.prog 84 [.int .i64 i, .pointer (some ⟨b1, 0, none⟩), .pointer (some ⟨b2, 0, none⟩), .pointer (some ⟨b3, 0, none⟩)] w (fun v O => v = .tuple #[evV (evIn (leastD l) nominal r i (max (max r.from_ (-2000000000)) (yr - 2)) 20), .bool (evIn (leastD l) nominal r i (max (max r.from_ (-2000000000)) (yr - 2)) 20).isSome] ∧ O = []) := by
 have hlt : i < l.length := (List.getElem?_eq_some_iff.1 hi).1
 obtain ⟨y0, hy0⟩ : ∃ y0, max (max r.from_ (-2000000000)) (yr - 2) = y0 := ⟨_, rfl⟩
 have hyb : -3000000000 ≤ y0 ∧ y0 ≤ 4611686018427387904 := by omega
 rw [hy0]
 obtain ⟨res, hres⟩ : ∃ res, evIn (leastD l) nominal r i y0 20 = res := ⟨_, rfl⟩
 rw [hres]
 have hon := fun y w' (hw : Bel w.heap.size w w') => evOn_spec A c l i y r w' (hG.up hw) (hA.up hw) hi hn hR
 obtain ⟨hna, hca⟩ := hA.rd i _ hi
 generalize leastD l = least at *
 have hfr : ((DRule.enc r)[1]?) = some (.int .i64 r.from_) := rfl
 have hcell : w.cell? (((adr A).add (i * 11)).add 1) = some (.int .i64 r.from_) := hca 1 _ hfr
 refine Does_of_W Tryz.func84 rfl rfl rfl rfl ?_
 repeat (first | (apply RL_pu; rfl; exact PuEvA0) | (apply RD_Q; rfl; rfl; decide +kernel; rfl; rfl; exact QyEvA0) | refine walk1 ?_ | (refine jn ?_; (try intro F); (first | (refine bx ?_; intro bk) | (refine stA ?_) | (apply Stp_pu; first | exact PuEvA0 | exact PuA)); first | refine ⟨_, EndsA, QFEvA0, ?_⟩ | refine fin ?_) | (apply RD_W; rfl; intro bk))
 refine W_loopF [(0, .int .i64 i), (1, .pointer (some ⟨b1, 0, none⟩)), (2, .pointer (some ⟨b2, 0, none⟩)), (3, .pointer (some ⟨b3, 0, none⟩)), (7, .int .i64 y0), (5, .pointer (some ⟨bk, 0, none⟩))] [.blk bk [.int .i64 0, .int .i64 0, .int .i64 0] 84] (fun j : Nat => [(19, .int .i64 j)]) (fun _ => []) (fun j => j ≤ 20 ∧ evIn least nominal r i (y0 + j) (20 - j) = res) (fun j => 20 - j) 0 SFA SOA ⟨Nat.zero_le _, by simpa using hres⟩ ?_
 rintro j ⟨hj, hi2⟩
 repeat (first | refine walk ?_ | (refine jn ?_; (try intro F); (first | (refine bx ?_; intro bk) | (refine stA ?_) | (apply Stp_pu; exact PuA)); refine fin ?_) | (apply RD_W; rfl; intro bk))
 refine W_cond rfl (fun h => ?_) (fun h => ?_)
 ·have hj20 : j < 20 := by have := of_decide_eq_true h; omega
  rw [show 20 - j = (19 - j) + 1 by omega, evIn] at hi2
  have ho := hon (y0 + j)
  generalize onR least r i (y0 + j) = o at *
  cases o with
  | none =>
   simp only [evV, DEvent.enc, dEv0, Option.isSome] at ho
   repeat (first | (apply RL_pu; rfl; exact PuEvA1) | (apply RD_Q; rfl; rfl; decide +kernel; rfl; rfl; exact QyEvA1) | refine walk1 ?_ | (refine jg ?_; (try intro F); (first | (refine callE ho ?_) | (refine bx ?_; intro bk) | (refine stA ?_)); first | refine ⟨_, EndsA, QFEvA1, ?_⟩ | refine fin ?_) | (refine jn ?_; (try intro F); (first | (refine bx ?_; intro bk) | (refine stA ?_) | (apply Stp_pu; first | exact PuEvA1 | exact PuA)); first | refine ⟨_, EndsA, QFEvA1, ?_⟩ | refine fin ?_) | (apply RD_W; rfl; intro bk))
   exact ⟨j + 1, OA, ⟨OA, by rw [show 20 - (j + 1) = 19 - j by omega, show y0 + ((j + 1 : Nat) : Int) = y0 + j + 1 by omega]; exact hi2⟩, SFA, SOA⟩
  | some e =>
   obtain ⟨ey, er, en⟩ := e
   simp only [evV, DEvent.enc, Option.isSome] at ho hi2
   repeat (first | (apply RL_pu; rfl; exact PuEvA1) | (apply RD_Q; rfl; rfl; decide +kernel; rfl; rfl; exact QyEvA1) | refine walk1 ?_ | (refine jg ?_; (try intro F); (first | (refine callE ho ?_) | (refine bx ?_; intro bk) | (refine stA ?_)); first | refine ⟨_, EndsA, QFEvA1, ?_⟩ | refine fin ?_) | (refine jn ?_; (try intro F); (first | (refine bx ?_; intro bk) | (refine stA ?_) | (apply Stp_pu; first | exact PuEvA1 | exact PuA)); first | refine ⟨_, EndsA, QFEvA1, ?_⟩ | refine fin ?_) | (apply RD_W; rfl; intro bk))
   refine W_cond rfl (fun h2 => ?_) (fun h2 => ?_)
   ·rw [if_pos (of_decide_eq_true h2)] at hi2
    subst hi2
    repeat (first | refine walk ?_ | (refine jn ?_; (try intro F); (first | (refine bx ?_; intro bk) | (refine stA ?_) | (apply Stp_pu; exact PuA)); refine fin ?_) | (apply RD_W; rfl; intro bk))
    exact rtC
   ·rw [if_neg (of_decide_eq_false h2)] at hi2
    repeat (first | refine walk ?_ | (refine jn ?_; (try intro F); (first | (refine bx ?_; intro bk) | (refine stA ?_) | (apply Stp_pu; exact PuA)); refine fin ?_) | (apply RD_W; rfl; intro bk))
    exact ⟨j + 1, OA, ⟨OA, by rw [show 20 - (j + 1) = 19 - j by omega, show y0 + ((j + 1 : Nat) : Int) = y0 + j + 1 by omega]; exact hi2⟩, SFA, SOA⟩
 ·obtain rfl : j = 20 := by have := of_decide_eq_false h; omega
  obtain rfl : none = res := by rw [← hi2]; rfl
  repeat (first | refine walk ?_ | (refine jn ?_; (try intro F); (first | (refine bx ?_; intro bk) | (refine stA ?_) | (apply Stp_pu; exact PuA)); refine fin ?_) | (apply RD_W; rfl; intro bk))
  exact rtC
end Go.Proofs.YtonjepladadmhaaGreatDoor
