/- Contract: footer.Date. -/
import Derived.Test.YtonjepladadmhaaGreatDoorR14
set_option maxHeartbeats 4000000
set_option linter.unusedVariables false
set_option linter.unusedSimpArgs false
namespace Go.Proofs.YtonjepladadmhaaGreatDoor
open Go Go.RowKit Go.Wk
attribute [local irreducible] W RL Does thenQ blockQ retQ Calls Pu Stp RD Qy Ay DoesIn
theorem dateD_no {r : DRule} (h : noDate r = true) (off before : Int) : dateD r off before = (dt0, 2) := by unfold dateD; rw [if_pos h]
theorem PuFtDate0 {G : Prop} (h : G := by (first | (apply Pu_neqB'; rfl; rfl; exact e1) | (apply Pu_lssB; rfl; rfl; exact e2) | (apply Pu_gtrB; rfl; rfl; exact e3))) : G := h
theorem QyFtDate0 {G : Prop} (h : G := by first | (apply Qy_y; rfl; exact PuFtDate0) | exact QyA) : G := h
theorem QFFtDate0 {G : Prop} (h : G := by repeat (first | exact QF.nil | (apply QF.mk; rfl; rfl; decide +kernel; exact QyFtDate0))) : G := h
theorem wkFtDate0 {G G' : Prop} (k : G') (h : Hold G' → G := by intro k9; (first | refine und ?_ | (apply RL_pu; rfl; exact PuFtDate0) | (apply RD_Q; rfl; rfl; decide +kernel; rfl; rfl; exact QyFtDate0) | refine walk1 ?_ | (refine jn ?_; (try intro F); (first | (refine stA ?_) | (apply Stp_pu; first | exact PuFtDate0 | exact PuA)); first | refine ⟨_, EndsA, QFFtDate0, ?_⟩ | refine fin ?_)); exact k9.out) : G := h ⟨k⟩
theorem fdate_no (r : DRule) (off before : Int) (h : noDate r = true) (w : World) (hG : Glob w) : Does Tryz.prog 12 [.agg r.enc.toArray, .int .i64 off, .int .i64 before] w (fun v O => v = dErrV (dt0, 2) ∧ O = []) := by
 have hdc := fun w' (hw : Bel w.heap.size w w') => dcheck_spec r.day w' (hG.up hw)
 have hcc := fun w' => ccheck_spec r.at_ w'
 unfold noDate at h
 obtain ⟨nm, fr, to, mo, ⟨dk, dw, dd⟩, ⟨cs, cb⟩, sv, le⟩ := r
 dsimp only at h hdc hcc
 generalize dayChk ⟨dk, dw, dd⟩ = c1 at *
 generalize clkChk ⟨cs, cb⟩ = c2 at *
 show Does _ _ [.agg #[.string nm, .int .i64 fr, .int .i64 to, .int .i64 mo, .int .i64 dk, .int .i64 dw, .int .i64 dd, .int .i64 cs, .int .i64 cb, .int .i64 sv, .string le], .int .i64 off, .int .i64 before] w _
 refine Does_of_W Tryz.func12 rfl rfl rfl rfl ?_
 by_cases h1 : to = 1048576
 ·have e1 : (!decide (to = 1048576)) = false := by rw [decide_eq_true h1]; rfl
  by_cases h2 : mo < 1
  ·have e2 : decide (mo < 1) = true := decide_eq_true h2
   repeat (first | refine wkFtDate0 ?_ | (refine jn ?_; (try intro F); (refine bx ?_; intro bk); first | refine ⟨_, EndsA, QFFtDate0, ?_⟩ | refine fin ?_) | (apply RD_W; rfl; intro bk))
   exact rtC
  have e2 : decide (mo < 1) = false := decide_eq_false h2
  by_cases h3 : 12 < mo
  ·have e3 : decide (12 < mo) = true := decide_eq_true h3
   repeat (first | refine wkFtDate0 ?_ | (refine jn ?_; (try intro F); (refine bx ?_; intro bk); first | refine ⟨_, EndsA, QFFtDate0, ?_⟩ | refine fin ?_) | (apply RD_W; rfl; intro bk))
   exact rtC
  have e3 : decide (12 < mo) = false := decide_eq_false h3
  cases c1 with
  | false =>
   repeat (first | refine und ?_ | (apply RL_pu; rfl; exact PuFtDate0) | (apply RD_Q; rfl; rfl; decide +kernel; rfl; rfl; exact QyFtDate0) | refine walk1 ?_ | (refine jg ?_; (try intro F); (first | (refine callE hdc ?_) | (refine callE (fun w' hw => hcc w') ?_) | (refine bx ?_; intro bk) | (refine stA ?_)); first | refine ⟨_, EndsA, QFFtDate0, ?_⟩ | refine fin ?_) | (refine jn ?_; (try intro F); (first | (refine bx ?_; intro bk) | (refine stA ?_) | (apply Stp_pu; first | exact PuFtDate0 | exact PuA)); first | refine ⟨_, EndsA, QFFtDate0, ?_⟩ | refine fin ?_) | (apply RD_W; rfl; intro bk))
   exact rtC
  | true =>
  cases c2 with
  | false =>
   repeat (first | refine und ?_ | (apply RL_pu; rfl; exact PuFtDate0) | (apply RD_Q; rfl; rfl; decide +kernel; rfl; rfl; exact QyFtDate0) | refine walk1 ?_ | (refine jg ?_; (try intro F); (first | (refine callE hdc ?_) | (refine callE (fun w' hw => hcc w') ?_) | (refine bx ?_; intro bk) | (refine stA ?_)); first | refine ⟨_, EndsA, QFFtDate0, ?_⟩ | refine fin ?_) | (refine jn ?_; (try intro F); (first | (refine bx ?_; intro bk) | (refine stA ?_) | (apply Stp_pu; first | exact PuFtDate0 | exact PuA)); first | refine ⟨_, EndsA, QFFtDate0, ?_⟩ | refine fin ?_) | (apply RD_W; rfl; intro bk))
   exact rtC
  | true =>
   exfalso
   rw [e1, e2, e3] at h
   cases h
 ·have e1 : (!decide (to = 1048576)) = true := by rw [decide_eq_false h1]; rfl
  repeat (first | refine wkFtDate0 ?_ | (refine jn ?_; (try intro F); (refine bx ?_; intro bk); first | refine ⟨_, EndsA, QFFtDate0, ?_⟩ | refine fin ?_) | (apply RD_W; rfl; intro bk))
  exact rtC
theorem noDate_f {r : DRule} (h : noDate r = false) : r.to = 1048576 ∧ 1 ≤ r.month ∧ r.month ≤ 12 ∧ dayChk r.day = true ∧ clkChk r.at_ = true := by
 unfold noDate at h
 simp only [Bool.or_eq_false_iff, Bool.not_eq_false', decide_eq_true_eq, decide_eq_false_iff_not] at h
 obtain ⟨⟨⟨⟨h1, h2⟩, h3⟩, h4⟩, h5⟩ := h
 exact ⟨h1, by omega, by omega, h4, h5⟩
theorem PuFtDate1 {G : Prop} (h : G := by (first | exact PuFtDate0 | (apply Pu_indexArr; rfl; rfl; omega; omega) | (apply Pu_loadO1; rfl; exact hcell 0 _ rfl))) : G := h
theorem QyFtDate1 {G : Prop} (h : G := by first | (apply Qy_y; rfl; exact PuFtDate1) | exact QyA) : G := h
theorem QFFtDate1 {G : Prop} (h : G := by repeat (first | exact QF.nil | (apply QF.mk; rfl; rfl; decide +kernel; exact QyFtDate1))) : G := h
theorem wkFtDate1 {G G' : Prop} (k : G') (h : Hold G' → G := by intro k9; (first | refine und ?_ | (apply RL_pu; rfl; exact PuFtDate1) | (apply RD_Q; rfl; rfl; decide +kernel; rfl; rfl; exact QyFtDate1) | refine walk1 ?_ | (refine jg ?_; (try intro F); (first | (refine callE hdc ?_) | (refine callE (fun w' hw => hcc w') ?_) | (refine callE (fun w' hw => hw1 w') ?_) | (refine callE (fun w' hw => hw2 w') ?_) | (refine callE (fun w' hw => hw3 w') ?_) | (refine stA ?_)); first | refine ⟨_, EndsA, QFFtDate1, ?_⟩ | refine fin ?_) | (refine jn ?_; (try intro F); (first | (refine stA ?_) | (apply Stp_pu; first | exact PuFtDate1 | exact PuA)); first | refine ⟨_, EndsA, QFFtDate1, ?_⟩ | refine fin ?_)); exact k9.out) : G := h ⟨k⟩
set_option maxHeartbeats 4000000 in
theorem fdate_spec (r : DRule) (off before : Int) (w : World) (hG : Glob w) (hF : FtG w) : Does Tryz.prog 12 [.agg r.enc.toArray, .int .i64 off, .int .i64 before] w (fun v O => v = dErrV (dateD r off before) ∧ O = []) := by
 cases hno : noDate r with
 | true =>
  rw [dateD_no hno]
  exact fdate_no r off before hno w hG
 | false =>
 obtain ⟨h1, h2, h3, h4, h5⟩ := noDate_f hno
 obtain ⟨b1, b2, b3⟩ := dayChk_bd h4
 have hdc := fun w' (hw : Bel w.heap.size w w') => dcheck_spec r.day w' (hG.up hw)
 have hcc := fun w' => ccheck_spec r.at_ w'
 have hds := fun w' (hw : Bel w.heap.size w w') => fdates_spec r.month r.day b1 b3 w' (hG.up hw)
 have hcell := ft_at hF r.day.kind b1
 have hw1 := fun w' => ftWithin_spec off w'
 have hw2 := fun w' => ftWithin_spec before w'
 have hw3 := fun w' => ftWithin_spec (secD r off before) w'
 have hsb := fun (q1 : inClk off = true) (q2 : inClk before = true) => secD_bd h5 q1 q2
 haveI : Body Tryz.prog (dateFn r.day.kind) := by
  unfold dateFn
  split
  ·infer_instance
  ·split
   ·infer_instance
   ·split <;> infer_instance
 rw [h4] at hdc
 rw [h5] at hcc
 unfold dateD
 rw [hno, if_neg (by decide)]
 generalize hsd : secD r off before = sc at *
 unfold secD at hsd
 generalize dateF r.month r.day = x at *
 clear h4 h5 hno hF
 obtain ⟨nm, fr, to, mo, ⟨dk, dw, dd⟩, ⟨cs, cb⟩, sv, le⟩ := r
 obtain ⟨⟨x1, x2, x3, x4, x5⟩, ok⟩ := x
 dsimp only at h1 h2 h3 b1 b3 hdc hcc hds hcell hsb hsd ⊢
 subst h1
 generalize dateFn dk = kf at *
 have e2 : decide (mo < 1) = false := decide_eq_false (by omega)
 have e3 : decide (12 < mo) = false := decide_eq_false (by omega)
 show Does _ _ [.agg #[.string nm, .int .i64 fr, .int .i64 1048576, .int .i64 mo, .int .i64 dk, .int .i64 dw, .int .i64 dd, .int .i64 cs, .int .i64 cb, .int .i64 sv, .string le], .int .i64 off, .int .i64 before] w _
 refine Does_of_W Tryz.func12 rfl rfl rfl rfl ?_
 cases ok with
 | false =>
  rw [if_pos rfl]
  repeat (first | refine und ?_ | (apply RL_pu; rfl; exact PuFtDate1) | (apply RD_Q; rfl; rfl; decide +kernel; rfl; rfl; exact QyFtDate1) | refine walk1 ?_ | (refine jg ?_; (try intro F); (first | (refine callE hdc ?_) | (refine callE (fun w' hw => hcc w') ?_) | (apply Stp_callV (f := kf) (us := []) (cs := []) (vs := [.int .i64 mo, .agg #[.int .i64 dk, .int .i64 dw, .int .i64 dd]]) (h := fun w' hw _ => hds w' hw); rfl; rfl; rintro v O' ⟨rfl, rfl⟩) | (refine bx ?_; intro bk) | (refine stA ?_)); first | refine ⟨_, EndsA, QFFtDate1, ?_⟩ | refine fin ?_) | (refine jn ?_; (try intro F); (first | (refine bx ?_; intro bk) | (refine stA ?_) | (apply Stp_pu; first | exact PuFtDate1 | exact PuA)); first | refine ⟨_, EndsA, QFFtDate1, ?_⟩ | refine fin ?_) | (apply RD_W; rfl; intro bk))
  exact rtC
 | true =>
 rw [if_neg (by decide)]
 generalize inClk off = i1 at *
 generalize inClk before = i2 at *
 cases i1 with
 | false =>
  rw [if_pos (.inl rfl)]
  repeat (first | refine wkFtDate1 ?_ | (refine jg ?_; (try intro F); (first | (apply Stp_callV (f := kf) (us := []) (cs := []) (vs := [.int .i64 mo, .agg #[.int .i64 dk, .int .i64 dw, .int .i64 dd]]) (h := fun w' hw _ => hds w' hw); rfl; rfl; rintro v O' ⟨rfl, rfl⟩) | (refine bx ?_; intro bk)); first | refine ⟨_, EndsA, QFFtDate1, ?_⟩ | refine fin ?_) | (refine jn ?_; (try intro F); (refine bx ?_; intro bk); first | refine ⟨_, EndsA, QFFtDate1, ?_⟩ | refine fin ?_) | (apply RD_W; rfl; intro bk))
  exact rtC
 | true =>
 cases i2 with
 | false =>
  rw [if_pos (.inr rfl)]
  repeat (first | refine wkFtDate1 ?_ | (refine jg ?_; (try intro F); (first | (apply Stp_callV (f := kf) (us := []) (cs := []) (vs := [.int .i64 mo, .agg #[.int .i64 dk, .int .i64 dw, .int .i64 dd]]) (h := fun w' hw _ => hds w' hw); rfl; rfl; rintro v O' ⟨rfl, rfl⟩) | (refine bx ?_; intro bk)); first | refine ⟨_, EndsA, QFFtDate1, ?_⟩ | refine fin ?_) | (refine jn ?_; (try intro F); (refine bx ?_; intro bk); first | refine ⟨_, EndsA, QFFtDate1, ?_⟩ | refine fin ?_) | (apply RD_W; rfl; intro bk))
  exact rtC
 | true =>
 rw [if_neg (by decide)]
 obtain ⟨q1, q2, q3, q4, q5, q6, q7⟩ := hsb rfl rfl
 clear hsb
 have hcb : cb = 0 ∨ cb = 1 ∨ cb = 2 := by omega
 generalize inClk sc = i3 at *
 rcases hcb with rfl | rfl | rfl
 ·obtain rfl : cs = sc := by rw [← hsd]; simp
  cases i3 with
  | false =>
   repeat (first | refine wkFtDate1 ?_ | (refine jg ?_; (try intro F); (first | (apply Stp_callV (f := kf) (us := []) (cs := []) (vs := [.int .i64 mo, .agg #[.int .i64 dk, .int .i64 dw, .int .i64 dd]]) (h := fun w' hw _ => hds w' hw); rfl; rfl; rintro v O' ⟨rfl, rfl⟩) | (refine bx ?_; intro bk)); first | refine ⟨_, EndsA, QFFtDate1, ?_⟩ | refine fin ?_) | (refine jn ?_; (try intro F); (refine bx ?_; intro bk); first | refine ⟨_, EndsA, QFFtDate1, ?_⟩ | refine fin ?_) | (apply RD_W; rfl; intro bk))
   exact rtC
  | true =>
   repeat (first | refine wkFtDate1 ?_ | (refine jg ?_; (try intro F); (first | (apply Stp_callV (f := kf) (us := []) (cs := []) (vs := [.int .i64 mo, .agg #[.int .i64 dk, .int .i64 dw, .int .i64 dd]]) (h := fun w' hw _ => hds w' hw); rfl; rfl; rintro v O' ⟨rfl, rfl⟩) | (refine bx ?_; intro bk)); first | refine ⟨_, EndsA, QFFtDate1, ?_⟩ | refine fin ?_) | (refine jn ?_; (try intro F); (refine bx ?_; intro bk); first | refine ⟨_, EndsA, QFFtDate1, ?_⟩ | refine fin ?_) | (apply RD_W; rfl; intro bk))
   exact rtC
 ·obtain rfl : cs + before = sc := by rw [← hsd]; simp
  cases i3 with
  | false =>
   repeat (first | refine wkFtDate1 ?_ | (refine jg ?_; (try intro F); (first | (apply Stp_callV (f := kf) (us := []) (cs := []) (vs := [.int .i64 mo, .agg #[.int .i64 dk, .int .i64 dw, .int .i64 dd]]) (h := fun w' hw _ => hds w' hw); rfl; rfl; rintro v O' ⟨rfl, rfl⟩) | (refine bx ?_; intro bk)); first | refine ⟨_, EndsA, QFFtDate1, ?_⟩ | refine fin ?_) | (refine jn ?_; (try intro F); (refine bx ?_; intro bk); first | refine ⟨_, EndsA, QFFtDate1, ?_⟩ | refine fin ?_) | (apply RD_W; rfl; intro bk))
   exact rtC
  | true =>
   repeat (first | refine wkFtDate1 ?_ | (refine jg ?_; (try intro F); (first | (apply Stp_callV (f := kf) (us := []) (cs := []) (vs := [.int .i64 mo, .agg #[.int .i64 dk, .int .i64 dw, .int .i64 dd]]) (h := fun w' hw _ => hds w' hw); rfl; rfl; rintro v O' ⟨rfl, rfl⟩) | (refine bx ?_; intro bk)); first | refine ⟨_, EndsA, QFFtDate1, ?_⟩ | refine fin ?_) | (refine jn ?_; (try intro F); (refine bx ?_; intro bk); first | refine ⟨_, EndsA, QFFtDate1, ?_⟩ | refine fin ?_) | (apply RD_W; rfl; intro bk))
   exact rtC
 ·obtain rfl : cs + off + before = sc := by rw [← hsd]; simp
  cases i3 with
  | false =>
   repeat (first | refine wkFtDate1 ?_ | (refine jg ?_; (try intro F); (first | (apply Stp_callV (f := kf) (us := []) (cs := []) (vs := [.int .i64 mo, .agg #[.int .i64 dk, .int .i64 dw, .int .i64 dd]]) (h := fun w' hw _ => hds w' hw); rfl; rfl; rintro v O' ⟨rfl, rfl⟩) | (refine bx ?_; intro bk)); first | refine ⟨_, EndsA, QFFtDate1, ?_⟩ | refine fin ?_) | (refine jn ?_; (try intro F); (refine bx ?_; intro bk); first | refine ⟨_, EndsA, QFFtDate1, ?_⟩ | refine fin ?_) | (apply RD_W; rfl; intro bk))
   exact rtC
  | true =>
   repeat (first | refine wkFtDate1 ?_ | (refine jg ?_; (try intro F); (first | (apply Stp_callV (f := kf) (us := []) (cs := []) (vs := [.int .i64 mo, .agg #[.int .i64 dk, .int .i64 dw, .int .i64 dd]]) (h := fun w' hw _ => hds w' hw); rfl; rfl; rintro v O' ⟨rfl, rfl⟩) | (refine bx ?_; intro bk)); first | refine ⟨_, EndsA, QFFtDate1, ?_⟩ | refine fin ?_) | (refine jn ?_; (try intro F); (refine bx ?_; intro bk); first | refine ⟨_, EndsA, QFFtDate1, ?_⟩ | refine fin ?_) | (apply RD_W; rfl; intro bk))
   exact rtC
end Go.Proofs.YtonjepladadmhaaGreatDoor
