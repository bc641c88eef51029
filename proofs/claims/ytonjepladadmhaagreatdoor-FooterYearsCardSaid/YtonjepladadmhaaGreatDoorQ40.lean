/- Contract: analemmaref38.Date. -/
import Derived.Test.YtonjepladadmhaaGreatDoorQ39
import Derived.Test.YtonjepladadmhaaGreatDoorQ15
set_option maxHeartbeats 4000000
set_option linter.unusedVariables false
set_option linter.unusedSimpArgs false
namespace Go.Proofs.YtonjepladadmhaaGreatDoor
open Go Go.RowKit Go.Wk
attribute [local irreducible] W RL Does thenQ blockQ retQ Calls Pu Stp RD Qy Ay DoesIn
theorem PuFtRD0 {G : Prop} (h : G := by (first | (apply Pu_neqB'; rfl; rfl; exact e1) | (apply Pu_lssB; rfl; rfl; exact e2) | (apply Pu_gtrB; rfl; rfl; exact e3))) : G := h
theorem rdate_no (r : DRule) (off before : Int) (h : noDate r = true) (w : World) : Does Tryz.prog 13 [.agg r.enc.toArray, .int .i64 off, .int .i64 before] w (fun v O => v = dErrV (dt0, 2) ∧ O = []) := by
 have hdc := fun w' => r2chk_spec r.day w'
 have hcc := fun w' => r6chk_spec r.at_ w'
 unfold noDate at h
 obtain ⟨nm, fr, to, mo, ⟨dk, dw, dd⟩, ⟨cs, cb⟩, sv, le⟩ := r
 dsimp only at h hdc hcc
 generalize dayChk ⟨dk, dw, dd⟩ = c1 at *
 generalize clkChk ⟨cs, cb⟩ = c2 at *
 show Does _ _ [.agg #[.string nm, .int .i64 fr, .int .i64 to, .int .i64 mo, .int .i64 dk, .int .i64 dw, .int .i64 dd, .int .i64 cs, .int .i64 cb, .int .i64 sv, .string le], .int .i64 off, .int .i64 before] w _
 refine Does_of_W Tryz.func13 rfl rfl rfl rfl ?_
 by_cases h1 : to = 1048576
 ·have e1 : (!decide (to = 1048576)) = false := by rw [decide_eq_true h1]; rfl
  by_cases h2 : mo < 1
  ·have e2 : decide (mo < 1) = true := decide_eq_true h2
   repeat (first | refine und ?_ | (apply RL_pu; rfl; exact PuFtRD0) | (refine js ?_; (refine bx ?_; intro bk)) | refine walk1 ?_)
   exact rtC
  have e2 : decide (mo < 1) = false := decide_eq_false h2
  by_cases h3 : 12 < mo
  ·have e3 : decide (12 < mo) = true := decide_eq_true h3
   repeat (first | refine und ?_ | (apply RL_pu; rfl; exact PuFtRD0) | (refine js ?_; (refine bx ?_; intro bk)) | refine walk1 ?_)
   exact rtC
  have e3 : decide (12 < mo) = false := decide_eq_false h3
  cases c1 with
  | false =>
   repeat (first | refine und ?_ | (apply RL_pu; rfl; exact PuFtRD0) | (refine js ?_; (first | (refine callE (fun w' hw => hdc w') ?_) | (refine callE (fun w' hw => hcc w') ?_) | (refine bx ?_; intro bk))) | refine walk1 ?_)
   exact rtC
  | true =>
  cases c2 with
  | false =>
   repeat (first | refine und ?_ | (apply RL_pu; rfl; exact PuFtRD0) | (refine js ?_; (first | (refine callE (fun w' hw => hdc w') ?_) | (refine callE (fun w' hw => hcc w') ?_) | (refine bx ?_; intro bk))) | refine walk1 ?_)
   exact rtC
  | true =>
   exfalso
   rw [e1, e2, e3] at h
   cases h
 ·have e1 : (!decide (to = 1048576)) = true := by rw [decide_eq_false h1]; rfl
  repeat (first | refine und ?_ | (apply RL_pu; rfl; exact PuFtRD0) | (refine js ?_; (refine bx ?_; intro bk)) | refine walk1 ?_)
  exact rtC
theorem wkFtRD0 {G G' : Prop} (k : G') (h : Hold G' → G := by intro k9; (first | refine und ?_ | (apply RL_pu; rfl; exact PuFtRD0) | (refine js ?_; (first | (refine callE (fun w' hw => hdc w') ?_) | (refine callE (fun w' hw => hcc w') ?_) | (refine callE (fun w' _ => hds w') ?_) | (refine callE (fun w' hw => hw1 w') ?_) | (refine callE (fun w' hw => hw2 w') ?_) | (refine callE (fun w' hw => hw3 w') ?_))) | refine walk1 ?_); exact k9.out) : G := h ⟨k⟩
set_option maxHeartbeats 4000000 in
theorem rdate_spec (r : DRule) (off before : Int) (w : World) : Does Tryz.prog 13 [.agg r.enc.toArray, .int .i64 off, .int .i64 before] w (fun v O => v = dErrV (dateD r off before) ∧ O = []) := by
 cases hno : noDate r with
 | true =>
  rw [dateD_no hno]
  exact rdate_no r off before hno w
 | false =>
 obtain ⟨h1, h2, h3, h4, h5⟩ := noDate_f hno
 obtain ⟨b1, b2, b3⟩ := dayChk_bd h4
 have hdc := fun w' => r2chk_spec r.day w'
 have hcc := fun w' => r6chk_spec r.at_ w'
 have hds := fun w' => rday_spec r ⟨h2, h3⟩ h4 w'
 unfold dateR at hds
 have hw1 := fun w' => r38within_spec off w'
 have hw2 := fun w' => r38within_spec before w'
 have hw3 := fun w' => r38within_spec (secD r off before) w'
 have hsb := fun (q1 : inClk off = true) (q2 : inClk before = true) => secD_bd h5 q1 q2
 rw [h4] at hdc
 rw [h5] at hcc
 unfold dateD
 rw [hno, if_neg (by decide)]
 generalize hsd : secD r off before = sc at *
 unfold secD at hsd
 generalize dateF r.month r.day = x at *
 clear h4 h5 hno
 obtain ⟨nm, fr, to, mo, ⟨dk, dw, dd⟩, ⟨cs, cb⟩, sv, le⟩ := r
 obtain ⟨⟨x1, x2, x3, x4, x5⟩, ok⟩ := x
 dsimp only at h1 h2 h3 b1 b3 hdc hcc hds hsb hsd ⊢
 subst h1
 have e2 : decide (mo < 1) = false := decide_eq_false (by omega)
 have e3 : decide (12 < mo) = false := decide_eq_false (by omega)
 show Does _ _ [.agg #[.string nm, .int .i64 fr, .int .i64 1048576, .int .i64 mo, .int .i64 dk, .int .i64 dw, .int .i64 dd, .int .i64 cs, .int .i64 cb, .int .i64 sv, .string le], .int .i64 off, .int .i64 before] w _
 refine Does_of_W Tryz.func13 rfl rfl rfl rfl ?_
 cases ok with
 | false =>
  rw [if_neg (by decide)] at hds
  rw [if_pos rfl]
  repeat (first | refine und ?_ | (apply RL_pu; rfl; exact PuFtRD0) | (refine js ?_; (first | (refine callE (fun w' hw => hdc w') ?_) | (refine callE (fun w' hw => hcc w') ?_) | (refine callE (fun w' _ => hds w') ?_) | (refine bx ?_; intro bk))) | refine walk1 ?_)
  exact rtC
 | true =>
 rw [if_pos rfl] at hds
 rw [if_neg (by decide)]
 generalize inClk off = i1 at *
 generalize inClk before = i2 at *
 cases i1 with
 | false =>
  rw [if_pos (.inl rfl)]
  repeat (first | refine wkFtRD0 ?_ | (refine js ?_; (refine bx ?_; intro bk)))
  exact rtC
 | true =>
 cases i2 with
 | false =>
  rw [if_pos (.inr rfl)]
  repeat (first | refine wkFtRD0 ?_ | (refine js ?_; (refine bx ?_; intro bk)))
  exact rtC
 | true =>
 rw [if_neg (by decide)]
 obtain ⟨q1, q2, q3, q4, q5, q6, q7⟩ := hsb rfl rfl
 clear hsb
 have hcb : cb = 0 ∨ cb = 1 ∨ cb = 2 := by omega
 generalize inClk sc = i3 at *
 rcases hcb with rfl | rfl | rfl
 ·obtain rfl : cs = sc := by rw [← hsd]; simp
  cases i3 with
  | false =>
   repeat (first | refine wkFtRD0 ?_ | (refine js ?_; (refine bx ?_; intro bk)))
   exact rtC
  | true =>
   repeat (first | refine wkFtRD0 ?_ | (refine js ?_; (refine bx ?_; intro bk)))
   exact rtC
 ·obtain rfl : cs + before = sc := by rw [← hsd]; simp
  cases i3 with
  | false =>
   repeat (first | refine wkFtRD0 ?_ | (refine js ?_; (refine bx ?_; intro bk)))
   exact rtC
  | true =>
   repeat (first | refine wkFtRD0 ?_ | (refine js ?_; (refine bx ?_; intro bk)))
   exact rtC
 ·obtain rfl : cs + before + off = sc := by rw [← hsd]; simp only [if_true, true_or]; omega
  cases i3 with
  | false =>
   repeat (first | refine wkFtRD0 ?_ | (refine js ?_; (refine bx ?_; intro bk)))
   exact rtC
  | true =>
   repeat (first | refine wkFtRD0 ?_ | (refine js ?_; (refine bx ?_; intro bk)))
   exact rtC
end Go.Proofs.YtonjepladadmhaaGreatDoor
