/- Contracts: dayform, clock. -/
import Derived.Test.YtonjepladadmhaaGreatDoorR12
set_option maxHeartbeats 4000000
set_option linter.unusedVariables false
set_option linter.unusedSimpArgs false
namespace Go.Proofs.YtonjepladadmhaaGreatDoor
open Go Go.RowKit Go.Wk
attribute [local irreducible] W RL Does thenQ blockQ retQ Calls Pu Stp RD Qy Ay DoesIn
theorem PuDayf0 {G : Prop} (h : G := by (first | (apply Pu_mul; rfl; rfl; (constructor <;> omega)) | (apply Pu_quo64; rfl; rfl; omega; omega; omega))) : G := h
theorem behind_spec (x k : Int) (hx : -1000000000000000000 ≤ x ∧ x ≤ 1000000000000000000) (hk : 0 ≤ k ∧ k ≤ 6) (w : World) : Does Tryz.prog 292 [.int .i64 x, .int .i64 k] w (fun v O => v = .int .i64 (behindW x k) ∧ O = []) := by
 have hw := wkday_bd x
 refine Does_of_W Tryz.func292 rfl rfl rfl rfl ?_
 unfold behindW
 repeat' (first | (apply RL_pu; rfl; exact PuDayf0) | (refine js ?_; (refine callE (fun w' _ => wkday_spec x (by omega) w') ?_)) | refine walk1 ?_ | (refine W_cond rfl (fun hc => ?_) (fun hc => ?_)))
 all_goals exact clo1
theorem before_spec (x k : Int) (hx : -1000000000000000000 ≤ x ∧ x ≤ 1000000000000000000) (hk : 0 ≤ k ∧ k ≤ 6) (w : World) : Does Tryz.prog 290 [.int .i64 x, .int .i64 k] w (fun v O => v = .int .i64 (beforeW x k) ∧ O = []) := by
 have hw := wkday_bd x
 refine Does_of_W Tryz.func290 rfl rfl rfl rfl ?_
 unfold beforeW
 repeat' (first | (apply RL_pu; rfl; exact PuDayf0) | (refine js ?_; (refine callE (fun w' _ => wkday_spec x (by omega) w') ?_)) | refine walk1 ?_ | (refine W_cond rfl (fun hc => ?_) (fun hc => ?_)))
 all_goals exact clo1
def kindFn (k : Int) : FuncId := if k = 1 then 288 else if k = 2 then 289 else if k = 3 then 291 else 293
theorem kinds_spec (p q : Int) (d : DDay) (hp : -100000000000000000 ≤ p ∧ p ≤ 100000000000000000) (hq : -100000000000000000 ≤ q ∧ q ≤ 100000000000000000) (hk : 1 ≤ d.kind ∧ d.kind ≤ 4) (hw : 0 ≤ d.week ∧ d.week ≤ 6) (hd : 0 ≤ d.day ∧ d.day ≤ 31) (w : World) :
  Does Tryz.prog (kindFn d.kind) [.int .i64 p, .int .i64 q, .agg (DDay.enc d).toArray] w (fun v O => v = .int .i64 (findD p q d) ∧ O = []) := by
 obtain ⟨k, wk, dd⟩ := d
 simp only at hk hw hd ⊢
 have h4 : k = 1 ∨ k = 2 ∨ k = 3 ∨ k = 4 := by omega
 rcases h4 with rfl | rfl | rfl | rfl
 ·rw [show findD p q ⟨1, wk, dd⟩ = p + dd - 1 by simp [findD]]
  show Does _ 288 [.int .i64 p, .int .i64 q, .agg #[.int .i64 1, .int .i64 wk, .int .i64 dd]] w _
  refine Does_of_W Tryz.func288 rfl rfl rfl rfl ?_
  repeat' (first | (apply RL_pu; rfl; exact PuDayf0) | (refine js ?_; (refine bx ?_; intro bk)) | refine walk1 ?_ | (refine W_cond rfl (fun hc => ?_) (fun hc => ?_)))
  all_goals exact clo1
 ·rw [show findD p q ⟨2, wk, dd⟩ = beforeW q wk by simp [findD]]
  show Does _ 289 [.int .i64 p, .int .i64 q, .agg #[.int .i64 2, .int .i64 wk, .int .i64 dd]] w _
  refine Does_of_W Tryz.func289 rfl rfl rfl rfl ?_
  repeat' (first | (apply RL_pu; rfl; exact PuDayf0) | (refine js ?_; (first | (refine callE (fun w' _ => before_spec q wk (by omega) hw w') ?_) | (refine bx ?_; intro bk))) | refine walk1 ?_ | (refine W_cond rfl (fun hc => ?_) (fun hc => ?_)))
  all_goals exact clo1
 ·rw [show findD p q ⟨3, wk, dd⟩ = behindW (p + dd - 1) wk by simp [findD]]
  show Does _ 291 [.int .i64 p, .int .i64 q, .agg #[.int .i64 3, .int .i64 wk, .int .i64 dd]] w _
  refine Does_of_W Tryz.func291 rfl rfl rfl rfl ?_
  repeat' (first | (apply RL_pu; rfl; exact PuDayf0) | (refine js ?_; (first | (refine callE (fun w' _ => behind_spec (p + dd - 1) wk (by omega) hw w') ?_) | (refine bx ?_; intro bk))) | refine walk1 ?_ | (refine W_cond rfl (fun hc => ?_) (fun hc => ?_)))
  all_goals exact clo1
 ·rw [show findD p q ⟨4, wk, dd⟩ = beforeW (p + dd - 1) wk by simp [findD]]
  show Does _ 293 [.int .i64 p, .int .i64 q, .agg #[.int .i64 4, .int .i64 wk, .int .i64 dd]] w _
  refine Does_of_W Tryz.func293 rfl rfl rfl rfl ?_
  repeat' (first | (apply RL_pu; rfl; exact PuDayf0) | (refine js ?_; (first | (refine callE (fun w' _ => before_spec (p + dd - 1) wk (by omega) hw w') ?_) | (refine bx ?_; intro bk))) | refine walk1 ?_ | (refine W_cond rfl (fun hc => ?_) (fun hc => ?_)))
  all_goals exact clo1
theorem kin_at {w : World} (hG : Glob w) (k : Int) (hk : 1 ≤ k ∧ k ≤ 4) : CellsAt w ((⟨1, 0, none⟩ : Addr).add (k.toNat * 3)) [.bool (weekK k), .bool (dayK k), fnV (kindFn k)] := by
 intro j v hj
 have hk := hG.kin ((k.toNat - 1) * 3 + j) v
 have h4 : k = 1 ∨ k = 2 ∨ k = 3 ∨ k = 4 := by omega
 have hj3 : j < 3 := (List.getElem?_eq_some_iff.1 hj).1
 have h3 : j = 0 ∨ j = 1 ∨ j = 2 := by omega
 rcases h4 with rfl | rfl | rfl | rfl <;> rcases h3 with rfl | rfl | rfl <;> exact hk hj
theorem dcheck_spec (d : DDay) (w : World) (hG : Glob w) : Does Tryz.prog 40 [.agg (DDay.enc d).toArray] w (fun v O => v = .int .i64 (if dayChk d then 0 else 2) ∧ O = []) := by
 obtain ⟨k, wk, dd⟩ := d
 by_cases hk : 1 ≤ k ∧ k ≤ 4
 ·have hcell := kin_at hG k hk
  have e : dayChk ⟨k, wk, dd⟩ = !((!decide (wk = 0) && !weekK k) || decide (wk < 0) || decide (6 < wk) || (dayK k == decide (dd = 0)) || decide (dd < 0) || decide (31 < dd)) := by simp [dayChk, hk.1, hk.2]
  rw [e]
  generalize weekK k = b1 at *
  generalize dayK k = b2 at *
  show Does _ _ [.agg #[.int .i64 k, .int .i64 wk, .int .i64 dd]] w _
  refine Does_of_W Tryz.func40 rfl rfl rfl rfl ?_
  repeat' (first | (apply RL_pu; rfl; (first | exact PuDayf0 | (apply Pu_indexArr; rfl; rfl; omega; omega) | (apply Pu_loadON; rfl; exact hcell; rfl))) | (refine js ?_; (refine bx ?_; intro bk)) | refine walk1 ?_ | refine und ?_ | (refine RL_gsplit rfl rfl rfl (fun hc => ?_) (fun hc => ?_)) | (refine RD_gsplit rfl rfl rfl (fun hc => ?_) (fun hc => ?_)) | (refine W_cond rfl (fun hc => ?_) (fun hc => ?_)))
  all_goals exact clo1
 ·have e : dayChk ⟨k, wk, dd⟩ = false := by
   simp only [dayChk]
   have : (decide (1 ≤ k) && decide (k ≤ 4)) = false := by simp; omega
   rw [this]; rfl
  rw [e]
  show Does _ _ [.agg #[.int .i64 k, .int .i64 wk, .int .i64 dd]] w _
  refine Does_of_W Tryz.func40 rfl rfl rfl rfl ?_
  repeat' (first | (refine js ?_; (refine bx ?_; intro bk)) | refine walk ?_ | refine und ?_ | (refine RL_gsplit rfl rfl rfl (fun hc => ?_) (fun hc => ?_)) | (refine RD_gsplit rfl rfl rfl (fun hc => ?_) (fun hc => ?_)) | (refine W_cond rfl (fun hc => ?_) (fun hc => ?_)))
  all_goals exact clo1
theorem ccheck_spec (d : DClock) (w : World) : Does Tryz.prog 41 [.agg (DClock.enc d).toArray] w (fun v O => v = .int .i64 (if clkChk d then 0 else 2) ∧ O = []) := by
 obtain ⟨k, wk⟩ := d
 show Does _ _ [.agg #[.int .i64 k, .int .i64 wk]] w _
 refine Does_of_W Tryz.func41 rfl rfl rfl rfl ?_
 repeat' (first | (refine js ?_; (refine bx ?_; intro bk)) | refine walk ?_ | refine und ?_ | (refine RL_gsplit rfl rfl rfl (fun hc => ?_) (fun hc => ?_)) | (refine RD_gsplit rfl rfl rfl (fun hc => ?_) (fun hc => ?_)) | (refine W_cond rfl (fun hc => ?_) (fun hc => ?_)))
 all_goals first | (refine ret_1 _ [] (.tmp rfl) .nil ⟨?_, rfl⟩; first | rfl | (simp only [*, Bool.true_and, Bool.false_and, Bool.true_or, Bool.false_or, Bool.not_true, Bool.not_false]; done) | (simp_all [clkChk]; done) | (simp_all [clkChk]; omega) | (simp_all [clkChk]; rw [Bool.eq_iff_iff]; simp; omega)) | (exfalso; simp_all [clkChk]; done) | (exfalso; simp_all [clkChk]; omega) | (exfalso; omega)
theorem dayChk_bd {d : DDay} (h : dayChk d = true) : (1 ≤ d.kind ∧ d.kind ≤ 4) ∧ (0 ≤ d.week ∧ d.week ≤ 6) ∧ 0 ≤ d.day ∧ d.day ≤ 31 := by
 simp only [dayChk, Bool.and_eq_true, Bool.not_eq_true', Bool.or_eq_false_iff, decide_eq_true_eq, decide_eq_false_iff_not] at h
 omega
theorem dayNo_bd {y m d : Int} (h : daysOk y m d = true) : -1000000000000 ≤ dayNo y m d ∧ dayNo y m d ≤ 1000000000000 := by
 obtain ⟨h1, h2, h3⟩ := daysOk_bd h
 unfold dayNo dayNoM
 have hb := beforeL_bd
 split
 ·have := hb (m + 12 - 3).toNat
  omega
 ·have := hb (m - 3).toNat
  omega
theorem PuDayf2 {G : Prop} (h : G := by (first | exact PuDayf0 | (apply Pu_indexArr; rfl; rfl; omega; omega) | (apply Pu_loadO1'; rfl; exact hcell; rfl))) : G := h
theorem QyDayf2 {G : Prop} (h : G := by first | (apply Qy_y; rfl; exact PuDayf2) | exact QyA) : G := h
theorem QFDayf2 {G : Prop} (h : G := by repeat (first | exact QF.nil | (apply QF.mk; rfl; rfl; decide +kernel; exact QyDayf2))) : G := h
theorem on_spec (y m : Int) (d : DDay) (w : World) (hG : Glob w) : Does Tryz.prog 66 [.int .i64 y, .int .i64 m, .agg (DDay.enc d).toArray] w (fun v O => v = .tuple #[.int .i64 (onD y m d).1, .int .i64 (onD y m d).2] ∧ O = []) := by
 have hl := lenM_bd y m
 have hdc := fun w' hw => dcheck_spec d w' (Glob.up (w' := w') hG hw)
 by_cases hok : daysOk y m 1 = true
 ·have hdb := dayNo_bd hok
  by_cases hc : dayChk d = true
  ·obtain ⟨b1, b2, b3⟩ := dayChk_bd hc
   have hcell := kin_at hG d.kind b1
   have hks := fun w' => kinds_spec (dayNo y m 1) (dayNo y m 1 + lenM y m - 1) d (by omega) (by omega) b1 b2 b3 w'
   haveI : Body Tryz.prog (kindFn d.kind) := by
    unfold kindFn
    split
    ·infer_instance
    ·split
     ·infer_instance
     ·split <;> infer_instance
   have e : onD y m d = if lenM y m < d.day then (0, 4) else (findD (dayNo y m 1) (dayNo y m 1 + lenM y m - 1) d, 0) := by simp [onD, hok, hc]
   rw [e]
   clear e
   have ed := days_spec y m 1
   rw [if_pos hok, if_pos hok] at ed
   rw [hc] at hdc
   generalize findD (dayNo y m 1) (dayNo y m 1 + lenM y m - 1) d = res at *
   obtain ⟨k, wk, dd⟩ := d
   simp only at *
   generalize kindFn k = kf at *
   show Does _ _ [.int .i64 y, .int .i64 m, .agg #[.int .i64 k, .int .i64 wk, .int .i64 dd]] w _
   refine Does_of_W Tryz.func66 rfl rfl rfl rfl ?_
   repeat' (first | (apply RL_pu; rfl; exact PuDayf2) | (refine js ?_; (first | (apply Stp_callV (f := kf) (us := []) (cs := []) (vs := [.int .i64 (dayNo y m 1), .int .i64 (dayNo y m 1 + lenM y m - 1), .agg #[.int .i64 k, .int .i64 wk, .int .i64 dd]]) (h := fun w' hw _ => hks w'); rfl; rfl; rintro v O' ⟨rfl, rfl⟩) | (refine callE (fun w' hw => ed w' (hG.up hw)) ?_) | (refine callE hdc ?_) | (refine callE (fun w' hw => len_spec y m w') ?_) | (refine bx ?_; intro bk))) | (apply RD_Q; rfl; rfl; decide +kernel; rfl; rfl; exact QyDayf2) | refine walk1 ?_ | (refine RD_G0w ?_; intro F; (first | (apply Stp_callV (f := kf) (us := []) (cs := []) (vs := [.int .i64 (dayNo y m 1), .int .i64 (dayNo y m 1 + lenM y m - 1), .agg #[.int .i64 k, .int .i64 wk, .int .i64 dd]]) (h := fun w' hw _ => hks w'); rfl; rfl; rintro v O' ⟨rfl, rfl⟩) | (refine callE (fun w' hw => ed w' (hG.up hw)) ?_) | (refine callE hdc ?_) | (refine callE (fun w' hw => len_spec y m w') ?_)); refine ⟨_, EndsA, SubO.right _ _, ?_⟩) | (refine RD_Lw ?_; intro F; (first | (apply Stp_callV (f := kf) (us := []) (cs := []) (vs := [.int .i64 (dayNo y m 1), .int .i64 (dayNo y m 1 + lenM y m - 1), .agg #[.int .i64 k, .int .i64 wk, .int .i64 dd]]) (h := fun w' hw _ => hks w'); rfl; rfl; rintro v O' ⟨rfl, rfl⟩) | (refine callE (fun w' hw => ed w' (hG.up hw)) ?_) | (refine callE hdc ?_) | (refine callE (fun w' hw => len_spec y m w') ?_) | (refine bx ?_; intro bk) | (apply Stp_pu; first | exact PuDayf2 | exact PuA)); refine ⟨_, EndsA, QFDayf2, ?_⟩) | (refine W_cond rfl (fun hc => ?_) (fun hc => ?_)))
   ·have hr := hc
    rw [if_pos (of_decide_eq_true hr)]
    exact rtB
   ·have hr := hc
    rw [if_neg (of_decide_eq_false hr)]
    exact rtB
  ·have e : onD y m d = (0, 2) := by simp [onD, hok, hc]
   rw [e]
   have ed := days_spec y m 1
   rw [if_pos hok, if_pos hok] at ed
   rw [Bool.not_eq_true] at hc
   rw [hc] at hdc
   obtain ⟨k, wk, dd⟩ := d
   show Does _ _ [.int .i64 y, .int .i64 m, .agg #[.int .i64 k, .int .i64 wk, .int .i64 dd]] w _
   refine Does_of_W Tryz.func66 rfl rfl rfl rfl ?_
   repeat' (first | (refine js ?_; (first | (refine callE (fun w' hw => ed w' (hG.up hw)) ?_) | (refine callE hdc ?_) | (refine bx ?_; intro bk))) | refine walk ?_ | (refine RD_G0w ?_; intro F; (first | (refine callE (fun w' hw => ed w' (hG.up hw)) ?_) | (refine callE hdc ?_)); refine ⟨_, EndsA, SubO.right _ _, ?_⟩) | (refine RD_Lw ?_; intro F; (first | (refine callE (fun w' hw => ed w' (hG.up hw)) ?_) | (refine callE hdc ?_) | (refine bx ?_; intro bk) | (apply Stp_pu; exact PuA)); refine ⟨_, EndsA, QFA, ?_⟩) | (refine W_cond rfl (fun hc => ?_) (fun hc => ?_)))
   all_goals exact clo2
 ·have e : onD y m d = (0, 3) := by simp [onD, hok]
  rw [e]
  have ed := days_spec y m 1
  rw [if_neg hok, if_neg hok] at ed
  refine Does_of_W Tryz.func66 rfl rfl rfl rfl ?_
  repeat' (first | (refine js ?_; (first | (refine callE (fun w' hw => ed w' (hG.up hw)) ?_) | (refine bx ?_; intro bk))) | refine walk ?_ | (refine RD_G0w ?_; intro F; (refine callE (fun w' hw => ed w' (hG.up hw)) ?_); refine ⟨_, EndsA, SubO.right _ _, ?_⟩) | (refine RD_Lw ?_; intro F; (first | (refine callE (fun w' hw => ed w' (hG.up hw)) ?_) | (refine bx ?_; intro bk) | (apply Stp_pu; exact PuA)); refine ⟨_, EndsA, QFA, ?_⟩) | (refine W_cond rfl (fun hc => ?_) (fun hc => ?_)))
  all_goals exact clo2
theorem PuDayf3 {G : Prop} (h : G := by (apply Pu_rem; rfl; rfl; decide)) : G := h
theorem QyDayf3 {G : Prop} (h : G := by first | (apply Qy_y; rfl; exact PuDayf3) | exact QyA) : G := h
theorem QFDayf3 {G : Prop} (h : G := by repeat (first | exact QF.nil | (apply QF.mk; rfl; rfl; decide +kernel; exact QyDayf3))) : G := h
theorem always_spec (a b m : Int) (d : DDay) (w : World) (hG : Glob w) : Does Tryz.prog 303 [.int .i64 a, .int .i64 b, .int .i64 m, .agg (DDay.enc d).toArray] w (fun v O => v = .bool (alwaysD a b m d) ∧ O = []) := by
 have hdc := fun w' hw => dcheck_spec d w' (Glob.up (w' := w') hG hw)
 unfold alwaysD
 generalize dayChk d = c at *
 obtain ⟨k, wk, dd⟩ := d
 simp only at *
 show Does _ _ [.int .i64 a, .int .i64 b, .int .i64 m, .agg #[.int .i64 k, .int .i64 wk, .int .i64 dd]] w _
 refine Does_of_W Tryz.func303 rfl rfl rfl rfl ?_
 repeat' (first | (apply RL_pu; rfl; exact PuDayf3) | (refine js ?_; (first | (refine callE hdc ?_) | (refine callE (fun w' hw => len_spec 1 m w') ?_) | (refine callE (fun w' hw => len_spec (a.tmod 400) m w') ?_) | (refine bx ?_; intro bk))) | (apply RD_Q; rfl; rfl; decide +kernel; rfl; rfl; exact QyDayf3) | refine walk1 ?_ | (refine RD_G0w ?_; intro F; (first | (refine callE hdc ?_) | (refine callE (fun w' hw => len_spec 1 m w') ?_) | (refine callE (fun w' hw => len_spec (a.tmod 400) m w') ?_)); refine ⟨_, EndsA, SubO.right _ _, ?_⟩) | (refine RD_Lw ?_; intro F; (first | (refine callE hdc ?_) | (refine callE (fun w' hw => len_spec 1 m w') ?_) | (refine callE (fun w' hw => len_spec (a.tmod 400) m w') ?_) | (refine bx ?_; intro bk) | (apply Stp_pu; first | exact PuDayf3 | exact PuA)); refine ⟨_, EndsA, QFDayf3, ?_⟩) | refine und ?_ | (refine RL_gsplit rfl rfl rfl (fun hc => ?_) (fun hc => ?_)) | (refine RD_gsplit rfl rfl rfl (fun hc => ?_) (fun hc => ?_)) | (refine W_cond rfl (fun hc => ?_) (fun hc => ?_)))
 all_goals exact clo1
end Go.Proofs.YtonjepladadmhaaGreatDoor
