/- Parts of the proof. -/
import Derived.Test.YtdlmhmmhdbbliaaGreatDoorW06
import Derived.Laws.Externs
import Derived.Scope
import Derived.Laws.IdiomStrings
set_option maxHeartbeats 4000000
set_option linter.unusedVariables false
set_option linter.unusedSimpArgs false
namespace Go.Proofs.YtdlmhmmhdbbliaaGreatDoor
open Go Go.RowKit Go.Wk
attribute [local irreducible] W RL Does Zau Zaj retQ Calls Pu Stp RD Qy Ay Zak
theorem Zn6 (x k : Int) (hx : -1000000000000000000 <= x /\ x <= 1000000000000000000) (hk : 0 <= k /\ k <= 6) (w : World) : Does Tryz.prog 303 [.int .i64 x, .int .i64 k] w (fun v O => v = .int .i64 (ZeC x k) /\ O = []) := by
 have hw := ZoJ x
 refine Zab Tryz.func303 rfl rfl rfl rfl ?_
 unfold ZeC
 repeat' (first | (apply RL_pu; rfl; exact PuDayf0) | (refine js ?_; (refine Zac (fun w' _ => Zjo x (by omega) w') ?_)) | refine walk1 ?_ | (refine Zaf rfl (fun hc => ?_) (fun hc => ?_)))
 all_goals exact clo1
theorem ZiG (x k : Int) (hx : -1000000000000000000 <= x /\ x <= 1000000000000000000) (hk : 0 <= k /\ k <= 6) (w : World) : Does Tryz.prog 301 [.int .i64 x, .int .i64 k] w (fun v O => v = .int .i64 (ZdZ x k) /\ O = []) := by
 have hw := ZoJ x
 refine Zab Tryz.func301 rfl rfl rfl rfl ?_
 unfold ZdZ
 repeat' (first | (apply RL_pu; rfl; exact PuDayf0) | (refine js ?_; (refine Zac (fun w' _ => Zjo x (by omega) w') ?_)) | refine walk1 ?_ | (refine Zaf rfl (fun hc => ?_) (fun hc => ?_)))
 all_goals exact clo1
def Zl8 (k : Int) : FuncId := if k = 1 then 299 else if k = 2 then 300 else if k = 3 then 302 else 304
theorem ZqD (p q : Int) (d : DDay) (hp : -100000000000000000 <= p /\ p <= 100000000000000000) (hq : -100000000000000000 <= q /\ q <= 100000000000000000) (hk : 1 <= d.kind /\ d.kind <= 4) (hw : 0 <= d.week /\ d.week <= 6) (hd : 0 <= d.day /\ d.day <= 31) (w : World) :
  Does Tryz.prog (Zl8 d.kind) [.int .i64 p, .int .i64 q, .agg (DDay.enc d).toArray] w (fun v O => v = .int .i64 (Zec p q d) /\ O = []) := by
 obtain ⟨k, wk, dd⟩ := d
 simp only at hk hw hd ⊢
 have h4 : k = 1 \/ k = 2 \/ k = 3 \/ k = 4 := by omega
 rcases h4 with rfl | rfl | rfl | rfl
 ·rw [show Zec p q ⟨1, wk, dd⟩ = p + dd - 1 by simp [Zec]]
  show Does _ 299 [.int .i64 p, .int .i64 q, .agg #[.int .i64 1, .int .i64 wk, .int .i64 dd]] w _
  refine Zab Tryz.func299 rfl rfl rfl rfl ?_
  repeat' (first | (apply RL_pu; rfl; exact PuDayf0) | (refine js ?_; (refine bx ?_; intro bk)) | refine walk1 ?_ | (refine Zaf rfl (fun hc => ?_) (fun hc => ?_)))
  all_goals exact clo1
 ·rw [show Zec p q ⟨2, wk, dd⟩ = ZdZ q wk by simp [Zec]]
  show Does _ 300 [.int .i64 p, .int .i64 q, .agg #[.int .i64 2, .int .i64 wk, .int .i64 dd]] w _
  refine Zab Tryz.func300 rfl rfl rfl rfl ?_
  repeat' (first | (apply RL_pu; rfl; exact PuDayf0) | (refine js ?_; (first | (refine Zac (fun w' _ => ZiG q wk (by omega) hw w') ?_) | (refine bx ?_; intro bk))) | refine walk1 ?_ | (refine Zaf rfl (fun hc => ?_) (fun hc => ?_)))
  all_goals exact clo1
 ·rw [show Zec p q ⟨3, wk, dd⟩ = ZeC (p + dd - 1) wk by simp [Zec]]
  show Does _ 302 [.int .i64 p, .int .i64 q, .agg #[.int .i64 3, .int .i64 wk, .int .i64 dd]] w _
  refine Zab Tryz.func302 rfl rfl rfl rfl ?_
  repeat' (first | (apply RL_pu; rfl; exact PuDayf0) | (refine js ?_; (first | (refine Zac (fun w' _ => Zn6 (p + dd - 1) wk (by omega) hw w') ?_) | (refine bx ?_; intro bk))) | refine walk1 ?_ | (refine Zaf rfl (fun hc => ?_) (fun hc => ?_)))
  all_goals exact clo1
 ·rw [show Zec p q ⟨4, wk, dd⟩ = ZdZ (p + dd - 1) wk by simp [Zec]]
  show Does _ 304 [.int .i64 p, .int .i64 q, .agg #[.int .i64 4, .int .i64 wk, .int .i64 dd]] w _
  refine Zab Tryz.func304 rfl rfl rfl rfl ?_
  repeat' (first | (apply RL_pu; rfl; exact PuDayf0) | (refine js ?_; (first | (refine Zac (fun w' _ => ZiG (p + dd - 1) wk (by omega) hw w') ?_) | (refine bx ?_; intro bk))) | refine walk1 ?_ | (refine Zaf rfl (fun hc => ?_) (fun hc => ?_)))
  all_goals exact clo1
theorem Zv7 {w : World} (hG : Glob w) (k : Int) (hk : 1 <= k /\ k <= 4) : Zal w ((⟨3, 0, none⟩ : Addr).add (k.toNat * 3)) [.bool (Zlp k), .bool (dayK k), fnV (Zl8 k)] := by
 intro j v hj
 have hk := hG.kin ((k.toNat - 1) * 3 + j) v
 have h4 : k = 1 \/ k = 2 \/ k = 3 \/ k = 4 := by omega
 have hj3 : j < 3 := (List.getElem?_eq_some_iff.1 hj).1
 have h3 : j = 0 \/ j = 1 \/ j = 2 := by omega
 rcases h4 with rfl | rfl | rfl | rfl <;> rcases h3 with rfl | rfl | rfl <;> exact hk hj
theorem ZdX (d : DDay) (w : World) (hG : Glob w) : Does Tryz.prog 70 [.agg (DDay.enc d).toArray] w (fun v O => v = .int .i64 (if ZbK d then 0 else 2) /\ O = []) := by
 obtain ⟨k, wk, dd⟩ := d
 by_cases hk : 1 <= k /\ k <= 4
 ·have hcell := Zv7 hG k hk
  have e : ZbK ⟨k, wk, dd⟩ = !((!decide (wk = 0) && !Zlp k) || decide (wk < 0) || decide (6 < wk) || (dayK k == decide (dd = 0)) || decide (dd < 0) || decide (31 < dd)) := by simp [ZbK, hk.1, hk.2]
  rw [e]
  generalize Zlp k = b1 at *
  generalize dayK k = b2 at *
  show Does _ _ [.agg #[.int .i64 k, .int .i64 wk, .int .i64 dd]] w _
  refine Zab Tryz.func70 rfl rfl rfl rfl ?_
  repeat' (first | (apply RL_pu; rfl; (first | exact PuDayf0 | (apply Za8; rfl; rfl; omega; omega) | (apply Pu_loadON; rfl; exact hcell; rfl))) | (refine js ?_; (refine bx ?_; intro bk)) | refine walk1 ?_ | refine und ?_ | (refine Zas rfl rfl rfl (fun hc => ?_) (fun hc => ?_)) | (refine Zar rfl rfl rfl (fun hc => ?_) (fun hc => ?_)) | (refine Zaf rfl (fun hc => ?_) (fun hc => ?_)))
  all_goals exact clo1
 ·have e : ZbK ⟨k, wk, dd⟩ = false := by
   simp only [ZbK]
   have : (decide (1 <= k) && decide (k <= 4)) = false := by simp; omega
   rw [this]; rfl
  rw [e]
  show Does _ _ [.agg #[.int .i64 k, .int .i64 wk, .int .i64 dd]] w _
  refine Zab Tryz.func70 rfl rfl rfl rfl ?_
  repeat' (first | (refine js ?_; (refine bx ?_; intro bk)) | refine walk ?_ | refine und ?_ | (refine Zas rfl rfl rfl (fun hc => ?_) (fun hc => ?_)) | (refine Zar rfl rfl rfl (fun hc => ?_) (fun hc => ?_)) | (refine Zaf rfl (fun hc => ?_) (fun hc => ?_)))
  all_goals exact clo1
theorem Zcb (d : ZeK) (w : World) : Does Tryz.prog 71 [.agg (ZeK.enc d).toArray] w (fun v O => v = .int .i64 (if ZaL d then 0 else 2) /\ O = []) := by
 obtain ⟨k, wk⟩ := d
 show Does _ _ [.agg #[.int .i64 k, .int .i64 wk]] w _
 refine Zab Tryz.func71 rfl rfl rfl rfl ?_
 repeat' (first | (refine js ?_; (refine bx ?_; intro bk)) | refine walk ?_ | refine und ?_ | (refine Zas rfl rfl rfl (fun hc => ?_) (fun hc => ?_)) | (refine Zar rfl rfl rfl (fun hc => ?_) (fun hc => ?_)) | (refine Zaf rfl (fun hc => ?_) (fun hc => ?_)))
 all_goals first | (refine ret_1 _ [] (.tmp rfl) .nil ⟨?_, rfl⟩; first | rfl | (simp only [*, Bool.true_and, Bool.false_and, Bool.true_or, Bool.false_or, Bool.not_true, Bool.not_false]; done) | (simp_all [ZaL]; done) | (simp_all [ZaL]; omega) | (simp_all [ZaL]; rw [Bool.eq_iff_iff]; simp; omega)) | (exfalso; simp_all [ZaL]; done) | (exfalso; simp_all [ZaL]; omega) | (exfalso; omega)
theorem Ziz {d : DDay} (h : ZbK d = true) : (1 <= d.kind /\ d.kind <= 4) /\ (0 <= d.week /\ d.week <= 6) /\ 0 <= d.day /\ d.day <= 31 := by
 simp only [ZbK, Bool.and_eq_true, Bool.not_eq_true', Bool.or_eq_false_iff, decide_eq_true_eq, decide_eq_false_iff_not] at h
 omega
theorem ZeW {y m d : Int} (h : ZaH y m d = true) : -1000000000000 <= Zam y m d /\ Zam y m d <= 1000000000000 := by
 obtain ⟨h1, h2, h3⟩ := Zmu h
 unfold Zam ZbQ
 have hb := ZeY
 split
 ·have := hb (m + 12 - 3).toNat
  omega
 ·have := hb (m - 3).toNat
  omega
theorem Zou {G : Prop} (h : G := by (first | exact PuDayf0 | (apply Za8; rfl; rfl; omega; omega) | (apply Pu_loadO1'; rfl; exact hcell; rfl))) : G := h
theorem ZtD {G : Prop} (h : G := by first | (apply Qy_y; rfl; exact Zou) | exact QyA) : G := h
theorem Zx6 {G : Prop} (h : G := by repeat (first | exact QF.nil | (apply QF.mk; rfl; rfl; decide +kernel; exact ZtD))) : G := h
theorem Zh0 (y m : Int) (d : DDay) (w : World) (hG : Glob w) : Does Tryz.prog 69 [.int .i64 y, .int .i64 m, .agg (DDay.enc d).toArray] w (fun v O => v = .tuple #[.int .i64 (onD y m d).1, .int .i64 (onD y m d).2] /\ O = []) := by
 have hl := ZgG y m
 have hdc := fun w' hw => ZdX d w' (Glob.up (w' := w') hG hw)
 by_cases hok : ZaH y m 1 = true
 ·have hdb := ZeW hok
  by_cases hc : ZbK d = true
  ·obtain ⟨b1, b2, b3⟩ := Ziz hc
   have hcell := Zv7 hG d.kind b1
   have hks := fun w' => ZqD (Zam y m 1) (Zam y m 1 + lenM y m - 1) d (by omega) (by omega) b1 b2 b3 w'
   haveI : Body Tryz.prog (Zl8 d.kind) := by
    unfold Zl8
    split
    ·infer_instance
    ·split
     ·infer_instance
     ·split <;> infer_instance
   have e : onD y m d = if lenM y m < d.day then (0, 4) else (Zec (Zam y m 1) (Zam y m 1 + lenM y m - 1) d, 0) := by simp [onD, hok, hc]
   rw [e]
   clear e
   have ed := ZcZ y m 1
   rw [if_pos hok, if_pos hok] at ed
   rw [hc] at hdc
   generalize Zec (Zam y m 1) (Zam y m 1 + lenM y m - 1) d = res at *
   obtain ⟨k, wk, dd⟩ := d
   simp only at *
   generalize Zl8 k = kf at *
   show Does _ _ [.int .i64 y, .int .i64 m, .agg #[.int .i64 k, .int .i64 wk, .int .i64 dd]] w _
   refine Zab Tryz.func69 rfl rfl rfl rfl ?_
   repeat' (first | (apply RL_pu; rfl; exact Zou) | (refine js ?_; (first | (apply Zaq (f := kf) (us := []) (cs := []) (vs := [.int .i64 (Zam y m 1), .int .i64 (Zam y m 1 + lenM y m - 1), .agg #[.int .i64 k, .int .i64 wk, .int .i64 dd]]) (h := fun w' hw _ => hks w'); rfl; rfl; rintro v O' ⟨rfl, rfl⟩) | (refine Zac (fun w' hw => ed w' (hG.up hw)) ?_) | (refine Zac hdc ?_) | (refine Zac (fun w' hw => ZbM y m w') ?_) | (refine bx ?_; intro bk))) | (apply RD_Q; rfl; rfl; decide +kernel; rfl; rfl; exact ZtD) | refine walk1 ?_ | (refine ZeF ?_; intro F; (first | (apply Zaq (f := kf) (us := []) (cs := []) (vs := [.int .i64 (Zam y m 1), .int .i64 (Zam y m 1 + lenM y m - 1), .agg #[.int .i64 k, .int .i64 wk, .int .i64 dd]]) (h := fun w' hw _ => hks w'); rfl; rfl; rintro v O' ⟨rfl, rfl⟩) | (refine Zac (fun w' hw => ed w' (hG.up hw)) ?_) | (refine Zac hdc ?_) | (refine Zac (fun w' hw => ZbM y m w') ?_)); refine ⟨_, EndsA, SubO.right _ _, ?_⟩) | (refine RD_Lw ?_; intro F; (first | (apply Zaq (f := kf) (us := []) (cs := []) (vs := [.int .i64 (Zam y m 1), .int .i64 (Zam y m 1 + lenM y m - 1), .agg #[.int .i64 k, .int .i64 wk, .int .i64 dd]]) (h := fun w' hw _ => hks w'); rfl; rfl; rintro v O' ⟨rfl, rfl⟩) | (refine Zac (fun w' hw => ed w' (hG.up hw)) ?_) | (refine Zac hdc ?_) | (refine Zac (fun w' hw => ZbM y m w') ?_) | (refine bx ?_; intro bk) | (apply Zae; first | exact Zou | exact PuA)); refine ⟨_, EndsA, Zx6, ?_⟩) | (refine Zaf rfl (fun hc => ?_) (fun hc => ?_)))
   ·have hr := hc
    rw [if_pos (of_decide_eq_true hr)]
    exact rtB
   ·have hr := hc
    rw [if_neg (of_decide_eq_false hr)]
    exact rtB
  ·have e : onD y m d = (0, 2) := by simp [onD, hok, hc]
   rw [e]
   have ed := ZcZ y m 1
   rw [if_pos hok, if_pos hok] at ed
   rw [Bool.not_eq_true] at hc
   rw [hc] at hdc
   obtain ⟨k, wk, dd⟩ := d
   show Does _ _ [.int .i64 y, .int .i64 m, .agg #[.int .i64 k, .int .i64 wk, .int .i64 dd]] w _
   refine Zab Tryz.func69 rfl rfl rfl rfl ?_
   repeat' (first | (refine js ?_; (first | (refine Zac (fun w' hw => ed w' (hG.up hw)) ?_) | (refine Zac hdc ?_) | (refine bx ?_; intro bk))) | refine walk ?_ | (refine ZeF ?_; intro F; (first | (refine Zac (fun w' hw => ed w' (hG.up hw)) ?_) | (refine Zac hdc ?_)); refine ⟨_, EndsA, SubO.right _ _, ?_⟩) | (refine RD_Lw ?_; intro F; (first | (refine Zac (fun w' hw => ed w' (hG.up hw)) ?_) | (refine Zac hdc ?_) | (refine bx ?_; intro bk) | (apply Zae; exact PuA)); refine ⟨_, EndsA, QFA, ?_⟩) | (refine Zaf rfl (fun hc => ?_) (fun hc => ?_)))
   all_goals exact clo2
 ·have e : onD y m d = (0, 3) := by simp [onD, hok]
  rw [e]
  have ed := ZcZ y m 1
  rw [if_neg hok, if_neg hok] at ed
  refine Zab Tryz.func69 rfl rfl rfl rfl ?_
  repeat' (first | (refine js ?_; (first | (refine Zac (fun w' hw => ed w' (hG.up hw)) ?_) | (refine bx ?_; intro bk))) | refine walk ?_ | (refine ZeF ?_; intro F; (refine Zac (fun w' hw => ed w' (hG.up hw)) ?_); refine ⟨_, EndsA, SubO.right _ _, ?_⟩) | (refine RD_Lw ?_; intro F; (first | (refine Zac (fun w' hw => ed w' (hG.up hw)) ?_) | (refine bx ?_; intro bk) | (apply Zae; exact PuA)); refine ⟨_, EndsA, QFA, ?_⟩) | (refine Zaf rfl (fun hc => ?_) (fun hc => ?_)))
  all_goals exact clo2
theorem Zot {G : Prop} (h : G := by (apply Pu_rem; rfl; rfl; decide)) : G := h
theorem ZtC {G : Prop} (h : G := by first | (apply Qy_y; rfl; exact Zot) | exact QyA) : G := h
theorem Zx5 {G : Prop} (h : G := by repeat (first | exact QF.nil | (apply QF.mk; rfl; rfl; decide +kernel; exact ZtC))) : G := h
theorem Zob (a b m : Int) (d : DDay) (w : World) (hG : Glob w) : Does Tryz.prog 310 [.int .i64 a, .int .i64 b, .int .i64 m, .agg (DDay.enc d).toArray] w (fun v O => v = .bool (ZfH a b m d) /\ O = []) := by
 have hdc := fun w' hw => ZdX d w' (Glob.up (w' := w') hG hw)
 unfold ZfH
 generalize ZbK d = c at *
 obtain ⟨k, wk, dd⟩ := d
 simp only at *
 show Does _ _ [.int .i64 a, .int .i64 b, .int .i64 m, .agg #[.int .i64 k, .int .i64 wk, .int .i64 dd]] w _
 refine Zab Tryz.func310 rfl rfl rfl rfl ?_
 repeat' (first | (apply RL_pu; rfl; exact Zot) | (refine js ?_; (first | (refine Zac hdc ?_) | (refine Zac (fun w' hw => ZbM 1 m w') ?_) | (refine Zac (fun w' hw => ZbM (a.tmod 400) m w') ?_) | (refine bx ?_; intro bk))) | (apply RD_Q; rfl; rfl; decide +kernel; rfl; rfl; exact ZtC) | refine walk1 ?_ | (refine ZeF ?_; intro F; (first | (refine Zac hdc ?_) | (refine Zac (fun w' hw => ZbM 1 m w') ?_) | (refine Zac (fun w' hw => ZbM (a.tmod 400) m w') ?_)); refine ⟨_, EndsA, SubO.right _ _, ?_⟩) | (refine RD_Lw ?_; intro F; (first | (refine Zac hdc ?_) | (refine Zac (fun w' hw => ZbM 1 m w') ?_) | (refine Zac (fun w' hw => ZbM (a.tmod 400) m w') ?_) | (refine bx ?_; intro bk) | (apply Zae; first | exact Zot | exact PuA)); refine ⟨_, EndsA, Zx5, ?_⟩) | refine und ?_ | (refine Zas rfl rfl rfl (fun hc => ?_) (fun hc => ?_)) | (refine Zar rfl rfl rfl (fun hc => ?_) (fun hc => ?_)) | (refine Zaf rfl (fun hc => ?_) (fun hc => ?_)))
 all_goals exact clo1
end Go.Proofs.YtdlmhmmhdbbliaaGreatDoor
namespace Go.Wk
open Go Go.RowKit
structure Zb2 where
 kind : Int
 day : Int
 month : Int
 week : Int
 sec : Int
deriving DecidableEq
def Zb2.enc (x : Zb2) : List Value := [.int .i64 x.kind, .int .i64 x.day, .int .i64 x.month, .int .i64 x.week, .int .i64 x.sec]
def dt0 : Zb2 := ⟨0, 0, 0, 0, 0⟩
def Zbp (n : Int) : Bool := decide (-604799 <= n) && decide (n <= 604799)
def Zcx (m : Int) (d : DDay) : Zb2 × Bool :=
 if d.kind = 1 then (⟨1, (if ZaH 2001 m d.day then Zam 2001 m d.day else 0) - Zam 2001 1 1 + 1, 0, 0, 0⟩, ZaH 2001 m d.day)
 else if d.kind = 2 then (⟨3, d.week, m, 5, 0⟩, true)
 else if d.kind = 3 then (⟨3, d.week, m, d.day / 7 + 1, 0⟩, decide (d.day % 7 = 1) && decide (d.day < 29))
 else (dt0, false)
def Zen (r : Zaa) : Bool := !decide (r.to = 1048576) || decide (r.month < 1) || decide (12 < r.month) || !ZbK r.day || !ZaL r.at_
def secD (r : Zaa) (off before : Int) : Int := r.at_.sec + (if r.at_.base = 2 then off else 0) + (if r.at_.base = 2 \/ r.at_.base = 1 then before else 0)
def Zdz (r : Zaa) (off before : Int) : Zb2 × Int :=
 if Zen r then (dt0, 2)
 else if (Zcx r.month r.day).2 = false then (dt0, 2)
 else if Zbp off = false \/ Zbp before = false then (dt0, 3)
 else if Zbp (secD r off before) then ({ (Zcx r.month r.day).1 with sec := secD r off before }, 0) else (dt0, 3)
theorem Zs4 (y m d : Int) : Zam y m d = Zam y m 1 + d - 1 := by
 unfold Zam ZbQ
 split <;> omega
end Go.Wk
namespace Go.Proofs.YtdlmhmmhdbbliaaGreatDoor
open Go Go.RowKit Go.Wk
attribute [local irreducible] W RL Does Zau Zaj retQ Calls Pu Stp RD Qy Ay Zak
def ZsJ : List Value := [fnV 295, fnV 296, fnV 297, fnV 298]
def FtG (w : World) : Prop := Zal w ⟨2, 1, none⟩ ZsJ
theorem FtG.up {w w' : World} (h : FtG w) (hb : Bel w.heap.size w w') : FtG w' := Zal.up h hb (Nat.le_refl _)
def Zmy (k : Int) : FuncId := if k = 1 then 295 else if k = 2 then 296 else if k = 3 then 297 else 298
def dtV (x : Zb2 × Bool) : Value := .tuple #[.agg x.1.enc.toArray, .bool x.2]
theorem ZdR (n : Int) (w : World) : Does Tryz.prog 72 [.int .i64 n] w (fun v O => v = .bool (Zbp n) /\ O = []) := by
 refine Zab Tryz.func72 rfl rfl rfl rfl ?_
 repeat' (first | refine walk ?_ | refine und ?_ | (refine Zas rfl rfl rfl (fun hc => ?_) (fun hc => ?_)) | (refine Zar rfl rfl rfl (fun hc => ?_) (fun hc => ?_)) | (refine Zaf rfl (fun hc => ?_) (fun hc => ?_)))
 all_goals first | (refine ret_1 _ [] (.tmp rfl) .nil ⟨?_, rfl⟩; first | rfl | (simp only [*, Bool.true_and, Bool.false_and, Bool.true_or, Bool.false_or, Bool.not_true, Bool.not_false]; done) | (simp_all [Zbp]; done) | (simp_all [Zbp]; omega) | (simp_all [Zbp]; rw [Bool.eq_iff_iff]; simp; omega)) | (exfalso; simp_all [Zbp]; done) | (exfalso; simp_all [Zbp]; omega) | (exfalso; omega)
theorem Zvv (m wk dd : Int) (hd : 0 <= dd /\ dd <= 31) (w : World) (hG : Glob w) :
  Does Tryz.prog 295 [.int .i64 m, .agg #[.int .i64 1, .int .i64 wk, .int .i64 dd]] w (fun v O => v = dtV (Zcx m ⟨1, wk, dd⟩) /\ O = []) := by
 have e1 := ZcZ 2001 1 1
 rw [if_pos (by decide), if_pos (by decide)] at e1
 have e2 := ZcZ 2001 m dd
 have hb : ZaH 2001 m dd = true -> _ := fun h => ZeW (y := 2001) (m := m) (d := dd) h
 have e : Zcx m ⟨1, wk, dd⟩ = (⟨1, (if ZaH 2001 m dd then Zam 2001 m dd else 0) - Zam 2001 1 1 + 1, 0, 0, 0⟩, ZaH 2001 m dd) := rfl
 rw [e]
 have ed : Zam 2001 1 1 = 11323 := by decide
 rw [ed] at e1 ⊢
 refine Zab Tryz.func295 rfl rfl rfl rfl ?_
 generalize ZaH 2001 m dd = ok at *
 cases ok with
 | true =>
  have hb2 := hb rfl
  rw [if_pos rfl, if_pos rfl] at e2
  rw [if_pos rfl]
  generalize Zam 2001 m dd = n at *
  repeat (first | (refine js ?_; (first | (refine Zac (fun w' hw => e1 w' (hG.up hw)) ?_) | (refine Zac (fun w' hw => e2 w' (hG.up hw)) ?_) | (refine bx ?_; intro bk))) | refine walk ?_)
  exact rtC
 | false =>
  rw [if_neg (by decide), if_neg (by decide)] at e2
  rw [if_neg (by decide)]
  repeat (first | (refine js ?_; (first | (refine Zac (fun w' hw => e1 w' (hG.up hw)) ?_) | (refine Zac (fun w' hw => e2 w' (hG.up hw)) ?_) | (refine bx ?_; intro bk))) | refine walk ?_)
  exact rtC
theorem Zvu (m wk dd : Int) (w : World) :
  Does Tryz.prog 296 [.int .i64 m, .agg #[.int .i64 2, .int .i64 wk, .int .i64 dd]] w (fun v O => v = dtV (Zcx m ⟨2, wk, dd⟩) /\ O = []) := by
 have e : Zcx m ⟨2, wk, dd⟩ = (⟨3, wk, m, 5, 0⟩, true) := rfl
 rw [e]
 refine Zab Tryz.func296 rfl rfl rfl rfl ?_
 repeat (first | (refine js ?_; (refine bx ?_; intro bk)) | refine walk ?_)
 exact rtC
theorem Zud {G : Prop} (h : G := by (first | (apply Pu_quo64; rfl; rfl; omega; omega; omega) | (apply Pu_rem; rfl; rfl; decide))) : G := h
theorem Zws {G : Prop} (h : G := by first | (apply Qy_y; rfl; exact Zud) | exact QyA) : G := h
theorem Zy7 {G : Prop} (h : G := by repeat (first | exact QF.nil | (apply QF.mk; rfl; rfl; decide +kernel; exact Zws))) : G := h
theorem Zvt (m wk dd : Int) (hd : 0 <= dd /\ dd <= 31) (w : World) :
  Does Tryz.prog 297 [.int .i64 m, .agg #[.int .i64 3, .int .i64 wk, .int .i64 dd]] w (fun v O => v = dtV (Zcx m ⟨3, wk, dd⟩) /\ O = []) := by
 have e : Zcx m ⟨3, wk, dd⟩ = (⟨3, wk, m, dd / 7 + 1, 0⟩, decide (dd.tmod 7 = 1) && decide (dd < 29)) := by
  rw [Int.tmod_eq_emod_of_nonneg hd.1]; rfl
 rw [e]
 refine Zab Tryz.func297 rfl rfl rfl rfl ?_
 repeat' (first | (apply RL_pu; rfl; exact Zud) | (refine js ?_; (refine bx ?_; intro bk)) | (apply RD_Q; rfl; rfl; decide +kernel; rfl; rfl; exact Zws) | refine walk1 ?_ | (refine RD_Lw ?_; intro F; (first | (refine bx ?_; intro bk) | (refine stA ?_) | (apply Zae; first | exact Zud | exact PuA)); refine ⟨_, EndsA, Zy7, ?_⟩) | (apply RD_W; rfl; intro bk) | refine und ?_ | (refine Zas rfl rfl rfl (fun hc => ?_) (fun hc => ?_)) | (refine Zar rfl rfl rfl (fun hc => ?_) (fun hc => ?_)) | (refine Zaf rfl (fun hc => ?_) (fun hc => ?_)))
 all_goals exact ret_2 _ _ [] (.cellB rfl (by repeat' constructor) rfl rfl) (.tmp rfl) .nil ⟨by simp [*, dtV, Zb2.enc], rfl⟩
theorem Zvs (m wk dd : Int) (w : World) :
  Does Tryz.prog 298 [.int .i64 m, .agg #[.int .i64 4, .int .i64 wk, .int .i64 dd]] w (fun v O => v = dtV (Zcx m ⟨4, wk, dd⟩) /\ O = []) := by
 have e : Zcx m ⟨4, wk, dd⟩ = (dt0, false) := rfl
 rw [e]
 refine Zab Tryz.func298 rfl rfl rfl rfl ?_
 repeat (first | (refine js ?_; (refine bx ?_; intro bk)) | refine walk ?_)
 exact rtC
theorem ZnR (m : Int) (d : DDay) (hk : 1 <= d.kind /\ d.kind <= 4) (hd : 0 <= d.day /\ d.day <= 31) (w : World) (hG : Glob w) :
  Does Tryz.prog (Zmy d.kind) [.int .i64 m, .agg (DDay.enc d).toArray] w (fun v O => v = dtV (Zcx m d) /\ O = []) := by
 obtain ⟨k, wk, dd⟩ := d
 simp only at hk hd ⊢
 have h4 : k = 1 \/ k = 2 \/ k = 3 \/ k = 4 := by omega
 rcases h4 with rfl | rfl | rfl | rfl
 ·exact Zvv m wk dd hd w hG
 ·exact Zvu m wk dd w
 ·exact Zvt m wk dd hd w
 ·exact Zvs m wk dd w
theorem Zzu {w : World} (hF : FtG w) (k : Int) (hk : 1 <= k /\ k <= 4) : Zal w ((⟨2, 0, none⟩ : Addr).add (k.toNat * 1)) [fnV (Zmy k)] := by
 intro j v hj
 have hk := hF ((k.toNat - 1) + j) v
 have h4 : k = 1 \/ k = 2 \/ k = 3 \/ k = 4 := by omega
 have hj3 : j < 1 := (List.getElem?_eq_some_iff.1 hj).1
 have h3 : j = 0 := by omega
 rcases h4 with rfl | rfl | rfl | rfl <;> subst h3 <;> exact hk hj
theorem Zxc {r : Zaa} (hc : ZaL r.at_ = true) {off before : Int} (h1 : Zbp off = true) (h2 : Zbp before = true) : (0 <= r.at_.base /\ r.at_.base <= 2) /\ -3000000 <= r.at_.sec /\ r.at_.sec <= 3000000 /\ -3000000 <= off /\ off <= 3000000 /\ -3000000 <= before /\ before <= 3000000 := by
 unfold ZaL at hc
 unfold Zbp at h1 h2
 simp only [Bool.and_eq_true, decide_eq_true_eq] at hc h1 h2
 omega
def ZxE (x : Zb2 × Int) : Value := .tuple #[.agg x.1.enc.toArray, .int .i64 x.2]
end Go.Proofs.YtdlmhmmhdbbliaaGreatDoor
namespace Go.Wk
open Go Go.RowKit
section
variable {P : Program} {n : Nat} {wr : World} {fr : Fr} {O : List It} {ty : TypeId} {pos : String} {af : Array Edge} {dst : Option Tmp} {g : Option (Nat × Bool)} {Kp : Value -> List It -> Prop}
theorem Zhj {t kt et : Nat} {x : Operand} {kk : IntKind} {i : Int} [hM : MapT P t kt et] (hx : ev fr x = some (.int kk i)) (k : ∀ b, Kp (.map (some b)) (.mp b [] :: O)) : Stp P n wr fr O ⟨dst, .makeMap t (some x), ty, pos, af, g⟩ Kp :=
 Zb0 fun a w hs => by
  have hB : Bel w.heap.size w (w.alloc (.map #[] 0)) := (Bel.refl _ _).alloc (Nat.le_refl _) _
  have hu := MapT.parts hM.h
  refine ⟨.map (some w.heap.size), w.alloc (.map #[] 0), _, ?_, hs.old.trans (hB.mono hs.old.size), hs.own.grow (O' := [.mp w.heap.size []]) hB hs.old.size ⟨fun i hi => ?_, fun i hi b hb => ?_, List.pairwise_singleton _ _⟩, k _⟩
  ·simp [execOp, hs.sim.ev hx, Instr.makeMap, run_underlying hu, asInt, asIntOf, newObj, Sem.run]
  ·rw [List.mem_singleton.1 hi]
   exact ⟨#[], 0, heap_alloc_new w _, rfl, ZoN⟩
  ·rw [List.mem_singleton.1 hi] at hb
   simp only [It.S] at hb
   subst hb
   exact ⟨Nat.le_refl _, by simp⟩
theorem Zff (es : Array MapEntry) (j : Nat) : (es.eraseIdxIfInBounds j).toList = es.toList.eraseIdx j := by
 unfold Array.eraseIdxIfInBounds
 split
 ·simp
 ·rw [List.eraseIdx_of_length_le (by simp; omega)]
theorem Zp7 {es : Array MapEntry} {c : Nat} (h : stOk es c) (j : Nat) : stOk (es.eraseIdxIfInBounds j) c := by
 unfold stOk
 rw [Zff]
 have hsub : ((es.toList.eraseIdx j).map (·.born)).Sublist (es.toList.map (·.born)) := (List.eraseIdx_sublist _ _).map _
 exact ⟨h.1.sublist hsub, fun n hn => h.2 n (hsub.subset hn)⟩
theorem Zra {t t2 kt et b : Nat} {x ix : Operand} {m : List (ByteArray × Value)} {k : ByteArray} {O' : List It} [hM : MapT P t kt et] [StringT P kt] (hx : ev fr x = some (.map (some b))) (hi : ev fr ix = some (.string k))
  (hu : Upd O (.mp b m) (.mp b (mdel m k)) O') (kk : Kp (.tuple #[]) O') : Stp P n wr fr O ⟨dst, .call ⟨.builtin .delete, #[x, ix], #[t, t2]⟩, ty, pos, af, g⟩ Kp :=
 Zb0 fun a w hs => by
  have ht := MapT.parts hM.h
  obtain ⟨es, c, h1, h2, h9⟩ := hs.own.sat _ hu.mem
  have hf := ZlR k m es.toList 0 h2
  cases hfi : Zes m k 0 with
  | none =>
   rw [hfi] at hf
   have hst := hs.setMap (es' := es) (c' := c) hu (by unfold Zcs; rw [hf]; exact h2) h9
   refine ⟨.tuple #[], _, O', ?_, hst.1, hst.2, kk⟩
   simp only [execOp, resolve, invoke, builtin, Builtin.delete_, hs.sim.ev hx, hs.sim.ev hi]
   simp [hs.sim.ev hx, hs.sim.ev hi, Builtin.delete_, run_underlying ht, Zbc h1, Zcm _ k 9999, ZcQ k m es.toList w h2, hfi, setObj, Sem.run, h1]
  | some p =>
   obtain ⟨j, u⟩ := p
   rw [hfi] at hf
   obtain ⟨_, hf2⟩ := hf
   rw [Nat.sub_zero] at hf2
   have hst := hs.setMap (es' := es.eraseIdxIfInBounds j) (c' := c) hu (by unfold Zcs; rw [Zff]; exact hf2) (Zp7 h9 j)
   refine ⟨.tuple #[], _, O', ?_, hst.1, hst.2, kk⟩
   simp only [execOp, resolve, invoke, builtin, Builtin.delete_, hs.sim.ev hx, hs.sim.ev hi]
   simp [hs.sim.ev hx, hs.sim.ev hi, Builtin.delete_, run_underlying ht, Zbc h1, Zcm _ k 9999, ZcQ k m es.toList w h2, hfi, setObj, Sem.run, h1]
def MpAt (w : World) (b : Nat) (m : List (ByteArray × Value)) : Prop := (It.mp b m).sat w
theorem MpAt.up {w w' : World} {b : Nat} {m : List (ByteArray × Value)} {B : Nat} (h : MpAt w b m) (hb : Bel B w w') (hB : w.heap.size <= B) : MpAt w' b m := by
 refine It.sat_congr h fun k hk => ?_
 obtain rfl : k = b := hk
 obtain ⟨es, c, h1, _⟩ := h
 exact hb.block k (Nat.lt_of_lt_of_le (Array.getElem?_eq_some_iff.1 h1).1 hB)
theorem ZmS {t kt et b : Nat} {x ix : Operand} {m : List (ByteArray × Value)} {k : ByteArray} {z v : Value} [hM : MapT P t kt et] [StringT P kt] [ZeroV P et z] (hx : ev fr x = some (.map (some b))) (hi : ev fr ix = some (.string k))
  (hp : MpAt wr b m) (hv : (mget m k).getD z = v) : Pu P n wr fr O (.lookup t x ix false) ty v := hv ▸ Zrf (kt := kt) (et := et) hx hi (fun _ hw _ => hp.up hw (Nat.le_refl _))
theorem Zfr {t kt et b : Nat} {x ix : Operand} {m : List (ByteArray × Value)} {k : ByteArray} {z v : Value} {c : Bool} [hM : MapT P t kt et] [StringT P kt] [ZeroV P et z] (hx : ev fr x = some (.map (some b))) (hi : ev fr ix = some (.string k))
  (hp : MpAt wr b m) (hv : (mget m k).getD z = v) (hc : (mget m k).isSome = c) : Pu P n wr fr O (.lookup t x ix true) ty (.tuple [v, .bool c].toArray) :=
 fun a w hs _ _ _ _ => by
  have := ZeM (P := P) (t := t) (kt := kt) (et := et) (k := k) (z := z) (hp.up hs.old (Nat.le_refl _)) true
  simp only [execOp, hs.sim.ev hx, hs.sim.ev hi, Sem.run_bind, this, Result.andThen_ok, Sem.run_pure]
  rw [<- hv, <- hc]
  rfl
theorem Zoq {t t' kt et : Nat} {x : Operand} {p : Option Nat} [hM : MapT P t kt et] (hx : ev fr x = some (.map p)) : Pu P n wr fr O (.binOp .eql t x (.const (.map none)) t') ty (.bool p.isNone) :=
 fun a w hs _ _ _ _ => by
  have hu := MapT.parts hM.h
  have h : (binOp .eql t (.map p) (.map none)).run P w = .ok (.bool p.isNone) w := by
   simp only [binOp]
   have : ∀ d, (Op.equalIn (d + 1) t (.map p) (.map none)).run P w = .ok p.isNone w := fun d => by cases p <;> simp [Op.equalIn, run_underlying hu]
   rw [show Op.equal t (.map p) (.map none) = Op.equalIn (9999 + 1) t (.map p) (.map none) from rfl]
   simp only [Sem.run_bind, this 9999, Result.andThen_ok, Sem.run_pure]
  have hc : a.eval (.const (.map none)) = .map none := rfl
  simp [execOp, hs.sim.ev hx, hc, eqGuard, h]
theorem Zop {t kt et : Nat} {x : Operand} {v : Value} [hM : MapT P t kt et] (hx : ev fr x = some v) : Pu P n wr fr O (.makeInterface t x) ty (.iface t v) :=
 fun a w hs _ _ _ _ => by
  have hu := MapT.parts hM.h
  simp [execOp, hs.sim.ev hx, Instr.makeInterface, run_underlying hu]
theorem ZmX {t xt kt et : Nat} {x : Operand} {v : Value} [hM : MapT P t kt et] (hx : ev fr x = some (.iface t v)) : Pu P n wr fr O (.typeAssert x xt t false) ty v :=
 fun a w hs _ _ _ _ => by
  have hu := MapT.parts hM.h
  simp [execOp, hs.sim.ev hx, Instr.typeAssert, run_underlying hu]
def ZsE (P : Program) (f : FuncId) : Prop := ∀ (args : Array Value) (w : World), (callFunc f args).run P w = ((Extern.MapsClone.clone args).run P w).andThen fun v w' => .ok (.value v) w'
theorem Zk0 {f t b : Nat} {x : Operand} {ts : Array TypeId} {m : List (ByteArray × Value)} (hf : ZsE P f) (hx : ev fr x = some (.iface t (.map (some b)))) (hp : ∀ w, Bel wr.heap.size wr w -> Zaw wr.heap.size O w -> MpAt w b m)
  (kk : ∀ b2, Kp (.iface t (.map (some b2))) (.mp b2 m :: O)) : Stp P n wr fr O ⟨dst, .call ⟨.value (.func f), #[x], ts⟩, ty, pos, af, g⟩ Kp :=
 Zb0 fun a w hs => by
  obtain ⟨es, c, h1, h2⟩ := hp w hs.old hs.own
  have hB : Bel w.heap.size w (w.alloc (.map es c)) := (Bel.refl _ _).alloc (Nat.le_refl _) _
  have hrun : (Extern.MapsClone.clone #[.iface t (.map (some b))]).run P w = .ok (.iface t (.map (some w.heap.size))) (w.alloc (.map es c)) := by
   have e : Extern.MapsClone.clone #[.iface t (.map (some b))] = (getObj b >>= fun o => match o with
     | .map entries clock => (newObj (.map entries clock) >>= fun n => pure (.iface t (.map (some n))))
     | _ => stuck "maps.clone: a map expected") := rfl
   rw [e]
   simp [Zbc h1, newObj, Sem.run]
  refine ⟨.iface t (.map (some w.heap.size)), w.alloc (.map es c), _, ?_, hs.old.trans (hB.mono hs.old.size), hs.own.grow (O' := [.mp w.heap.size m]) hB hs.old.size ⟨fun i hi => ?_, fun i hi b hb => ?_, List.pairwise_singleton _ _⟩, kk _⟩
  ·have hev := hs.sim.ev hx
   have he : a.eval (.func f) = .func (.func f) #[] #[] := rfl
   have hc := hf #[.iface t (.map (some b))] w
   rw [hrun, Result.andThen_ok] at hc
   simp [execOp, resolve, he, Deferred.ofValue, invoke, hc, hev]
  ·rw [List.mem_singleton.1 hi]
   exact ⟨es, c, heap_alloc_new w _, h2⟩
  ·rw [List.mem_singleton.1 hi] at hb
   simp only [It.S] at hb
   subst hb
   exact ⟨Nat.le_refl _, by simp⟩
end
def Nd (m : List (ByteArray × Value)) : Prop := (m.map (·.1)).Nodup
theorem ZfV (k : ByteArray) : ∀ m : List (ByteArray × Value), mget m k = none ↔ k ∉ m.map (·.1)
 | [] => by simp [mget]
 | (x, v) :: r => by
  simp only [mget, List.map_cons, List.mem_cons, not_or]
  by_cases h : k = x
  ·simp [h]
  ·simp [h, ZfV k r]
theorem Zg7 (k : ByteArray) (v : Value) : ∀ m : List (ByteArray × Value), k ∈ m.map (·.1) -> (mset m k v).map (·.1) = m.map (·.1)
 | [], h => by simp at h
 | (x, u) :: r, h => by
  simp only [mset]
  by_cases hk : k = x
  ·simp [hk]
  ·rw [if_neg hk]
   simp only [List.map_cons, List.mem_cons, hk, false_or] at h ⊢
   rw [Zg7 k v r h]
theorem ZfU (k : ByteArray) (v : Value) : ∀ m : List (ByteArray × Value), k ∉ m.map (·.1) -> (mset m k v).map (·.1) = m.map (·.1) ++ [k]
 | [], _ => by simp [mset]
 | (x, u) :: r, h => by
  simp only [List.map_cons, List.mem_cons, not_or] at h
  simp only [mset, if_neg h.1, List.map_cons, ZfU k v r h.2, List.cons_append]
theorem Nd.set {m : List (ByteArray × Value)} (h : Nd m) (k : ByteArray) (v : Value) : Nd (mset m k v) := by
 unfold Nd at h ⊢
 by_cases hk : k ∈ m.map (·.1)
 ·rw [Zg7 k v m hk]; exact h
 ·rw [ZfU k v m hk, List.nodup_append]
  exact ⟨h, by simp, fun a ha b hb => by simp only [List.mem_singleton] at hb; subst hb; exact fun e => hk (e ▸ ha)⟩
theorem Zo7 (k : ByteArray) : ∀ m : List (ByteArray × Value), (mdel m k).Sublist m
 | [] => List.Sublist.slnil
 | (x, u) :: r => by
  simp only [mdel]
  split
  ·exact List.sublist_cons_self _ _
  ·exact (Zo7 k r).cons_cons _
theorem Nd.del {m : List (ByteArray × Value)} (h : Nd m) (k : ByteArray) : Nd (mdel m k) := List.Nodup.sublist ((Zo7 k m).map _) h
theorem ZlO (k x : ByteArray) : ∀ {m : List (ByteArray × Value)}, Nd m -> mget (mdel m k) x = if x = k then none else mget m x
 | [], _ => by simp [mdel, mget]
 | (y, u) :: r, h => by
  unfold Nd at h
  simp only [List.map_cons, List.nodup_cons] at h
  simp only [mdel]
  by_cases hk : k = y
  ·subst hk
   rw [if_pos rfl]
   by_cases hx : x = k
   ·subst hx
    rw [if_pos rfl]
    exact (ZfV x r).2 h.1
   ·rw [if_neg hx, mget, if_neg hx]
  ·rw [if_neg hk]
   simp only [mget]
   by_cases hx : x = y
   ·subst hx
    rw [if_pos rfl, if_pos rfl, if_neg (fun e => hk e.symm)]
   ·rw [if_neg hx, if_neg hx, ZlO k x h.2]
theorem Zo8 (k : ByteArray) : ∀ {m : List (ByteArray × Value)}, (mget m k).isSome = true -> (mdel m k).length + 1 = m.length
 | [], h => by simp [mget] at h
 | (y, u) :: r, h => by
  simp only [mget] at h
  simp only [mdel]
  by_cases hk : k = y
  ·simp [hk]
  ·rw [if_neg hk] at h ⊢
   simp [Zo8 k h]
theorem Zkz (k : ByteArray) (v : Value) : ∀ m : List (ByteArray × Value), (mset m k v).length <= m.length + 1
 | [] => by simp [mset]
 | (y, u) :: r => by
  simp only [mset]
  split
  ·simp
  ·simp [Zkz k v r]
section
variable {P : Program} {n : Nat} {wr : World} {Q : Exit -> Fr -> List It -> Prop} {fr : Fr} {O : List It} {K : Fr -> List It -> Prop}
theorem Zvr {l : Nat} {rs : List ResultVar} {R : Value -> List It -> Prop} : ¬ retQ P wr rs R (.goto l) fr O := id
theorem ZxV {c : Code} (hg : ∀ l fr O, ¬ Q (.goto l) fr O) (h : W P n wr c Q fr O) : W P n wr (.scope c) Q fr O := by
 intro a w hs
 refine wp_scope_straight (wp_mono (h a w hs) ?_)
 rintro e a' w' ⟨fr', O', hs', hq⟩
 cases e with
 | goto l => exact (hg l _ _ hq).elim
 | _ => exact ⟨fr', O', hs', hq⟩
theorem ZxX {l : Nat} (h : Q .normal fr O) : W P n wr (.label l) Q fr O := fun _ _ hs => wp_label ⟨fr, O, hs, h⟩
end
section
variable {P : Program} {n : Nat} {wr : World} {fr : Fr} {O : List It} {ty : TypeId} {pos : String} {af : Array Edge} {dst : Option Tmp} {g : Option (Nat × Bool)} {Kp : Value -> List It -> Prop}
theorem ZmR {t len e sz b : Nat} {ag : Bool} {x y : Operand} {h : Int} [hA : ArrT P t len e sz ag] (hx : ev fr x = some (.pointer (some ⟨b, 0, none⟩))) (hy : ev fr y = some (.int .i64 h)) (h0 : 0 <= h) (h1 : h <= len) :
  Pu P n wr fr O (.slice t x none (some y) none) ty (.slice (some ⟨b, 0, none⟩) h.toNat len) :=
 fun a w hs _ _ _ _ => by
  have h := hA.h
  unfold Zj5 at h
  split at h
  ·rename_i len' e' hu
   split at h
   ·rename_i sz' ag' ht
    simp only [Option.some.injEq, Prod.mk.injEq] at h
    obtain ⟨rfl, rfl, rfl, rfl⟩ := h
    obtain ⟨inf, dd, hinf, hsz, _, _⟩ := Ty.parts ht
    simp [execOp, hs.sim.ev hx, hs.sim.ev hy, Instr.sliceAt, run_underlying hu, Instr.sureAddr, Instr.sliceBounds, run_sliceBound, h0, h1, sizeOf, ZaG hinf, Addr.add]
   ·cases h
  ·cases h
theorem ZiX {t sz b p : Nat} {x : Operand} {cs : List Value} {bt : TypeId} {v : Value} {R : List It} [Ty P t sz false] (hx : ev fr x = some (.pointer (some ((adr (some ⟨b, 0, none⟩)).add p))))
  (hp : Pick (.blk b cs bt) O R) (hv : cs[p]? = some v) : Pu P n wr fr O (.load t x) ty v :=
 Pu_loadB1 (by rw [hx, show adr (some (⟨b, 0, none⟩ : Addr)) = ⟨b, 0, none⟩ from rfl, ZbY, Nat.zero_add]) hp hv
theorem ZmT {t sz b p : Nat} {x : Operand} {cs : List Value} {bt : TypeId} {v : Value} {R : List It} [Ty P t sz false] (hx : ev fr x = some (.pointer (some ((⟨b, 0, none⟩ : Addr).add p))))
  (hp : Pick (.blk b cs bt) O R) (hv : cs[p]? = some v) : Pu P n wr fr O (.load t x) ty v :=
 Pu_loadB1 (by rw [hx, ZbY, Nat.zero_add]) hp hv
theorem Zk6 {t : TypeId} {x : Operand} {i : Int} (hx : ev fr x = some (.int .i64 i)) (h : -9223372036854775807 <= i /\ i <= 9223372036854775807) : Pu P n wr fr O (.unOp .neg t x) ty (.int .i64 (-i)) := by
 have := Pu_negW (P := P) (n := n) (wr := wr) (O := O) (ty := ty) (t := t) hx
 rwa [Int.zero_sub, Zcj (by omega)] at this
def Zn3 (c : UInt8) : Value := .int .u8 (c.toNat : Int)
theorem ZmW {t t' e sz bytes et c : Nat} {x : Operand} {A : Option Addr} {m : Nat} {l : List UInt8} {xs : List Value} {R : List It} [hE : ElemT P t e sz bytes] [hU : IntT P e .u8] [hS : StringT P t'] (hx : ev fr x = some (.slice A m c))
  (hp : Pick (.row (.slice A m c) et 1 m xs) O R) (hxs : xs = l.map Zn3) (hm : m = l.length) (hA : A ≠ none) : Pu P n wr fr O (.convert t t' x) ty (.string ⟨l.toArray⟩) :=
 fun a w hs _ _ _ _ => by
  have h := hE.h
  unfold ZgO at h
  split at h
  ·rename_i e' hu
   split at h
   ·simp only [Option.some.injEq, Prod.mk.injEq] at h
    obtain ⟨rfl, _, _⟩ := h
    obtain ⟨ad, rfl⟩ := Option.ne_none_iff_exists'.1 hA
    subst hm hxs
    have hsat := hs.own.sat _ (hp.perm.mem_iff.2 List.mem_cons_self)
    have hc : ∀ j (hj : j < l.length), w.cell? (ad.add j) = some (.int .u8 (l[j].toNat : Int)) := fun j hj => by
     have := ZaU hsat (j := j) (u := Zn3 l[j]) (by rw [List.getElem?_map, List.getElem?_eq_getElem hj]; rfl)
     exact this.2
    have hrun := run_convert_bytes_back (P := P) w t t' e' ad c l hu hU.h hS.h hc
    simp [execOp, hs.sim.ev hx, hrun]
   ·cases h
  ·cases h
theorem Zbg {t t' : TypeId} {x y : Operand} {kk : IntKind} {i j : Int} {b : Bool} (hx : ev fr x = some (.int kk i)) (hy : ev fr y = some (.int kk j)) (h : decide (i < j) = b) : Pu P n wr fr O (.binOp .lss t x y t') ty (.bool b) := h ▸ Pu_lss hx hy
theorem ZcA {t t' : TypeId} {x y : Operand} {kk : IntKind} {i j : Int} {b : Bool} (hx : ev fr x = some (.int kk i)) (hy : ev fr y = some (.int kk j)) (h : decide (i <= j) = b) : Pu P n wr fr O (.binOp .leq t x y t') ty (.bool b) := h ▸ Pu_leq hx hy
theorem ZaM {t t' : TypeId} {x y : Operand} {kk : IntKind} {i j : Int} {b : Bool} (hx : ev fr x = some (.int kk i)) (hy : ev fr y = some (.int kk j)) (h : decide (j < i) = b) : Pu P n wr fr O (.binOp .gtr t x y t') ty (.bool b) := h ▸ Pu_gtr hx hy
theorem Zc3 {t t' : TypeId} {x y : Operand} {kk : IntKind} {i j : Int} {b : Bool} (hx : ev fr x = some (.int kk i)) (hy : ev fr y = some (.int kk j)) (h : decide (j <= i) = b) : Pu P n wr fr O (.binOp .geq t x y t') ty (.bool b) := h ▸ Pu_geq hx hy
theorem ZaC {t t' : TypeId} {x y : Operand} {kk : IntKind} {i j : Int} {b : Bool} (hx : ev fr x = some (.int kk i)) (hy : ev fr y = some (.int kk j)) (h : decide (i = j) = b) : Pu P n wr fr O (.binOp .eql t x y t') ty (.bool b) := h ▸ Pu_eql hx hy
theorem ZaD {t t' : TypeId} {x y : Operand} {kk : IntKind} {i j : Int} {b : Bool} (hx : ev fr x = some (.int kk i)) (hy : ev fr y = some (.int kk j)) (h : (!decide (i = j)) = b) : Pu P n wr fr O (.binOp .neq t x y t') ty (.bool b) := h ▸ Pu_neq hx hy
theorem ZhB {t t' : TypeId} {x y : Operand} {i j : ByteArray} {b : Bool} (hx : ev fr x = some (.string i)) (hy : ev fr y = some (.string j)) (h : decide (i = j) = b) : Pu P n wr fr O (.binOp .eql t x y t') ty (.bool b) := h ▸ Pu_eqlS hx hy
theorem Ze7 {t t' : TypeId} {x y : Operand} {i j : ByteArray} {b : Bool} (hx : ev fr x = some (.string i)) (hy : ev fr y = some (.string j)) (h : (!decide (i = j)) = b) : Pu P n wr fr O (.binOp .neq t x y t') ty (.bool b) := h ▸ Pu_neqS hx hy
end
end Go.Wk
namespace Go.Proofs.YtdlmhmmhdbbliaaGreatDoor
open Go Go.RowKit Go.Wk
attribute [local irreducible] W RL Does Zau Zaj retQ Calls Pu Stp RD Qy Ay Zak
theorem ZvB {r : Zaa} (h : Zen r = true) (off before : Int) : Zdz r off before = (dt0, 2) := by unfold Zdz; rw [if_pos h]
theorem Zc5 {G : Prop} (h : G := by (first | (apply ZaD; rfl; rfl; exact e1) | (apply Zbg; rfl; rfl; exact e2) | (apply ZaM; rfl; rfl; exact e3))) : G := h
theorem ZhE {G G' : Prop} (k : G') (h : Hold G' -> G := by intro k9; (first | refine und ?_ | (apply RL_pu; rfl; exact Zc5) | (apply RD_Q; rfl; rfl; decide +kernel; rfl; rfl; exact QyFtDate0) | refine walk1 ?_ | (refine jn ?_; (try intro F); (first | (refine stA ?_) | (apply Zae; first | exact Zc5 | exact PuA)); first | refine ⟨_, EndsA, QFFtDate0, ?_⟩ | refine fin ?_)); exact k9.out) : G := h ⟨k⟩
theorem Zvy (r : Zaa) (off before : Int) (h : Zen r = true) (w : World) (hG : Glob w) : Does Tryz.prog 31 [.agg r.enc.toArray, .int .i64 off, .int .i64 before] w (fun v O => v = ZxE (dt0, 2) /\ O = []) := by
 have hdc := fun w' (hw : Bel w.heap.size w w') => ZdX r.day w' (hG.up hw)
 have hcc := fun w' => Zcb r.at_ w'
 unfold Zen at h
 obtain ⟨nm, fr, to, mo, ⟨dk, dw, dd⟩, ⟨cs, cb⟩, sv, le⟩ := r
 dsimp only at h hdc hcc
 generalize ZbK ⟨dk, dw, dd⟩ = c1 at *
 generalize ZaL ⟨cs, cb⟩ = c2 at *
 show Does _ _ [.agg #[.string nm, .int .i64 fr, .int .i64 to, .int .i64 mo, .int .i64 dk, .int .i64 dw, .int .i64 dd, .int .i64 cs, .int .i64 cb, .int .i64 sv, .string le], .int .i64 off, .int .i64 before] w _
 refine Zab Tryz.func31 rfl rfl rfl rfl ?_
 by_cases h1 : to = 1048576
 ·have e1 : (!decide (to = 1048576)) = false := by rw [decide_eq_true h1]; rfl
  by_cases h2 : mo < 1
  ·have e2 : decide (mo < 1) = true := decide_eq_true h2
   repeat (first | refine ZhE ?_ | (refine jn ?_; (try intro F); (refine bx ?_; intro bk); first | refine ⟨_, EndsA, QFFtDate0, ?_⟩ | refine fin ?_) | (apply RD_W; rfl; intro bk))
   exact rtC
  have e2 : decide (mo < 1) = false := decide_eq_false h2
  by_cases h3 : 12 < mo
  ·have e3 : decide (12 < mo) = true := decide_eq_true h3
   repeat (first | refine ZhE ?_ | (refine jn ?_; (try intro F); (refine bx ?_; intro bk); first | refine ⟨_, EndsA, QFFtDate0, ?_⟩ | refine fin ?_) | (apply RD_W; rfl; intro bk))
   exact rtC
  have e3 : decide (12 < mo) = false := decide_eq_false h3
  cases c1 with
  | false =>
   repeat (first | refine und ?_ | (apply RL_pu; rfl; exact Zc5) | (apply RD_Q; rfl; rfl; decide +kernel; rfl; rfl; exact QyFtDate0) | refine walk1 ?_ | (refine jg ?_; (try intro F); (first | (refine Zac hdc ?_) | (refine Zac (fun w' hw => hcc w') ?_) | (refine bx ?_; intro bk) | (refine stA ?_)); first | refine ⟨_, EndsA, QFFtDate0, ?_⟩ | refine fin ?_) | (refine jn ?_; (try intro F); (first | (refine bx ?_; intro bk) | (refine stA ?_) | (apply Zae; first | exact Zc5 | exact PuA)); first | refine ⟨_, EndsA, QFFtDate0, ?_⟩ | refine fin ?_) | (apply RD_W; rfl; intro bk))
   exact rtC
  | true =>
  cases c2 with
  | false =>
   repeat (first | refine und ?_ | (apply RL_pu; rfl; exact Zc5) | (apply RD_Q; rfl; rfl; decide +kernel; rfl; rfl; exact QyFtDate0) | refine walk1 ?_ | (refine jg ?_; (try intro F); (first | (refine Zac hdc ?_) | (refine Zac (fun w' hw => hcc w') ?_) | (refine bx ?_; intro bk) | (refine stA ?_)); first | refine ⟨_, EndsA, QFFtDate0, ?_⟩ | refine fin ?_) | (refine jn ?_; (try intro F); (first | (refine bx ?_; intro bk) | (refine stA ?_) | (apply Zae; first | exact Zc5 | exact PuA)); first | refine ⟨_, EndsA, QFFtDate0, ?_⟩ | refine fin ?_) | (apply RD_W; rfl; intro bk))
   exact rtC
  | true =>
   exfalso
   rw [e1, e2, e3] at h
   cases h
 ·have e1 : (!decide (to = 1048576)) = true := by rw [decide_eq_false h1]; rfl
  repeat (first | refine ZhE ?_ | (refine jn ?_; (try intro F); (refine bx ?_; intro bk); first | refine ⟨_, EndsA, QFFtDate0, ?_⟩ | refine fin ?_) | (apply RD_W; rfl; intro bk))
  exact rtC
theorem Zu9 {r : Zaa} (h : Zen r = false) : r.to = 1048576 /\ 1 <= r.month /\ r.month <= 12 /\ ZbK r.day = true /\ ZaL r.at_ = true := by
 unfold Zen at h
 simp only [Bool.or_eq_false_iff, Bool.not_eq_false', decide_eq_true_eq, decide_eq_false_iff_not] at h
 obtain ⟨⟨⟨⟨h1, h2⟩, h3⟩, h4⟩, h5⟩ := h
 exact ⟨h1, by omega, by omega, h4, h5⟩
theorem ZeJ {G : Prop} (h : G := by (first | exact Zc5 | (apply Za8; rfl; rfl; omega; omega) | (apply Pu_loadO1; rfl; exact hcell 0 _ rfl))) : G := h
theorem ZiU {G : Prop} (h : G := by first | (apply Qy_y; rfl; exact ZeJ) | exact QyA) : G := h
theorem ZaI {G : Prop} (h : G := by repeat (first | exact QF.nil | (apply QF.mk; rfl; rfl; decide +kernel; exact ZiU))) : G := h
theorem Zck {G G' : Prop} (k : G') (h : Hold G' -> G := by intro k9; (first | refine und ?_ | (apply RL_pu; rfl; exact ZeJ) | (apply RD_Q; rfl; rfl; decide +kernel; rfl; rfl; exact ZiU) | refine walk1 ?_ | (refine jg ?_; (try intro F); (first | (refine Zac hdc ?_) | (refine Zac (fun w' hw => hcc w') ?_) | (refine Zac (fun w' hw => hw1 w') ?_) | (refine Zac (fun w' hw => hw2 w') ?_) | (refine Zac (fun w' hw => hw3 w') ?_) | (refine stA ?_)); first | refine ⟨_, EndsA, ZaI, ?_⟩ | refine fin ?_) | (refine jn ?_; (try intro F); (first | (refine stA ?_) | (apply Zae; first | exact ZeJ | exact PuA)); first | refine ⟨_, EndsA, ZaI, ?_⟩ | refine fin ?_)); exact k9.out) : G := h ⟨k⟩
set_option maxHeartbeats 4000000 in
theorem ZgL (r : Zaa) (off before : Int) (w : World) (hG : Glob w) (hF : FtG w) : Does Tryz.prog 31 [.agg r.enc.toArray, .int .i64 off, .int .i64 before] w (fun v O => v = ZxE (Zdz r off before) /\ O = []) := by
 cases hno : Zen r with
 | true =>
  rw [ZvB hno]
  exact Zvy r off before hno w hG
 | false =>
 obtain ⟨h1, h2, h3, h4, h5⟩ := Zu9 hno
 obtain ⟨b1, b2, b3⟩ := Ziz h4
 have hdc := fun w' (hw : Bel w.heap.size w w') => ZdX r.day w' (hG.up hw)
 have hcc := fun w' => Zcb r.at_ w'
 have hds := fun w' (hw : Bel w.heap.size w w') => ZnR r.month r.day b1 b3 w' (hG.up hw)
 have hcell := Zzu hF r.day.kind b1
 have hw1 := fun w' => ZdR off w'
 have hw2 := fun w' => ZdR before w'
 have hw3 := fun w' => ZdR (secD r off before) w'
 have hsb := fun (q1 : Zbp off = true) (q2 : Zbp before = true) => Zxc h5 q1 q2
 haveI : Body Tryz.prog (Zmy r.day.kind) := by
  unfold Zmy
  split
  ·infer_instance
  ·split
   ·infer_instance
   ·split <;> infer_instance
 rw [h4] at hdc
 rw [h5] at hcc
 unfold Zdz
 rw [hno, if_neg (by decide)]
 generalize hsd : secD r off before = sc at *
 unfold secD at hsd
 generalize Zcx r.month r.day = x at *
 clear h4 h5 hno hF
 obtain ⟨nm, fr, to, mo, ⟨dk, dw, dd⟩, ⟨cs, cb⟩, sv, le⟩ := r
 obtain ⟨⟨x1, x2, x3, x4, x5⟩, ok⟩ := x
 dsimp only at h1 h2 h3 b1 b3 hdc hcc hds hcell hsb hsd ⊢
 subst h1
 generalize Zmy dk = kf at *
 have e2 : decide (mo < 1) = false := decide_eq_false (by omega)
 have e3 : decide (12 < mo) = false := decide_eq_false (by omega)
 show Does _ _ [.agg #[.string nm, .int .i64 fr, .int .i64 1048576, .int .i64 mo, .int .i64 dk, .int .i64 dw, .int .i64 dd, .int .i64 cs, .int .i64 cb, .int .i64 sv, .string le], .int .i64 off, .int .i64 before] w _
 refine Zab Tryz.func31 rfl rfl rfl rfl ?_
 cases ok with
 | false =>
  rw [if_pos rfl]
  repeat (first | refine und ?_ | (apply RL_pu; rfl; exact ZeJ) | (apply RD_Q; rfl; rfl; decide +kernel; rfl; rfl; exact ZiU) | refine walk1 ?_ | (refine jg ?_; (try intro F); (first | (refine Zac hdc ?_) | (refine Zac (fun w' hw => hcc w') ?_) | (apply Zaq (f := kf) (us := []) (cs := []) (vs := [.int .i64 mo, .agg #[.int .i64 dk, .int .i64 dw, .int .i64 dd]]) (h := fun w' hw _ => hds w' hw); rfl; rfl; rintro v O' ⟨rfl, rfl⟩) | (refine bx ?_; intro bk) | (refine stA ?_)); first | refine ⟨_, EndsA, ZaI, ?_⟩ | refine fin ?_) | (refine jn ?_; (try intro F); (first | (refine bx ?_; intro bk) | (refine stA ?_) | (apply Zae; first | exact ZeJ | exact PuA)); first | refine ⟨_, EndsA, ZaI, ?_⟩ | refine fin ?_) | (apply RD_W; rfl; intro bk))
  exact rtC
 | true =>
 rw [if_neg (by decide)]
 generalize Zbp off = i1 at *
 generalize Zbp before = i2 at *
 cases i1 with
 | false =>
  rw [if_pos (.inl rfl)]
  repeat (first | refine Zck ?_ | (refine jg ?_; (try intro F); (first | (apply Zaq (f := kf) (us := []) (cs := []) (vs := [.int .i64 mo, .agg #[.int .i64 dk, .int .i64 dw, .int .i64 dd]]) (h := fun w' hw _ => hds w' hw); rfl; rfl; rintro v O' ⟨rfl, rfl⟩) | (refine bx ?_; intro bk)); first | refine ⟨_, EndsA, ZaI, ?_⟩ | refine fin ?_) | (refine jn ?_; (try intro F); (refine bx ?_; intro bk); first | refine ⟨_, EndsA, ZaI, ?_⟩ | refine fin ?_) | (apply RD_W; rfl; intro bk))
  exact rtC
 | true =>
 cases i2 with
 | false =>
  rw [if_pos (.inr rfl)]
  repeat (first | refine Zck ?_ | (refine jg ?_; (try intro F); (first | (apply Zaq (f := kf) (us := []) (cs := []) (vs := [.int .i64 mo, .agg #[.int .i64 dk, .int .i64 dw, .int .i64 dd]]) (h := fun w' hw _ => hds w' hw); rfl; rfl; rintro v O' ⟨rfl, rfl⟩) | (refine bx ?_; intro bk)); first | refine ⟨_, EndsA, ZaI, ?_⟩ | refine fin ?_) | (refine jn ?_; (try intro F); (refine bx ?_; intro bk); first | refine ⟨_, EndsA, ZaI, ?_⟩ | refine fin ?_) | (apply RD_W; rfl; intro bk))
  exact rtC
 | true =>
 rw [if_neg (by decide)]
 obtain ⟨q1, q2, q3, q4, q5, q6, q7⟩ := hsb rfl rfl
 clear hsb
 have hcb : cb = 0 \/ cb = 1 \/ cb = 2 := by omega
 generalize Zbp sc = i3 at *
 rcases hcb with rfl | rfl | rfl
 ·obtain rfl : cs = sc := by rw [<- hsd]; simp
  cases i3 with
  | false =>
   repeat (first | refine Zck ?_ | (refine jg ?_; (try intro F); (first | (apply Zaq (f := kf) (us := []) (cs := []) (vs := [.int .i64 mo, .agg #[.int .i64 dk, .int .i64 dw, .int .i64 dd]]) (h := fun w' hw _ => hds w' hw); rfl; rfl; rintro v O' ⟨rfl, rfl⟩) | (refine bx ?_; intro bk)); first | refine ⟨_, EndsA, ZaI, ?_⟩ | refine fin ?_) | (refine jn ?_; (try intro F); (refine bx ?_; intro bk); first | refine ⟨_, EndsA, ZaI, ?_⟩ | refine fin ?_) | (apply RD_W; rfl; intro bk))
   exact rtC
  | true =>
   repeat (first | refine Zck ?_ | (refine jg ?_; (try intro F); (first | (apply Zaq (f := kf) (us := []) (cs := []) (vs := [.int .i64 mo, .agg #[.int .i64 dk, .int .i64 dw, .int .i64 dd]]) (h := fun w' hw _ => hds w' hw); rfl; rfl; rintro v O' ⟨rfl, rfl⟩) | (refine bx ?_; intro bk)); first | refine ⟨_, EndsA, ZaI, ?_⟩ | refine fin ?_) | (refine jn ?_; (try intro F); (refine bx ?_; intro bk); first | refine ⟨_, EndsA, ZaI, ?_⟩ | refine fin ?_) | (apply RD_W; rfl; intro bk))
   exact rtC
 ·obtain rfl : cs + before = sc := by rw [<- hsd]; simp
  cases i3 with
  | false =>
   repeat (first | refine Zck ?_ | (refine jg ?_; (try intro F); (first | (apply Zaq (f := kf) (us := []) (cs := []) (vs := [.int .i64 mo, .agg #[.int .i64 dk, .int .i64 dw, .int .i64 dd]]) (h := fun w' hw _ => hds w' hw); rfl; rfl; rintro v O' ⟨rfl, rfl⟩) | (refine bx ?_; intro bk)); first | refine ⟨_, EndsA, ZaI, ?_⟩ | refine fin ?_) | (refine jn ?_; (try intro F); (refine bx ?_; intro bk); first | refine ⟨_, EndsA, ZaI, ?_⟩ | refine fin ?_) | (apply RD_W; rfl; intro bk))
   exact rtC
  | true =>
   repeat (first | refine Zck ?_ | (refine jg ?_; (try intro F); (first | (apply Zaq (f := kf) (us := []) (cs := []) (vs := [.int .i64 mo, .agg #[.int .i64 dk, .int .i64 dw, .int .i64 dd]]) (h := fun w' hw _ => hds w' hw); rfl; rfl; rintro v O' ⟨rfl, rfl⟩) | (refine bx ?_; intro bk)); first | refine ⟨_, EndsA, ZaI, ?_⟩ | refine fin ?_) | (refine jn ?_; (try intro F); (refine bx ?_; intro bk); first | refine ⟨_, EndsA, ZaI, ?_⟩ | refine fin ?_) | (apply RD_W; rfl; intro bk))
   exact rtC
 ·obtain rfl : cs + off + before = sc := by rw [<- hsd]; simp
  cases i3 with
  | false =>
   repeat (first | refine Zck ?_ | (refine jg ?_; (try intro F); (first | (apply Zaq (f := kf) (us := []) (cs := []) (vs := [.int .i64 mo, .agg #[.int .i64 dk, .int .i64 dw, .int .i64 dd]]) (h := fun w' hw _ => hds w' hw); rfl; rfl; rintro v O' ⟨rfl, rfl⟩) | (refine bx ?_; intro bk)); first | refine ⟨_, EndsA, ZaI, ?_⟩ | refine fin ?_) | (refine jn ?_; (try intro F); (refine bx ?_; intro bk); first | refine ⟨_, EndsA, ZaI, ?_⟩ | refine fin ?_) | (apply RD_W; rfl; intro bk))
   exact rtC
  | true =>
   repeat (first | refine Zck ?_ | (refine jg ?_; (try intro F); (first | (apply Zaq (f := kf) (us := []) (cs := []) (vs := [.int .i64 mo, .agg #[.int .i64 dk, .int .i64 dw, .int .i64 dd]]) (h := fun w' hw _ => hds w' hw); rfl; rfl; rintro v O' ⟨rfl, rfl⟩) | (refine bx ?_; intro bk)); first | refine ⟨_, EndsA, ZaI, ?_⟩ | refine fin ?_) | (refine jn ?_; (try intro F); (refine bx ?_; intro bk); first | refine ⟨_, EndsA, ZaI, ?_⟩ | refine fin ?_) | (apply RD_W; rfl; intro bk))
   exact rtC
end Go.Proofs.YtdlmhmmhdbbliaaGreatDoor
