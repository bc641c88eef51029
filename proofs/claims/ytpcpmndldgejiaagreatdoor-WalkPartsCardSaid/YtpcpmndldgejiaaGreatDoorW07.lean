/- Parts of the proof. -/
import Derived.Test.YtpcpmndldgejiaaGreatDoorW06
import Derived.Laws.Strings2
set_option maxHeartbeats 4000000
set_option linter.unusedVariables false
set_option linter.unusedSimpArgs false
namespace Go.Proofs.YtpcpmndldgejiaaGreatDoor
open Go Go.RowKit Go.Wk
attribute [local irreducible] W RL Does Zay Zam retQ Calls Pu Stp RD Qy Ay Zan
theorem Zhu (y : Int) (w : World) : Does Tryz.prog 99 [.int .i64 y] w (fun v O => v = .bool (inY y) /\ O = []) := by
 refine Zab Tryz.func99 rfl rfl rfl rfl ?_
 repeat' (first | refine walk ?_ | refine und ?_ | (refine ZaB rfl rfl rfl (fun hc => ?_) (fun hc => ?_)) | (refine Zaz rfl rfl rfl (fun hc => ?_) (fun hc => ?_)) | (refine Zah rfl (fun hc => ?_) (fun hc => ?_)))
 all_goals first | (refine ret_1 _ [] (.tmp rfl) .nil ⟨?_, rfl⟩; first | rfl | (simp only [*, Bool.true_and, Bool.false_and, Bool.true_or, Bool.false_or, Bool.not_true, Bool.not_false]; done) | (simp_all [inY]; done) | (simp_all [inY]; omega) | (simp_all [inY]; rw [Bool.eq_iff_iff]; simp; omega)) | (exfalso; simp_all [inY]; done) | (exfalso; simp_all [inY]; omega) | (exfalso; omega)
theorem Zrg {G : Prop} (h : G := by (apply Pu_rem; rfl; rfl; decide)) : G := h
theorem ZtC (y : Int) (w : World) : Does Tryz.prog 141 [.int .i64 y] w (fun v O => v = .bool (Zj4 y) /\ O = []) := by
 rw [show Zj4 y = (decide (y.tmod 4 = 0) && (!decide (y.tmod 100 = 0) || decide (y.tmod 400 = 0))) by simp only [Zj4, ZsJ]]
 refine Zab Tryz.func141 rfl rfl rfl rfl ?_
 repeat' (first | (apply RL_pu; rfl; exact Zrg) | refine walk1 ?_ | refine und ?_ | (refine ZaB rfl rfl rfl (fun hc => ?_) (fun hc => ?_)) | (refine Zaz rfl rfl rfl (fun hc => ?_) (fun hc => ?_)) | (refine Zah rfl (fun hc => ?_) (fun hc => ?_)))
 all_goals exact clo1
theorem Zb2 (y m : Int) (w : World) : Does Tryz.prog 100 [.int .i64 y, .int .i64 m] w (fun v O => v = .int .i64 (lenM y m) /\ O = []) := by
 refine Zab Tryz.func100 rfl rfl rfl rfl ?_
 repeat' (first | (refine js ?_; (refine Zac (fun w' _ => ZtC y w') ?_)) | refine walk ?_ | refine und ?_ | (refine ZaB rfl rfl rfl (fun hc => ?_) (fun hc => ?_)) | (refine Zaz rfl rfl rfl (fun hc => ?_) (fun hc => ?_)) | (refine Zah rfl (fun hc => ?_) (fun hc => ?_)))
 all_goals first | (refine ret_1 _ [] (.tmp rfl) .nil ⟨?_, rfl⟩; first | rfl | (simp only [*, Bool.true_and, Bool.false_and, Bool.true_or, Bool.false_or, Bool.not_true, Bool.not_false]; done) | (simp_all [lenM]; done) | (simp_all [lenM]; omega) | (simp_all [lenM]; rw [Bool.eq_iff_iff]; simp; omega)) | (exfalso; simp_all [lenM]; done) | (exfalso; simp_all [lenM]; omega) | (exfalso; omega)
theorem Zmi {G : Prop} (h : G := by (first | (apply Zzv; rfl; rfl; omega; omega) | (apply Pu_rem; rfl; rfl; omega))) : G := h
theorem Zq2 {G : Prop} (h : G := by first | (apply Qy_y; rfl; exact Zmi) | exact QyA) : G := h
theorem ZwW {G : Prop} (h : G := by repeat (first | exact QF.nil | (apply QF.mk; rfl; rfl; decide +kernel; exact Zq2))) : G := h
theorem ZcZ (a b : Int) (h0 : 0 < b) (ha : -4611686018427387904 <= a /\ a <= 4611686018427387904) (hb : b <= 4611686018427387904) (w : World) : Does Tryz.prog 101 [.int .i64 a, .int .i64 b] w (fun v O => v = .tuple #[.int .i64 (a / b), .int .i64 (a % b)] /\ O = []) := by
 have h2 := Int.tmod_lt_of_pos a h0
 have h3 := Int.lt_tmod_of_pos a h0
 have h4 := ZsL a b
 obtain ⟨h5, h6⟩ := Zp7 a b h0
 refine Zab Tryz.func101 rfl rfl rfl rfl ?_
 repeat' (first | (apply RL_pu; rfl; exact Zmi) | (apply RD_Q; rfl; rfl; decide +kernel; rfl; rfl; exact Zq2) | refine walk1 ?_ | (refine RD_Lw ?_; intro F; (apply Zae; first | exact Zmi | exact PuA); refine ⟨_, EndsA, ZwW, ?_⟩) | (refine Zah rfl (fun hc => ?_) (fun hc => ?_)))
 ·obtain ⟨e1, e2⟩ := h5 (of_decide_eq_true hc)
  exact ret_2 _ _ [] (.tmp rfl) (.tmp rfl) .nil ⟨by rw [<- e1, <- e2], rfl⟩
 ·obtain ⟨e1, e2⟩ := h6 (of_decide_eq_false hc)
  exact ret_2 _ _ [] (.tmp rfl) (.tmp rfl) .nil ⟨by rw [<- e1, <- e2], rfl⟩
theorem Zki (a : Int) (ha : -4611686018427387904 <= a /\ a <= 4611686018427387904) (w : World) : Does Tryz.prog 306 [.int .i64 a] w (fun v O => v = .int .i64 (Zmp a) /\ O = []) := by
 have h2 := Int.tmod_lt_of_pos a (b := 7) (by decide)
 have h3 := Int.lt_tmod_of_pos a (b := 7) (by decide)
 refine Zab Tryz.func306 rfl rfl rfl rfl ?_
 repeat (first | (apply RL_pu; rfl; exact Zrg) | (refine js ?_; (refine Zac (fun w' _ => ZcZ (a.tmod 7 + 4) 7 (by decide) (by omega) (by decide) w') ?_)) | refine walk1 ?_)
 refine ret_1 _ [] (.tmp rfl) .nil ⟨?_, rfl⟩
 have h := Zp7 a 7 (by decide)
 have e : (a.tmod 7 + 4) % 7 = Zmp a := by
  unfold Zmp
  by_cases hn : a.tmod 7 < 0
  ·have := (h.1 hn).2
   omega
  ·have := (h.2 hn).2
   omega
 rw [e]
theorem ZlW {w : World} (hG : Glob w) (k : Nat) (hk : k < 12) : (ZaM.map fun n => Value.int .i64 n)[k * 1]? = some (.int .i64 (ZaM.getD k 0)) := by
 rw [Nat.mul_one, List.getElem?_map, List.getD_eq_getElem?_getD, List.getElem?_eq_getElem (show k < ZaM.length from hk)]
 rfl
theorem ZnB {y m d : Int} (h : ZbL y m d = true) : (-2000000000 <= y /\ y <= 2000000000) /\ (1 <= m /\ m <= 12) /\ 1 <= d /\ d <= 31 := by
 simp only [ZbL, inY, Bool.and_eq_true, decide_eq_true_eq] at h
 obtain ⟨⟨⟨h1, h2⟩, h3⟩, h4⟩ := h
 have h5 := Zhl y m
 refine ⟨⟨h1, h2⟩, ?_, h3, by omega⟩
 unfold lenM at h4
 split at h4 <;> omega
theorem Zg4 {G : Prop} (h : G := by (first | (apply ZeC; rfl; rfl; (constructor <;> omega)) | (apply Pu_quo64; rfl; rfl; omega; omega; omega) | (apply Zbv; rfl; rfl; omega; omega) | (apply Pu_loadO1'; rfl; exact hG.bef; exact hb))) : G := h
theorem Zq1 {G : Prop} (h : G := by first | (apply Qy_y; rfl; exact Zg4) | exact QyA) : G := h
theorem ZwV {G : Prop} (h : G := by repeat (first | exact QF.nil | (apply QF.mk; rfl; rfl; decide +kernel; exact Zq1))) : G := h
theorem ZgM (y m d : Int) (w : World) (hG : Glob w) : Does Tryz.prog 58 [.int .i64 y, .int .i64 m, .int .i64 d] w (fun v O => v = .tuple #[.int .i64 (if ZbL y m d then Zbd y m d else 0), .int .i64 (if ZbL y m d then 0 else 3)] /\ O = []) := by
 refine Zab Tryz.func58 rfl rfl rfl rfl ?_
 by_cases hok : ZbL y m d = true
 ·obtain ⟨h1, h2, h3⟩ := ZnB hok
  have hl := hok
  simp only [ZbL, Bool.and_eq_true, decide_eq_true_eq] at hl
  obtain ⟨⟨hy, _⟩, hd⟩ := hl
  rw [if_pos hok, if_pos hok]
  by_cases hm : m < 3
  ·have hb := ZlW hG (m + 12 - 3).toNat (by omega)
   have hq := Zfq (m + 12 - 3).toNat
   rw [Zbd, if_pos hm, Zcf]
   generalize ZaM.getD (m + 12 - 3).toNat 0 = q at *
   repeat' (first | (apply RL_pu; rfl; exact Zg4) | (refine js ?_; (first | (refine Zac (fun w' _ => Zhu y w') ?_) | (refine Zac (fun w' _ => Zb2 y m w') ?_) | (refine Zac (fun w' _ => ZcZ (y - 1) 400 (by decide) (by omega) (by decide) w') ?_))) | refine walk1 ?_ | refine und ?_ | (refine ZaB rfl rfl rfl (fun hc => ?_) (fun hc => ?_)) | (refine Zaz rfl rfl rfl (fun hc => ?_) (fun hc => ?_)) | (refine Zah rfl (fun hc => ?_) (fun hc => ?_)))
   all_goals exact clo2
  ·have hb := ZlW hG (m - 3).toNat (by omega)
   have hq := Zfq (m - 3).toNat
   rw [Zbd, if_neg hm, Zcf]
   generalize ZaM.getD (m - 3).toNat 0 = q at *
   repeat' (first | (apply RL_pu; rfl; exact Zg4) | (refine js ?_; (first | (refine Zac (fun w' _ => Zhu y w') ?_) | (refine Zac (fun w' _ => Zb2 y m w') ?_) | (refine Zac (fun w' _ => ZcZ y 400 (by decide) (by omega) (by decide) w') ?_))) | refine walk1 ?_ | refine und ?_ | (refine ZaB rfl rfl rfl (fun hc => ?_) (fun hc => ?_)) | (refine Zaz rfl rfl rfl (fun hc => ?_) (fun hc => ?_)) | (refine Zah rfl (fun hc => ?_) (fun hc => ?_)))
   all_goals exact clo2
 ·rw [if_neg hok, if_neg hok]
  repeat' (first | (refine js ?_; (first | (refine Zac (fun w' _ => Zhu y w') ?_) | (refine Zac (fun w' _ => Zb2 y m w') ?_))) | refine walk ?_ | refine und ?_ | (refine ZaB rfl rfl rfl (fun hc => ?_) (fun hc => ?_)) | (refine Zaz rfl rfl rfl (fun hc => ?_) (fun hc => ?_)) | (refine Zah rfl (fun hc => ?_) (fun hc => ?_)))
  all_goals first | (refine ret_2 _ _ [] (.tmp rfl) (.tmp rfl) .nil ⟨?_, rfl⟩; first | rfl | (simp only [*, Bool.true_and, Bool.false_and, Bool.true_or, Bool.false_or, Bool.not_true, Bool.not_false]; done) | (simp_all [ZbL]; done) | (simp_all [ZbL]; omega) | (simp_all [ZbL]; rw [Bool.eq_iff_iff]; simp; omega)) | (exfalso; simp_all [ZbL]; done) | (exfalso; simp_all [ZbL]; omega) | (exfalso; omega)
theorem Zsy (n : Int) : n / 146097 + (n % 146097 + 719468) / 146097 = (n + 719468) / 146097 /\ (n % 146097 + 719468) % 146097 = (n + 719468) % 146097 := by omega
theorem Ztn (r : Int) : ∀ m, monN r m <= m
 | 0 => Nat.le_refl _
 | m + 1 => by
  rw [monN]
  split
  ·exact Nat.le_refl _
  ·have := Ztn r m; omega
theorem ZfA {G : Prop} (h : G := by (first | (apply ZeC; rfl; rfl; (constructor <;> omega)) | (apply Pu_quo64; rfl; rfl; omega; omega; omega))) : G := h
theorem Zlk {G G' : Prop} (k : G') (h : Hold G' -> G := by intro k9; (first | (apply RL_pu; rfl; exact ZfA) | (apply RD_Q; rfl; rfl; decide +kernel; rfl; rfl; exact QyCivil3) | refine walk1 ?_ | (refine jn ?_; (try intro F); (apply Zae; first | exact ZfA | exact PuA); first | refine ⟨_, EndsA, QFCivil3, ?_⟩ | refine fin ?_)); exact k9.out) : G := h ⟨k⟩
theorem Zrf {G : Prop} (h : G := by (first | (apply Zbv; rfl; rfl; omega; omega) | (apply Pu_loadO1'; rfl; exact hG.bef; exact hb))) : G := h
theorem Zub (n : Int) (hn : -1000000000000000000 <= n /\ n <= 1000000000000000000) (w : World) (hG : Glob w) : Does Tryz.prog 197 [.int .i64 n] w (fun v O => (∃ m d, v = .tuple #[.int .i64 (Zj8 n), .int .i64 m, .int .i64 d]) /\ O = []) := by
 obtain ⟨c1, c2⟩ := Zsy n
 have c3 : 0 <= (n + 719468) % 146097 /\ (n + 719468) % 146097 < 146097 := by omega
 obtain ⟨y1, y2, y3, y4⟩ := ZpW _ c3.1 c3.2
 have hD : Zj8 n = if 10 <= monN ((n + 719468) % 146097 - (ZcT ((n + 719468) % 146097) * 365 + ZcT ((n + 719468) % 146097) / 4 - ZcT ((n + 719468) % 146097) / 100)) 11 then (n + 719468) / 146097 * 400 + ZcT ((n + 719468) % 146097) + 1 else (n + 719468) / 146097 * 400 + ZcT ((n + 719468) % 146097) := rfl
 refine Zab Tryz.func197 rfl rfl rfl rfl ?_
 repeat (first | (apply RL_pu; rfl; exact ZfA) | (apply RD_Q; rfl; rfl; decide +kernel; rfl; rfl; exact QyCivil3) | refine walk1 ?_ | (refine jg ?_; (try intro F); (refine Zac (fun w' _ => ZcZ n 146097 (by decide) (by omega) (by decide) w') ?_); first | refine ⟨_, EndsA, QFCivil3, ?_⟩ | refine fin ?_) | (refine jn ?_; (try intro F); (apply Zae; first | exact ZfA | exact PuA); first | refine ⟨_, EndsA, QFCivil3, ?_⟩ | refine fin ?_))
 refine Zah rfl (fun _ => ?_) (fun h => ?_)
 rotate_left
 ·have := of_decide_eq_false h
  omega
 repeat (first | refine walk ?_ | (refine jg ?_; (try intro F); (refine Zac (fun w' _ => ZcZ (n % 146097 + 719468) 146097 (by decide) (by omega) (by decide) w') ?_); refine fin ?_) | (refine jn ?_; (try intro F); (apply Zae; exact PuA); refine fin ?_))
 rw [c1, c2]
 clear c1 c2
 generalize hcc : (n + 719468) / 146097 = c at *
 have hcb : -10000000000000 <= c /\ c <= 10000000000000 := by omega
 generalize (n + 719468) % 146097 = r at *
 rw [show (r - r / 1460 + r / 36524 - r / 146096) / 365 = ZcT r from rfl]
 generalize ZcT r = y at *
 clear hn hcc
 generalize hq : r - (y * 365 + y / 4 - y / 100) = q at *
 repeat (first | (apply RL_pu; rfl; exact ZfA) | (apply RD_Q; rfl; rfl; decide +kernel; rfl; rfl; exact QyCivil3) | refine walkB1 ?_ | (refine jn ?_; (try intro F); (apply Zae; first | exact ZfA | exact PuA); first | refine ⟨_, EndsA, QFCivil3, ?_⟩ | refine fin ?_))
 rw [hq]
 refine Zb0 (fun fr' O' => Sub [(10, .int .i64 (monN q 11)), (5, .int .i64 c), (9, .int .i64 y), (6, .int .i64 q)] fr' /\ SubO [] O') ?_ ?_
 ·apply W_block
  refine Zaq [(5, .int .i64 c), (9, .int .i64 y), (6, .int .i64 q)] [] (fun k : Nat => [(10, .int .i64 k)]) (fun _ => []) (fun k => k <= 11 /\ monN q k = monN q 11) (fun k => k) 11 SFA .nil ⟨Nat.le_refl _, rfl⟩ ?_
  rintro k ⟨hk, hm⟩
  have hb := ZlW hG k (by omega)
  have hstp : ∀ j, k = j + 1 -> monN q k = if ZaM.getD k 0 <= q then k else monN q j := fun j h => by subst h; rw [monN]
  have h0 : k = 0 -> ZaM.getD k 0 = 0 := fun h => by subst h; rfl
  generalize ZaM.getD k 0 = z at *
  repeat (first | (apply RL_pu; rfl; exact Zrf) | (apply RD_Q; rfl; rfl; decide +kernel; rfl; rfl; exact QyCivil4) | refine walk1 ?_ | (refine jn ?_; (try intro F); (apply Zae; first | exact Zrf | exact PuA); first | refine ⟨_, EndsA, QFCivil4, ?_⟩ | refine fin ?_))
  refine Zah rfl (fun h => ?_) (fun h => ?_)
  ·have h1 := of_decide_eq_true h
   have hk1 : k ≠ 0 := fun e => by have := h0 e; omega
   obtain ⟨j, rfl⟩ : ∃ j, k = j + 1 := ⟨k - 1, by omega⟩
   have h2 := hstp j rfl
   rw [if_neg (by omega)] at h2
   repeat refine Zlk ?_
   rw [show ((j + 1 : Nat) : Int) - 1 = (j : Int) by omega]
   exact ⟨j, OA, ⟨OA, by rw [<- h2]; exact hm⟩, SFA, .nil⟩
  ·have h1 := of_decide_eq_false h
   have h2 : monN q k = k := by
    cases k with
    | zero => rfl
    | succ j =>
     have h2 := hstp j rfl
     rw [if_pos (by omega)] at h2
     exact h2
   repeat (first | refine walk ?_ | (refine jn ?_; (try intro F); (apply Zae; exact PuA); refine fin ?_))
   rw [<- hm, h2]
   exact ⟨rfl, SFA, .nil⟩
 rintro fr' O' ⟨hf, hO⟩
 apply thenQ_n
 refine Zch hf hO ?_
 clear hf hO fr' O'
 have hml := Ztn q 11
 generalize monN q 11 = k at *
 have hb := ZlW hG k (by omega)
 have hbb := Zfq k
 generalize ZaM.getD k 0 = z at *
 repeat (first | (apply RL_pu; rfl; exact Zg4) | (apply RD_Q; rfl; rfl; decide +kernel; rfl; rfl; exact Zq1) | refine walk1 ?_ | (refine jn ?_; (try intro F); (apply Zae; first | exact Zg4 | exact PuA); first | refine ⟨_, EndsA, ZwV, ?_⟩ | refine fin ?_))
 refine Zah rfl (fun h => ?_) (fun h => ?_)
 ·have h1 := of_decide_eq_true h
  rw [if_pos (by omega)] at hD
  repeat refine Zlk ?_
  exact ZfD _ _ _ [] (.tmp rfl) (.tmp rfl) (.tmp rfl) .nil ⟨⟨_, _, by rw [hD]⟩, rfl⟩
 ·have h1 := of_decide_eq_false h
  rw [if_neg (by omega)] at hD
  repeat refine Zlk ?_
  exact ZfD _ _ _ [] (.tmp rfl) (.tmp rfl) (.tmp rfl) .nil ⟨⟨_, _, by rw [hD]⟩, rfl⟩
theorem Zmn (t : Int) (ht : -4611686018427387904 <= t /\ t <= 4611686018427387904) (w : World) (hG : Glob w) : Does Tryz.prog 155 [.int .i64 t] w (fun v O => v = .int .i64 (Za2 t) /\ O = []) := by
 refine Zab Tryz.func155 rfl rfl rfl rfl ?_
 repeat (first | (apply RL_pu; rfl; (first | (apply Zfc; rfl; rfl) | (apply ZpD; rfl; rfl))) | (refine js ?_; (first | (refine Zac (fun w' _ => ZcZ t 86400 (by decide) (by omega) (by decide) w') ?_) | (apply Zag (h := fun w' hw _ => Zub (t / 86400) (by omega) w' (hG.up hw)); rfl; rintro v O' ⟨⟨m, d, rfl⟩, rfl⟩))) | refine walk1 ?_)
 refine ret_1 _ [] (.tmp rfl) .nil ⟨?_, rfl⟩
 unfold Za2
 generalize Zj8 (t / 86400) = y
 congr 1
 split <;> split <;> omega
theorem Zpi (x k : Int) (hx : -1000000000000000000 <= x /\ x <= 1000000000000000000) (hk : 0 <= k /\ k <= 6) (w : World) : Does Tryz.prog 304 [.int .i64 x, .int .i64 k] w (fun v O => v = .int .i64 (Ze8 x k) /\ O = []) := by
 have hw := ZpY x
 refine Zab Tryz.func304 rfl rfl rfl rfl ?_
 unfold Ze8
 repeat' (first | (apply RL_pu; rfl; exact PuDayf0) | (refine js ?_; (refine Zac (fun w' _ => Zki x (by omega) w') ?_)) | refine walk1 ?_ | (refine Zah rfl (fun hc => ?_) (fun hc => ?_)))
 all_goals exact clo1
theorem ZjA (x k : Int) (hx : -1000000000000000000 <= x /\ x <= 1000000000000000000) (hk : 0 <= k /\ k <= 6) (w : World) : Does Tryz.prog 302 [.int .i64 x, .int .i64 k] w (fun v O => v = .int .i64 (Zen x k) /\ O = []) := by
 have hw := ZpY x
 refine Zab Tryz.func302 rfl rfl rfl rfl ?_
 unfold Zen
 repeat' (first | (apply RL_pu; rfl; exact PuDayf0) | (refine js ?_; (refine Zac (fun w' _ => Zki x (by omega) w') ?_)) | refine walk1 ?_ | (refine Zah rfl (fun hc => ?_) (fun hc => ?_)))
 all_goals exact clo1
def Znb (k : Int) : FuncId := if k = 1 then 300 else if k = 2 then 301 else if k = 3 then 303 else 305
theorem ZrN (p q : Int) (d : DDay) (hp : -100000000000000000 <= p /\ p <= 100000000000000000) (hq : -100000000000000000 <= q /\ q <= 100000000000000000) (hk : 1 <= d.kind /\ d.kind <= 4) (hw : 0 <= d.week /\ d.week <= 6) (hd : 0 <= d.day /\ d.day <= 31) (w : World) :
  Does Tryz.prog (Znb d.kind) [.int .i64 p, .int .i64 q, .agg (DDay.enc d).toArray] w (fun v O => v = .int .i64 (Ze3 p q d) /\ O = []) := by
 obtain ⟨k, wk, dd⟩ := d
 simp only at hk hw hd ⊢
 have h4 : k = 1 \/ k = 2 \/ k = 3 \/ k = 4 := by omega
 rcases h4 with rfl | rfl | rfl | rfl
 ·rw [show Ze3 p q ⟨1, wk, dd⟩ = p + dd - 1 by simp [Ze3]]
  show Does _ 300 [.int .i64 p, .int .i64 q, .agg #[.int .i64 1, .int .i64 wk, .int .i64 dd]] w _
  refine Zab Tryz.func300 rfl rfl rfl rfl ?_
  repeat' (first | (apply RL_pu; rfl; exact PuDayf0) | (refine js ?_; (refine bx ?_; intro bk)) | refine walk1 ?_ | (refine Zah rfl (fun hc => ?_) (fun hc => ?_)))
  all_goals exact clo1
 ·rw [show Ze3 p q ⟨2, wk, dd⟩ = Zen q wk by simp [Ze3]]
  show Does _ 301 [.int .i64 p, .int .i64 q, .agg #[.int .i64 2, .int .i64 wk, .int .i64 dd]] w _
  refine Zab Tryz.func301 rfl rfl rfl rfl ?_
  repeat' (first | (apply RL_pu; rfl; exact PuDayf0) | (refine js ?_; (first | (refine Zac (fun w' _ => ZjA q wk (by omega) hw w') ?_) | (refine bx ?_; intro bk))) | refine walk1 ?_ | (refine Zah rfl (fun hc => ?_) (fun hc => ?_)))
  all_goals exact clo1
 ·rw [show Ze3 p q ⟨3, wk, dd⟩ = Ze8 (p + dd - 1) wk by simp [Ze3]]
  show Does _ 303 [.int .i64 p, .int .i64 q, .agg #[.int .i64 3, .int .i64 wk, .int .i64 dd]] w _
  refine Zab Tryz.func303 rfl rfl rfl rfl ?_
  repeat' (first | (apply RL_pu; rfl; exact PuDayf0) | (refine js ?_; (first | (refine Zac (fun w' _ => Zpi (p + dd - 1) wk (by omega) hw w') ?_) | (refine bx ?_; intro bk))) | refine walk1 ?_ | (refine Zah rfl (fun hc => ?_) (fun hc => ?_)))
  all_goals exact clo1
 ·rw [show Ze3 p q ⟨4, wk, dd⟩ = Zen (p + dd - 1) wk by simp [Ze3]]
  show Does _ 305 [.int .i64 p, .int .i64 q, .agg #[.int .i64 4, .int .i64 wk, .int .i64 dd]] w _
  refine Zab Tryz.func305 rfl rfl rfl rfl ?_
  repeat' (first | (apply RL_pu; rfl; exact PuDayf0) | (refine js ?_; (first | (refine Zac (fun w' _ => ZjA (p + dd - 1) wk (by omega) hw w') ?_) | (refine bx ?_; intro bk))) | refine walk1 ?_ | (refine Zah rfl (fun hc => ?_) (fun hc => ?_)))
  all_goals exact clo1
theorem Zxe {w : World} (hG : Glob w) (k : Int) (hk : 1 <= k /\ k <= 4) : Zao w ((⟨4, 0, none⟩ : Addr).add (k.toNat * 3)) [.bool (Zmq k), .bool (dayK k), fnV (Znb k)] := by
 intro j v hj
 have hk := hG.kin ((k.toNat - 1) * 3 + j) v
 have h4 : k = 1 \/ k = 2 \/ k = 3 \/ k = 4 := by omega
 have hj3 : j < 3 := (List.getElem?_eq_some_iff.1 hj).1
 have h3 : j = 0 \/ j = 1 \/ j = 2 := by omega
 rcases h4 with rfl | rfl | rfl | rfl <;> rcases h3 with rfl | rfl | rfl <;> exact hk hj
theorem Zjt (d : DDay) (w : World) (hG : Glob w) : Does Tryz.prog 207 [.agg (DDay.enc d).toArray] w (fun v O => v = .int .i64 (if Zco d then 0 else 2) /\ O = []) := by
 obtain ⟨k, wk, dd⟩ := d
 by_cases hk : 1 <= k /\ k <= 4
 ·have hcell := Zxe hG k hk
  have e : Zco ⟨k, wk, dd⟩ = !((!decide (wk = 0) && !Zmq k) || decide (wk < 0) || decide (6 < wk) || (dayK k == decide (dd = 0)) || decide (dd < 0) || decide (31 < dd)) := by simp [Zco, hk.1, hk.2]
  rw [e]
  generalize Zmq k = b1 at *
  generalize dayK k = b2 at *
  show Does _ _ [.agg #[.int .i64 k, .int .i64 wk, .int .i64 dd]] w _
  refine Zab Tryz.func207 rfl rfl rfl rfl ?_
  repeat' (first | (apply RL_pu; rfl; (first | exact PuDayf0 | (apply Zbv; rfl; rfl; omega; omega) | (apply Pu_loadON; rfl; exact hcell; rfl))) | (refine js ?_; (refine bx ?_; intro bk)) | refine walk1 ?_ | refine und ?_ | (refine ZaB rfl rfl rfl (fun hc => ?_) (fun hc => ?_)) | (refine Zaz rfl rfl rfl (fun hc => ?_) (fun hc => ?_)) | (refine Zah rfl (fun hc => ?_) (fun hc => ?_)))
  all_goals exact clo1
 ·have e : Zco ⟨k, wk, dd⟩ = false := by
   simp only [Zco]
   have : (decide (1 <= k) && decide (k <= 4)) = false := by simp; omega
   rw [this]; rfl
  rw [e]
  show Does _ _ [.agg #[.int .i64 k, .int .i64 wk, .int .i64 dd]] w _
  refine Zab Tryz.func207 rfl rfl rfl rfl ?_
  repeat' (first | (refine js ?_; (refine bx ?_; intro bk)) | refine walk ?_ | refine und ?_ | (refine ZaB rfl rfl rfl (fun hc => ?_) (fun hc => ?_)) | (refine Zaz rfl rfl rfl (fun hc => ?_) (fun hc => ?_)) | (refine Zah rfl (fun hc => ?_) (fun hc => ?_)))
  all_goals exact clo1
theorem Zem (d : Zfe) (w : World) : Does Tryz.prog 175 [.agg (Zfe.enc d).toArray] w (fun v O => v = .int .i64 (if Zbb d then 0 else 2) /\ O = []) := by
 obtain ⟨k, wk⟩ := d
 show Does _ _ [.agg #[.int .i64 k, .int .i64 wk]] w _
 refine Zab Tryz.func175 rfl rfl rfl rfl ?_
 repeat' (first | (refine js ?_; (refine bx ?_; intro bk)) | refine walk ?_ | refine und ?_ | (refine ZaB rfl rfl rfl (fun hc => ?_) (fun hc => ?_)) | (refine Zaz rfl rfl rfl (fun hc => ?_) (fun hc => ?_)) | (refine Zah rfl (fun hc => ?_) (fun hc => ?_)))
 all_goals first | (refine ret_1 _ [] (.tmp rfl) .nil ⟨?_, rfl⟩; first | rfl | (simp only [*, Bool.true_and, Bool.false_and, Bool.true_or, Bool.false_or, Bool.not_true, Bool.not_false]; done) | (simp_all [Zbb]; done) | (simp_all [Zbb]; omega) | (simp_all [Zbb]; rw [Bool.eq_iff_iff]; simp; omega)) | (exfalso; simp_all [Zbb]; done) | (exfalso; simp_all [Zbb]; omega) | (exfalso; omega)
theorem ZnD {d : DDay} (h : Zco d = true) : (1 <= d.kind /\ d.kind <= 4) /\ (0 <= d.week /\ d.week <= 6) /\ 0 <= d.day /\ d.day <= 31 := by
 simp only [Zco, Bool.and_eq_true, Bool.not_eq_true', Bool.or_eq_false_iff, decide_eq_true_eq, decide_eq_false_iff_not] at h
 omega
theorem ZqI {y m d : Int} (h : ZbL y m d = true) : -1000000000000 <= Zbd y m d /\ Zbd y m d <= 1000000000000 := by
 obtain ⟨h1, h2, h3⟩ := ZnB h
 unfold Zbd Zcf
 have hb := Zfq
 split
 ·have := hb (m + 12 - 3).toNat
  omega
 ·have := hb (m - 3).toNat
  omega
theorem ZpJ {G : Prop} (h : G := by (first | exact PuDayf0 | (apply Zbv; rfl; rfl; omega; omega) | (apply Pu_loadO1'; rfl; exact hcell; rfl))) : G := h
theorem ZuM {G : Prop} (h : G := by first | (apply Qy_y; rfl; exact ZpJ) | exact QyA) : G := h
theorem Zzu {G : Prop} (h : G := by repeat (first | exact QF.nil | (apply QF.mk; rfl; rfl; decide +kernel; exact ZuM))) : G := h
theorem ZoF (y m : Int) (d : DDay) (w : World) (hG : Glob w) : Does Tryz.prog 176 [.int .i64 y, .int .i64 m, .agg (DDay.enc d).toArray] w (fun v O => v = .tuple #[.int .i64 (onD y m d).1, .int .i64 (onD y m d).2] /\ O = []) := by
 have hl := Zhl y m
 have hdc := fun w' hw => Zjt d w' (Glob.up (w' := w') hG hw)
 by_cases hok : ZbL y m 1 = true
 ·have hdb := ZqI hok
  by_cases hc : Zco d = true
  ·obtain ⟨b1, b2, b3⟩ := ZnD hc
   have hcell := Zxe hG d.kind b1
   have hks := fun w' => ZrN (Zbd y m 1) (Zbd y m 1 + lenM y m - 1) d (by omega) (by omega) b1 b2 b3 w'
   haveI : Body Tryz.prog (Znb d.kind) := by
    unfold Znb
    split
    ·infer_instance
    ·split
     ·infer_instance
     ·split <;> infer_instance
   have e : onD y m d = if lenM y m < d.day then (0, 4) else (Ze3 (Zbd y m 1) (Zbd y m 1 + lenM y m - 1) d, 0) := by simp [onD, hok, hc]
   rw [e]
   clear e
   have ed := ZgM y m 1
   rw [if_pos hok, if_pos hok] at ed
   rw [hc] at hdc
   generalize Ze3 (Zbd y m 1) (Zbd y m 1 + lenM y m - 1) d = res at *
   obtain ⟨k, wk, dd⟩ := d
   simp only at *
   generalize Znb k = kf at *
   show Does _ _ [.int .i64 y, .int .i64 m, .agg #[.int .i64 k, .int .i64 wk, .int .i64 dd]] w _
   refine Zab Tryz.func176 rfl rfl rfl rfl ?_
   repeat' (first | (apply RL_pu; rfl; exact ZpJ) | (refine js ?_; (first | (apply Zar (f := kf) (us := []) (cs := []) (vs := [.int .i64 (Zbd y m 1), .int .i64 (Zbd y m 1 + lenM y m - 1), .agg #[.int .i64 k, .int .i64 wk, .int .i64 dd]]) (h := fun w' hw _ => hks w'); rfl; rfl; rintro v O' ⟨rfl, rfl⟩) | (refine Zac (fun w' hw => ed w' (hG.up hw)) ?_) | (refine Zac hdc ?_) | (refine Zac (fun w' hw => Zb2 y m w') ?_) | (refine bx ?_; intro bk))) | (apply RD_Q; rfl; rfl; decide +kernel; rfl; rfl; exact ZuM) | refine walk1 ?_ | (refine ZeB ?_; intro F; (first | (apply Zar (f := kf) (us := []) (cs := []) (vs := [.int .i64 (Zbd y m 1), .int .i64 (Zbd y m 1 + lenM y m - 1), .agg #[.int .i64 k, .int .i64 wk, .int .i64 dd]]) (h := fun w' hw _ => hks w'); rfl; rfl; rintro v O' ⟨rfl, rfl⟩) | (refine Zac (fun w' hw => ed w' (hG.up hw)) ?_) | (refine Zac hdc ?_) | (refine Zac (fun w' hw => Zb2 y m w') ?_)); refine ⟨_, EndsA, SubO.right _ _, ?_⟩) | (refine RD_Lw ?_; intro F; (first | (apply Zar (f := kf) (us := []) (cs := []) (vs := [.int .i64 (Zbd y m 1), .int .i64 (Zbd y m 1 + lenM y m - 1), .agg #[.int .i64 k, .int .i64 wk, .int .i64 dd]]) (h := fun w' hw _ => hks w'); rfl; rfl; rintro v O' ⟨rfl, rfl⟩) | (refine Zac (fun w' hw => ed w' (hG.up hw)) ?_) | (refine Zac hdc ?_) | (refine Zac (fun w' hw => Zb2 y m w') ?_) | (refine bx ?_; intro bk) | (apply Zae; first | exact ZpJ | exact PuA)); refine ⟨_, EndsA, Zzu, ?_⟩) | (refine Zah rfl (fun hc => ?_) (fun hc => ?_)))
   ·have hr := hc
    rw [if_pos (of_decide_eq_true hr)]
    exact rtB
   ·have hr := hc
    rw [if_neg (of_decide_eq_false hr)]
    exact rtB
  ·have e : onD y m d = (0, 2) := by simp [onD, hok, hc]
   rw [e]
   have ed := ZgM y m 1
   rw [if_pos hok, if_pos hok] at ed
   rw [Bool.not_eq_true] at hc
   rw [hc] at hdc
   obtain ⟨k, wk, dd⟩ := d
   show Does _ _ [.int .i64 y, .int .i64 m, .agg #[.int .i64 k, .int .i64 wk, .int .i64 dd]] w _
   refine Zab Tryz.func176 rfl rfl rfl rfl ?_
   repeat' (first | (refine js ?_; (first | (refine Zac (fun w' hw => ed w' (hG.up hw)) ?_) | (refine Zac hdc ?_) | (refine bx ?_; intro bk))) | refine walk ?_ | (refine ZeB ?_; intro F; (first | (refine Zac (fun w' hw => ed w' (hG.up hw)) ?_) | (refine Zac hdc ?_)); refine ⟨_, EndsA, SubO.right _ _, ?_⟩) | (refine RD_Lw ?_; intro F; (first | (refine Zac (fun w' hw => ed w' (hG.up hw)) ?_) | (refine Zac hdc ?_) | (refine bx ?_; intro bk) | (apply Zae; exact PuA)); refine ⟨_, EndsA, QFA, ?_⟩) | (refine Zah rfl (fun hc => ?_) (fun hc => ?_)))
   all_goals exact clo2
 ·have e : onD y m d = (0, 3) := by simp [onD, hok]
  rw [e]
  have ed := ZgM y m 1
  rw [if_neg hok, if_neg hok] at ed
  refine Zab Tryz.func176 rfl rfl rfl rfl ?_
  repeat' (first | (refine js ?_; (first | (refine Zac (fun w' hw => ed w' (hG.up hw)) ?_) | (refine bx ?_; intro bk))) | refine walk ?_ | (refine ZeB ?_; intro F; (refine Zac (fun w' hw => ed w' (hG.up hw)) ?_); refine ⟨_, EndsA, SubO.right _ _, ?_⟩) | (refine RD_Lw ?_; intro F; (first | (refine Zac (fun w' hw => ed w' (hG.up hw)) ?_) | (refine bx ?_; intro bk) | (apply Zae; exact PuA)); refine ⟨_, EndsA, QFA, ?_⟩) | (refine Zah rfl (fun hc => ?_) (fun hc => ?_)))
  all_goals exact clo2
theorem ZpI {G : Prop} (h : G := by (apply Pu_rem; rfl; rfl; decide)) : G := h
theorem ZuL {G : Prop} (h : G := by first | (apply Qy_y; rfl; exact ZpI) | exact QyA) : G := h
theorem Zzt {G : Prop} (h : G := by repeat (first | exact QF.nil | (apply QF.mk; rfl; rfl; decide +kernel; exact ZuL))) : G := h
theorem Zpn (a b m : Int) (d : DDay) (w : World) (hG : Glob w) : Does Tryz.prog 294 [.int .i64 a, .int .i64 b, .int .i64 m, .agg (DDay.enc d).toArray] w (fun v O => v = .bool (Zge a b m d) /\ O = []) := by
 have hdc := fun w' hw => Zjt d w' (Glob.up (w' := w') hG hw)
 unfold Zge
 generalize Zco d = c at *
 obtain ⟨k, wk, dd⟩ := d
 simp only at *
 show Does _ _ [.int .i64 a, .int .i64 b, .int .i64 m, .agg #[.int .i64 k, .int .i64 wk, .int .i64 dd]] w _
 refine Zab Tryz.func294 rfl rfl rfl rfl ?_
 repeat' (first | (apply RL_pu; rfl; exact ZpI) | (refine js ?_; (first | (refine Zac hdc ?_) | (refine Zac (fun w' hw => Zb2 1 m w') ?_) | (refine Zac (fun w' hw => Zb2 (a.tmod 400) m w') ?_) | (refine bx ?_; intro bk))) | (apply RD_Q; rfl; rfl; decide +kernel; rfl; rfl; exact ZuL) | refine walk1 ?_ | (refine ZeB ?_; intro F; (first | (refine Zac hdc ?_) | (refine Zac (fun w' hw => Zb2 1 m w') ?_) | (refine Zac (fun w' hw => Zb2 (a.tmod 400) m w') ?_)); refine ⟨_, EndsA, SubO.right _ _, ?_⟩) | (refine RD_Lw ?_; intro F; (first | (refine Zac hdc ?_) | (refine Zac (fun w' hw => Zb2 1 m w') ?_) | (refine Zac (fun w' hw => Zb2 (a.tmod 400) m w') ?_) | (refine bx ?_; intro bk) | (apply Zae; first | exact ZpI | exact PuA)); refine ⟨_, EndsA, Zzt, ?_⟩) | refine und ?_ | (refine ZaB rfl rfl rfl (fun hc => ?_) (fun hc => ?_)) | (refine Zaz rfl rfl rfl (fun hc => ?_) (fun hc => ?_)) | (refine Zah rfl (fun hc => ?_) (fun hc => ?_)))
 all_goals exact clo1
end Go.Proofs.YtpcpmndldgejiaaGreatDoor
namespace Go.Wk
open Go Go.RowKit
def kArr (p : Nat -> Nat) : List Value := (List.range 256).map fun i => .int .u8 (p i)
theorem ZdB (p : Nat -> Nat) : (kArr p).length = 256 := by simp [kArr]
theorem Zwp {p : Nat -> Nat} {j : Nat} (hj : j < 256) : (kArr p)[j]? = some (.int .u8 (p j)) := by simp [kArr, hj]
theorem Zwo (p : Nat -> Nat) (j v : Nat) : (kArr p).set j (.int .u8 v) = kArr fun i => if i = j then v else p i := by
 apply List.ext_getElem
 ·simp [kArr]
 ·intro i h1 h2
  simp only [kArr, List.getElem_set, List.getElem_map, List.getElem_range]
  by_cases h : j = i
  ·subst h; simp
  ·have : i ≠ j := fun e => h e.symm
   simp [h, this]
theorem Zd3 {p q : Nat -> Nat} (h : ∀ i, i < 256 -> p i = q i) : kArr p = kArr q := by
 unfold kArr
 apply List.map_congr_left
 intro i hi
 rw [h i (List.mem_range.1 hi)]
theorem Zqu (p : Nat -> Nat) : (kArr p).all Value.oneCell' = true := by simp [kArr, Value.oneCell']
attribute [irreducible] kArr
theorem ZtE : ∀ (vs : List Value) (pre cs : List Value), cs.length = vs.length -> lay (pre ++ cs) pre.length vs = pre ++ vs
 | [], pre, cs, h => by
  have : cs = [] := List.eq_nil_of_length_eq_zero h
  rw [this]; rfl
 | v :: r, pre, [], h => by simp at h
 | v :: r, pre, c :: cs, h => by
  rw [lay, List.set_append_right _ _ (Nat.le_refl _), Nat.sub_self, List.set_cons_zero]
  have := ZtE r (pre ++ [v]) cs (by simpa using h)
  rw [List.append_assoc, List.length_append] at this
  simpa using this
section
variable {P : Program} {n : Nat} {wr : World} {fr : Fr} {O : List It} {ty : TypeId} {pos : String} {af : Array Edge}
theorem Zsn {t sz b : Nat} {x : Operand} {cs : List Value} {bt : TypeId} {R : List It} [Ty P t sz true] (hx : ev fr x = some (.pointer (some ⟨b, 0, none⟩))) (hp : Pick (.blk b cs bt) O R) (hl : cs.length = sz) : Pu P n wr fr O (.load t x) ty (.agg cs.toArray) :=
 Zn4 hx hp (by simp [List.take_of_length_le (Nat.le_of_eq hl)]) hl
theorem Zk9 {t : TypeId} {x z : Operand} {s : ByteArray} {k' : IntKind} {j : Int} [hS : StringT P t] (hx : ev fr x = some (.string s)) (hz : ev fr z = some (.int k' j)) (h1 : 0 <= j) (h2 : j <= s.size) :
  Pu P n wr fr O (.slice t x none (some z) none) ty (.string (s.extract 0 j.toNat)) := fun a w hs _ _ _ _ => by
 have h : (Instr.slice t (.string s) none (some (.int k' j)) none).run P w = .ok (.string (s.extract 0 j.toNat)) w := by
  have hj : 0 <= j /\ j <= (s.size : Int) := ⟨by omega, h2⟩
  simp [Instr.slice, Instr.sliceBounds, Instr.sliceBound, asIntOf, run_underlying hS.h, hj]
 simp [execOp, hs.sim.ev hx, hs.sim.ev hz, Instr.sliceAt, run_underlying hS.h, h]
theorem Zsl {t : TypeId} {x y : Operand} {s : ByteArray} {k : IntKind} {i : Int} [hS : StringT P t] (hx : ev fr x = some (.string s)) (hy : ev fr y = some (.int k i)) (h0 : 0 <= i) (h1 : i <= s.size) :
  Pu P n wr fr O (.slice t x (some y) none none) ty (.string (s.extract i.toNat s.size)) := fun a w hs _ _ _ _ => by
 have h : (Instr.slice t (.string s) (some (.int k i)) none none).run P w = .ok (.string (s.extract i.toNat s.size)) w := by
  have hi : 0 <= i /\ i <= (s.size : Int) := ⟨h0, h1⟩
  simp [Instr.slice, Instr.sliceBounds, Instr.sliceBound, asIntOf, run_underlying hS.h, hi]
 simp [execOp, hs.sim.ev hx, hs.sim.ev hy, Instr.sliceAt, run_underlying hS.h, h]
theorem Zg2 {t : TypeId} {x ix : Operand} {s : ByteArray} {kk : IntKind} {i : Int} {c : UInt8} [hS : StringT P t] (hx : ev fr x = some (.string s)) (hi : ev fr ix = some (.int kk i)) (h0 : 0 <= i) (h1 : i < s.size) (hc : s.data.toList.getD i.toNat 0 = c) : Pu P n wr fr O (.index t x ix) ty (.int .u8 c.toNat) := by
 subst hc
 exact Zn5 hx hi h0 h1
theorem Zhx {t b j v : Nat} {bt : TypeId} {x y : Operand} {p : Nat -> Nat} {O' : List It} {dst : Option Tmp} {g : Option (Nat × Bool)} {Kp : Value -> List It -> Prop} [Ty P t 1 false] (hx : ev fr x = some (.pointer (some ((⟨b, 0, none⟩ : Addr).add (j * 1))))) (hy : ev fr y = some (.int .u8 v))
  (hu : Upd O (.blk b (kArr p) bt) (.blk b (kArr fun i => if i = j then v else p i) bt) O') (hj : j < 256) (k : Kp undef O') : Stp P n wr fr O ⟨dst, .store t x y, ty, pos, af, g⟩ Kp := by
 rw [Zca, Nat.zero_add, Nat.mul_one] at hx
 exact Zhy (sz := 1) (v := .int .u8 v) (vs := [.int .u8 v]) (j := j) hx hy hu rfl rfl rfl (by rw [Nat.ble_eq, ZdB]; omega) (Zwo p j v) k
theorem ZhX {t b sz : Nat} {bt : TypeId} {x y : Operand} {cs vs : List Value} {O' : List It} {dst : Option Tmp} {g : Option (Nat × Bool)} {Kp : Value -> List It -> Prop} [Ty P t sz true] (hx : ev fr x = some (.pointer (some ⟨b, 0, none⟩))) (hy : ev fr y = some (.agg vs.toArray))
  (hu : Upd O (.blk b cs bt) (.blk b vs bt) O') (hl : vs.length = sz) (hc : cs.length = sz) (h1 : vs.all Value.oneCell' = true) (k : Kp undef O') : Stp P n wr fr O ⟨dst, .store t x y, ty, pos, af, g⟩ Kp :=
 Zhy (v := .agg vs.toArray) (vs := vs) hx hy hu rfl hl h1 (by rw [Nat.ble_eq]; omega) (ZtE vs [] cs (by omega)) k
end
theorem Zax.cells {base b : Nat} {cs : List Value} {t : TypeId} {O R : List It} {w : World} (h : Zax base O w) (hp : Pick (.blk b cs t) O R) : Zao w ⟨b, 0, none⟩ cs := fun j v hj => by
 rw [Zca, Zcz (h.sat _ (hp.perm.mem_iff.2 List.mem_cons_self)), Nat.zero_add, hj]
theorem ZvT : ∀ a ∈ [0, 1, 2, 4, 8, 16], ∀ s : Fin 256, IntKind.u8.wrap ((BitVec.ofInt IntKind.u8.bits ((a : Nat) : Int) &&& BitVec.ofInt IntKind.u8.bits ((s.val : Nat) : Int)).toNat : Nat) = ((a &&& s.val : Nat) : Int) := by decide +kernel
theorem Zuj (c : Nat) : Zdv c ∈ [0, 1, 2, 4, 8, 16] := by
 unfold Zdv
 repeat' split
 all_goals decide
end Go.Wk
namespace Go.Proofs.YtpcpmndldgejiaaGreatDoor
open Go Go.RowKit Go.Wk
attribute [local irreducible] W RL Does Zay Zam retQ Calls Pu Stp RD Qy Ay Zan
instance zeroKinds : ZeroT Tryz.prog 266 (kArr fun _ => 0) := ⟨by kernel_rfl⟩
def k1 (k i : Nat) : Nat := if (65 <= i /\ i < 65 + k) \/ (97 <= i /\ i < 97 + k) then 1 else 0
def k2 (k i : Nat) : Nat := if 48 <= i /\ i < 48 + k then 2 else k1 26 i
theorem ZjR {G : Prop} (h : G := by (apply Zbv; rfl; rfl; omega; omega)) : G := h
theorem ZoH (w : World) : Does Tryz.prog 166 [] w (fun v O => v = .agg (kArr Zdv).toArray /\ O = []) := by
 refine Zab Tryz.func166 rfl rfl rfl rfl ?_
 repeat (first | (refine js ?_; (refine bx ?_; intro bk)) | refine Zll ?_)
 rename_i b0
 have e0 : kArr (k1 0) = kArr fun _ => 0 := Zd3 fun i _ => if_neg (by omega)
 rw [<- e0]
 refine Zb0 (fun fr' O' => Go.Wk.Sub [(0, .pointer (some ⟨b0, 0, none⟩)), (1, .pointer (some ⟨bk, 0, none⟩))] fr' /\ SubO [.blk bk (kArr (k1 26)) 266, .blk b0 (kArr (k1 0)) 266] O') ?_ ?_
 ·apply W_block
  refine Zaq [(0, .pointer (some ⟨b0, 0, none⟩)), (1, .pointer (some ⟨bk, 0, none⟩))] [.blk b0 (kArr (k1 0)) 266] (fun k : Nat => [(4, .int .i64 k)]) (fun k => [.blk bk (kArr (k1 k)) 266]) (fun k => k <= 26) (fun k => 26 - k) 0 SFA SOA (Nat.zero_le _) ?_
  intro k hk
  repeat (first | (apply RL_pu; rfl; exact ZjR) | (refine js ?_; (refine bx ?_; intro bk)) | refine walk1 ?_)
  refine Zah rfl (fun h => ?_) (fun h => ?_)
  ·have h1 := of_decide_eq_true h
   repeat (first | (apply RL_pu; rfl; exact ZjR) | (refine js ?_; (first | (apply Zhx; rfl; rfl; (focus repeat' constructor); omega) | (refine bx ?_; intro bk))) | refine walk1 ?_)
   rw [Zd3 (p := fun i => if i = (97 + (k : Int)).toNat then 1 else if i = (65 + (k : Int)).toNat then 1 else k1 k i) (q := k1 (k + 1)) (fun i hi => by
    unfold k1
    repeat' split
    all_goals omega)]
   exact ⟨k + 1, OA, OA, SFA, SOA⟩
  ·have h1 := of_decide_eq_false h
   obtain rfl : k = 26 := by omega
   repeat (first | (refine js ?_; (refine bx ?_; intro bk)) | refine walk ?_)
   exact ⟨rfl, SFA, SOA⟩
 rintro fr' O' ⟨hf, hO⟩
 apply thenQ_n
 refine Zch hf hO ?_
 clear hf hO fr' O'
 rw [show kArr (k1 26) = kArr (k2 0) from Zd3 fun i _ => (if_neg (by omega)).symm]
 repeat (first | (refine js ?_; (refine bx ?_; intro bk)) | refine Zll ?_)
 refine Zb0 (fun fr' O' => Go.Wk.Sub [(0, .pointer (some ⟨b0, 0, none⟩)), (1, .pointer (some ⟨bk, 0, none⟩))] fr' /\ SubO [.blk bk (kArr (k2 10)) 266, .blk b0 (kArr (k1 0)) 266] O') ?_ ?_
 ·apply W_block
  refine Zaq [(0, .pointer (some ⟨b0, 0, none⟩)), (1, .pointer (some ⟨bk, 0, none⟩))] [.blk b0 (kArr (k1 0)) 266] (fun k : Nat => [(14, .int .i64 k)]) (fun k => [.blk bk (kArr (k2 k)) 266]) (fun k => k <= 10) (fun k => 10 - k) 0 SFA SOA (Nat.zero_le _) ?_
  intro k hk
  repeat (first | (apply RL_pu; rfl; exact ZjR) | (refine js ?_; (refine bx ?_; intro bk)) | refine walk1 ?_)
  refine Zah rfl (fun h => ?_) (fun h => ?_)
  ·have h1 := of_decide_eq_true h
   repeat (first | (apply RL_pu; rfl; exact ZjR) | (refine js ?_; (first | (apply Zhx; rfl; rfl; (focus repeat' constructor); omega) | (refine bx ?_; intro bk))) | refine walk1 ?_)
   rw [Zd3 (p := fun i => if i = (48 + (k : Int)).toNat then 2 else k2 k i) (q := k2 (k + 1)) (fun i hi => by
    unfold k2
    repeat' split
    all_goals omega)]
   exact ⟨k + 1, OA, OA, SFA, SOA⟩
  ·have h1 := of_decide_eq_false h
   obtain rfl : k = 10 := by omega
   repeat (first | (refine js ?_; (refine bx ?_; intro bk)) | refine walk ?_)
   exact ⟨rfl, SFA, SOA⟩
 rintro fr' O' ⟨hf, hO⟩
 apply thenQ_n
 refine Zch hf hO ?_
 clear hf hO fr' O'
 repeat (first | (apply RL_pu; rfl; (first | exact ZjR | (apply Zsn; rfl; (focus repeat' constructor); exact ZdB _))) | (refine js ?_; (first | (apply Zhx; rfl; rfl; (focus repeat' constructor); omega) | (apply ZhX; rfl; rfl; (focus repeat' constructor); exact ZdB _; exact ZdB _; exact Zqu _) | (refine bx ?_; intro bk))) | refine walk1 ?_)
 refine ret_1 _ [] (.cellB rfl (by repeat' constructor) (List.take_of_length_le (Nat.le_of_eq (ZdB _))) (ZdB _)) .nil ⟨?_, rfl⟩
 rw [Zd3 (q := Zdv) (fun i hi => by
    unfold Zdv k2 k1
    repeat' split
    all_goals omega)]
theorem Zlj {G G' : Prop} (k : G') (h : Hold G' -> G := by intro k9; (first | refine walk ?_ | (refine jn ?_; (try intro F); (apply Zae; exact PuA); refine fin ?_)); exact k9.out) : G := h ⟨k⟩
theorem Zvm {G : Prop} (h : G := by (apply Pu_loadO1; rfl; first | exact h1 0 _ rfl | exact h2 0 _ rfl | exact h4 0 _ rfl)) : G := h
theorem ZpH {G : Prop} (h : G := by (first | (apply Zg2 (c := c); rfl; rfl; omega; omega; exact hcd) | (apply Zbv; rfl; rfl; omega; omega) | (apply Pu_loadO1'; rfl; exact h3; exact hcell) | (apply Pu_loadO1; rfl; exact h4 0 _ rfl) | (apply ZzB; rfl; rfl))) : G := h
theorem Zzs {G : Prop} (h : G := by first | (apply Qy_y; rfl; exact ZpH) | exact QyA) : G := h
theorem Zwf (s : ByteArray) (a b m b1 b2 b3 b4 : Nat) (hs : (s.size : Int) <= 9223372036854775807) (hm : m < 256) (w : World) (h1 : Zao w ⟨b1, 0, none⟩ [.int .i64 a]) (h2 : Zao w ⟨b2, 0, none⟩ [.int .i64 b]) (h3 : Zao w ⟨b3, 0, none⟩ (kArr Zdv)) (h4 : Zao w ⟨b4, 0, none⟩ [.int .u8 m]) :
  Does Tryz.prog 167 [.string s, .pointer (some ⟨b1, 0, none⟩), .pointer (some ⟨b2, 0, none⟩), .pointer (some ⟨b3, 0, none⟩), .pointer (some ⟨b4, 0, none⟩)] w (fun v O => v = .bool (Zde a b m s.data.toList) /\ O = []) := by
 have hlen : s.data.toList.length = s.size := rfl
 have hg : ∀ j, s.data.toList.getD j 0 = (s.data.toList[j]?).getD 0 := fun j => by rw [List.getD_eq_getElem?_getD]
 refine Zab Tryz.func167 rfl rfl rfl rfl ?_
 rw [Zde, hlen]
 obtain ⟨l, hl⟩ : ∃ l, l = s.data.toList := ⟨_, rfl⟩
 rw [<- hl] at hlen hg ⊢
 repeat' (first | (apply RL_pu; rfl; exact Zvm) | (apply RD_Q; rfl; rfl; decide +kernel; rfl; rfl; exact QyName2) | refine walk1 ?_ | (refine RD_Lw ?_; intro F; (apply Zae; first | exact Zvm | exact PuA); refine ⟨_, EndsA, QFName2, ?_⟩) | refine und ?_ | (refine ZaB rfl rfl rfl (fun hc => ?_) (fun hc => ?_)) | (refine Zaz rfl rfl rfl (fun hc => ?_) (fun hc => ?_)) | (refine Zah rfl (fun hc => ?_) (fun hc => ?_)))
 ·have h := of_decide_eq_true hc
  exact ret_1 _ [] (.tmp rfl) .nil ⟨by rw [decide_eq_false (show ¬ a <= s.size by omega)]; rfl, rfl⟩
 ·have h := of_decide_eq_true hc
  exact ret_1 _ [] (.tmp rfl) .nil ⟨by rw [decide_eq_false (show ¬ s.size <= b by omega), Bool.and_false]; rfl, rfl⟩
 rename_i hca
 have ha := of_decide_eq_false hca
 have hb := of_decide_eq_false hc
 rw [decide_eq_true (show a <= s.size by omega), decide_eq_true (show s.size <= b by omega), Bool.true_and, Bool.true_and]
 refine Zaq [(0, .string s), (3, .pointer (some ⟨b3, 0, none⟩)), (4, .pointer (some ⟨b4, 0, none⟩)), (19, .int .i64 s.size)] [] (fun k : Nat => [(20, .int .i64 k)]) (fun _ => []) (fun k => k <= s.size /\ ZcK m (l.take k) = true) (fun k => s.size - k) 0 SFA .nil ⟨Nat.zero_le _, rfl⟩ ?_
 rintro k ⟨hk, hok⟩
 repeat refine Zlj ?_
 refine Zah rfl (fun h => ?_) (fun h => ?_)
 ·have hlt := of_decide_eq_true h
  have hlt' : k < l.length := by omega
  have hd : l.getD k 0 = l[k] := by rw [hg, List.getElem?_eq_getElem hlt']; rfl
  have hc8 := UInt8.toNat_lt (l.getD k 0)
  have hcell := Zwp (p := Zdv) hc8
  have hw := ZvT (Zdv (l.getD k 0).toNat) (Zuj _) ⟨m, hm⟩
  have hst : ZcK m (l.take (k + 1)) = (ZcK m (l.take k) && !decide (Zdv (l.getD k 0).toNat &&& m = 0)) := by
   rw [ZcK, List.take_succ_eq_append_getElem hlt', List.all_append, hd]
   simp [ZcK]
  have hall : ZcK m l = (ZcK m (l.take (k + 1)) && ZcK m (l.drop (k + 1))) := by
   rw [ZcK, ZcK, ZcK, <- List.all_append, List.take_append_drop]
  rw [hok, Bool.true_and] at hst
  obtain ⟨c, hcd⟩ : ∃ c, s.data.toList.getD k 0 = c := ⟨_, rfl⟩
  rw [hl, hcd] at hc8 hcell hw
  rw [hl] at hst
  rw [hcd, <- hl] at hst
  rw [<- Nat.mul_one c.toNat] at hcell
  rw [show Zdv (c.toNat * 1) = Zdv c.toNat by rw [Nat.mul_one]] at hcell
  simp only at hw
  repeat (first | (apply RL_pu; rfl; exact ZpH) | (apply RD_Q; rfl; rfl; decide +kernel; rfl; rfl; exact Zzs) | refine walk1 ?_ | (refine jn ?_; (try intro F); (apply Zae; first | exact ZpH | exact PuA); first | refine ⟨_, EndsA, QFName3, ?_⟩ | refine fin ?_))
  rw [hw]
  refine Zah rfl (fun hz => ?_) (fun hz => ?_)
  ·have h0 := of_decide_eq_true hz
   have h0' : Zdv c.toNat &&& m = 0 := by omega
   rw [hall, hst, decide_eq_true h0']
   repeat refine Zlj ?_
   exact rtA
  ·have h0 := of_decide_eq_false hz
   have h0' : ¬ Zdv c.toNat &&& m = 0 := by omega
   rw [decide_eq_false h0'] at hst
   repeat refine Zlj ?_
   exact ⟨k + 1, OA, ⟨OA, hst⟩, SFA, .nil⟩
 ·have h1 := of_decide_eq_false h
  obtain rfl : k = s.size := by omega
  rw [<- hlen, List.take_length] at hok
  repeat refine Zlj ?_
  exact ret_1 _ [] (.tmp rfl) .nil ⟨by rw [hok], rfl⟩
def ofV (b1 b2 b3 b4 : Nat) : Value := .func (.func 167) #[] #[.pointer (some ⟨b1, 0, none⟩), .pointer (some ⟨b2, 0, none⟩), .pointer (some ⟨b3, 0, none⟩), .pointer (some ⟨b4, 0, none⟩)]
def ofO (a b m b1 b2 b3 b4 : Nat) : List It := [.blk b1 [.int .i64 a] 3, .blk b2 [.int .i64 b] 3, .blk b3 (kArr Zdv) 266, .blk b4 [.int .u8 m] 5]
theorem ZgA (a b m : Nat) (w : World) : Does Tryz.prog 120 [.int .i64 a, .int .i64 b, .int .u8 m] w (fun v O => ∃ b1 b2 b3 b4, v = ofV b1 b2 b3 b4 /\ O = ofO a b m b1 b2 b3 b4) := by
 refine Zab Tryz.func120 rfl rfl rfl rfl ?_
 repeat (first | (refine js ?_; (first | (refine Zac (fun w' _ => ZoH w') ?_) | (apply ZhX; rfl; rfl; (focus repeat' constructor); exact ZdB _; exact ZdB _; exact Zqu _) | (refine bx ?_; intro bk))) | refine walk ?_)
 exact ret_1 _ _ (.tmp rfl) SOA ⟨_, _, _, _, rfl, rfl⟩
theorem ZlA {base : Nat} {s : ByteArray} {a b m b1 b2 b3 b4 : Nat} {O : List It} {w : World} (hs : (s.size : Int) <= 9223372036854775807) (hm : m < 256) (hH : Zax base O w) (hO : SubO (ofO a b m b1 b2 b3 b4) O) :
  Does Tryz.prog 167 ([] ++ [.string s] ++ [.pointer (some ⟨b1, 0, none⟩), .pointer (some ⟨b2, 0, none⟩), .pointer (some ⟨b3, 0, none⟩), .pointer (some ⟨b4, 0, none⟩)]) w (fun v O => v = .bool (Zde a b m s.data.toList) /\ O = []) := by
 have h := hH.sub hO
 unfold ofO at h
 exact Zwf s a b m b1 b2 b3 b4 hs hm w (h.cells (by repeat' constructor)) (h.cells (by repeat' constructor)) (h.cells (by repeat' constructor)) (h.cells (by repeat' constructor))
theorem ZoT (s : ByteArray) (hs : (s.size : Int) <= 9223372036854775807) (w : World) : Does Tryz.prog 299 [.string s] w (fun v O => v = .bool (Zi1 s) /\ O = []) := by
 refine Zab Tryz.func299 rfl rfl rfl rfl ?_
 repeat (first | (refine js ?_; (first | (apply Zag (h := fun w' _ _ => ZgA 1 4 1 w'); rfl; rintro v O' ⟨b1, b2, b3, b4, rfl, rfl⟩) | (apply Zar (f := 167) (us := []) (vs := [.string s]) (cs := [.pointer (some ⟨b1, 0, none⟩), .pointer (some ⟨b2, 0, none⟩), .pointer (some ⟨b3, 0, none⟩), .pointer (some ⟨b4, 0, none⟩)]) (h := fun w' _ hH => ZlA (a := 1) (b := 4) (m := 1) hs (by decide) hH (by exact .refl _)); rfl; rfl; rintro v O' ⟨rfl, rfl⟩))) | refine walk ?_)
 exact rtA
theorem ZgW (s : ByteArray) (hs : (s.size : Int) <= 9223372036854775807) (w : World) : Does Tryz.prog 117 [.string s] w (fun v O => v = .bool (Zsh s) /\ O = []) := by
 refine Zab Tryz.func117 rfl rfl rfl rfl ?_
 repeat (first | (refine js ?_; (first | (apply Zag (h := fun w' _ _ => ZgA 3 6 1 w'); rfl; rintro v O' ⟨b1, b2, b3, b4, rfl, rfl⟩) | (apply Zar (f := 167) (us := []) (vs := [.string s]) (cs := [.pointer (some ⟨b1, 0, none⟩), .pointer (some ⟨b2, 0, none⟩), .pointer (some ⟨b3, 0, none⟩), .pointer (some ⟨b4, 0, none⟩)]) (h := fun w' _ hH => ZlA (a := 3) (b := 6) (m := 1) hs (by decide) hH (by exact .refl _)); rfl; rfl; rintro v O' ⟨rfl, rfl⟩))) | refine walk ?_)
 exact rtA
end Go.Proofs.YtpcpmndldgejiaaGreatDoor
namespace Go.Wk
open Go Go.RowKit
theorem Zky {a b m : Nat} {s : ByteArray} (h : Zde a b m s.data.toList = true) : (a : Int) <= s.size /\ (s.size : Int) <= b := by
 simp only [Zde, Bool.and_eq_true, decide_eq_true_eq] at h
 have : s.data.toList.length = s.size := rfl
 omega
theorem ext1 (s : ByteArray) : (s.extract 0 1).data.toList = s.data.toList.take 1 := by
 rw [ByteArray.data_extract]; simp
end Go.Wk
namespace Go.Proofs.YtpcpmndldgejiaaGreatDoor
open Go Go.RowKit Go.Wk
attribute [local irreducible] W RL Does Zay Zam retQ Calls Pu Stp RD Qy Ay Zan Zde
theorem Zql {base : Nat} {s : ByteArray} {a b m b1 b2 b3 b4 : Nat} {O : List It} {w : World} (hs : (s.size : Int) <= 9223372036854775807) (hm : m < 256) (hH : Zax base O w) (hO : SubO (ofO a b m b1 b2 b3 b4) O) :
  Does Tryz.prog 167 ([] ++ [.string s] ++ [.pointer (some ⟨b1, 0, none⟩), .pointer (some ⟨b2, 0, none⟩), .pointer (some ⟨b3, 0, none⟩), .pointer (some ⟨b4, 0, none⟩)]) w (fun v O => ∃ x, Zde a b m s.data.toList = x /\ v = .bool x /\ O = []) :=
 (ZlA hs hm hH hO).monoO fun v O ⟨h1, h2⟩ => ⟨O, ⟨_, rfl, h1, h2⟩, fun _ _ h => h⟩
theorem Zmf {G : Prop} (h : G := by (apply Zk9; rfl; rfl; decide; exact hsz)) : G := h
theorem Zq0 {G : Prop} (h : G := by first | (apply Qy_y; rfl; exact Zmf) | exact QyA) : G := h
theorem ZwU {G : Prop} (h : G := by repeat (first | exact QF.nil | (apply QF.mk; rfl; rfl; decide +kernel; exact Zq0))) : G := h
theorem Zv5 (s : ByteArray) (hs : (s.size : Int) <= 9223372036854775807) (w : World) : Does Tryz.prog 85 [.string s] w (fun v O => v = .bool (setB s) /\ O = []) := by
 have hs1 : ((s.extract 0 1).size : Int) <= 9223372036854775807 := by rw [ByteArray.size_extract]; omega
 refine Zab Tryz.func85 rfl rfl rfl rfl ?_
 repeat (first | refine walk ?_ | (refine jn ?_; (try intro F); (first | (apply Zag (h := fun w' _ _ => ZgA 1 30 15 w'); rfl; rintro v O' ⟨b1, b2, b3, b4, rfl, rfl⟩) | (apply Zar (f := 167) (us := []) (vs := [.string (s)]) (cs := [.pointer (some ⟨b1, 0, none⟩), .pointer (some ⟨b2, 0, none⟩), .pointer (some ⟨b3, 0, none⟩), .pointer (some ⟨b4, 0, none⟩)]) (h := fun w' _ hH => Zql (a := 1) (b := 30) (m := 15) hs (by decide) hH SOA); rfl; rfl; rintro v O' ⟨x1, hx1, rfl, rfl⟩) | (apply Zae; exact PuA)); refine fin ?_))
 refine Zaz rfl rfl rfl (fun hc => ?_) (fun hc => ?_)
 ·subst hc
  have hsz := (Zky hx1).1
  have e : setB s = Zde 1 1 1 (s.extract 0 1).data.toList := by rw [setB, hx1, ext1]; rfl
  rw [e]
  repeat (first | (apply RL_pu; rfl; exact Zmf) | (apply RD_Q; rfl; rfl; decide +kernel; rfl; rfl; exact Zq0) | refine walk1 ?_ | (refine jn ?_; (try intro F); (first | (apply Zag (h := fun w' _ _ => ZgA 1 1 1 w'); rfl; rintro v O' ⟨b1, b2, b3, b4, rfl, rfl⟩) | (apply Zar (f := 167) (us := []) (vs := [.string (s.extract 0 1)]) (cs := [.pointer (some ⟨b1, 0, none⟩), .pointer (some ⟨b2, 0, none⟩), .pointer (some ⟨b3, 0, none⟩), .pointer (some ⟨b4, 0, none⟩)]) (h := fun w' _ hH => Zql (a := 1) (b := 1) (m := 1) hs1 (by decide) hH SOA); rfl; rfl; rintro v O' ⟨x2, hx2, rfl, rfl⟩) | (apply Zae; first | exact Zmf | exact PuA)); first | refine ⟨_, EndsA, ZwU, ?_⟩ | refine fin ?_))
  exact ret_1 _ [] (.tmp rfl) .nil ⟨by rw [hx2], rfl⟩
 ·subst hc
  have e : setB s = false := by rw [setB, hx1]; rfl
  rw [e]
  repeat (first | refine walk ?_ | (refine jn ?_; (try intro F); (apply Zae; exact PuA); refine fin ?_))
  exact rtA
end Go.Proofs.YtpcpmndldgejiaaGreatDoor
