/- Contracts: the reference of layer 25: Set, States, in. Contracts: the reference of layer 22: Check, seconds, Nominal. Contracts: the reference of layer 25: nominal, end (the equality of layer 18's Far handed in). Plain law: looking for the first event behind a time, and looking for any event near it, give one answer (layer 18's Far). -/
import Derived.Test.YtceekohkjgiabaaGreatDoorQ09
import Derived.Test.YtceekohkjgiabaaGreatDoorQ21
import Derived.Test.YtceekohkjgiabaaGreatDoorQ27
import Derived.Test.YtceekohkjgiabaaGreatDoorQ16
import Derived.Test.YtceekohkjgiabaaGreatDoorQ29
import Derived.Test.YtceekohkjgiabaaGreatDoorQ23
import Derived.Test.YtceekohkjgiabaaGreatDoorQ26
set_option maxHeartbeats 4000000
set_option linter.unusedVariables false
set_option linter.unusedSimpArgs false
namespace Go.Proofs.YtceekohkjgiabaaGreatDoor
open Go Go.RowKit Go.Wk
attribute [local irreducible] W RL Does thenQ blockQ retQ Calls Pu Stp RD Qy Ay DoesIn
theorem rset25_spec (Ar Az Al As : Option Addr) (cr cz cl cs : Nat) (a : DSource) (e : DEra) (w : World) (hA : RdSource w Ar Az Al As cr cz cl cs a) (hn : a.rules.length ≤ 1000000) :
  Does Tryz.prog 106 [srcV Ar Az Al As cr cz cl cs a, .agg e.enc.toArray] w (NewSl 48 11 DRule.enc (setOf a.rules e)) := by
 have hof := fun w' (hw : Bel w.heap.size w w') => of_spec Ar Az Al As cr cz cl cs a e.set w' (hA.up hw) hn
 unfold setOf
 obtain ⟨off, kind, save, set, format, til⟩ := e
 dsimp only at hof ⊢
 simp only [DEra.enc]
 refine Does_of_W Tryz.func106 rfl rfl rfl rfl ?_
 by_cases hk : kind = 2
 ·subst hk
  rw [if_pos rfl]
  generalize ofB a.rules set = R at *
  repeat (first | (refine js ?_; (first | (apply Stp_call (h := fun w' hw _ => hof w' hw); rfl; rintro v O' ⟨A3, c3, rfl, rfl⟩) | (refine bx ?_; intro bk))) | refine walk ?_)
  exact ret_1 _ [.row (.slice A3 R.length c3) 48 11 R.length (R.flatMap DRule.enc)] (.tmp rfl) SOA ⟨A3, c3, rfl, rfl⟩
 ·rw [if_neg hk]
  have hb : (!decide (kind = 2)) = true := by rw [decide_eq_false hk]; rfl
  refine W_nil 48 11 ?_
  repeat (first | (apply RL_pu; rfl; (apply Pu_neqB'; rfl; rfl; exact hb)) | (refine js ?_; (refine bx ?_; intro bk)) | refine walk1 ?_)
  exact ret_1 _ [.row (.slice none 0 0) 48 11 0 []] (.tmp rfl) SOA ⟨none, 0, rfl, rfl⟩
theorem PuRfR1 {G : Prop} (h : G := by (apply Pu_eqlB; rfl; rfl; exact b1)) : G := h
theorem QyRfR1 {G : Prop} (h : G := by first | (apply Qy_y; rfl; exact PuRfR1) | exact QyA) : G := h
theorem QFRfR1 {G : Prop} (h : G := by repeat (first | exact QF.nil | (apply QF.mk; rfl; rfl; decide +kernel; exact QyRfR1))) : G := h
theorem PuRfR2 {G : Prop} (h : G := by (first | (apply Pu_indexAddrH; rfl; rfl; omega; omega; (intro w' _ hO; exact (row_cell (hO.of (A := .row (.slice A3 R.length c3) 48 11 R.length (R.flatMap DRule.enc)) (by repeat' constructor)) hg1).1)) | (apply Pu_loadRF; rfl; (focus repeat' constructor); first | exact hs9 | exact hs10))) : G := h
theorem QyRfR2 {G : Prop} (h : G := by first | (apply Qy_y; rfl; exact PuRfR2) | exact QyA) : G := h
theorem QFRfR2 {G : Prop} (h : G := by repeat (first | exact QF.nil | (apply QF.mk; rfl; rfl; decide +kernel; exact QyRfR2))) : G := h
theorem PuRfR3 {G : Prop} (h : G := by (first | exact PuRfR1 | (apply Pu_neqB'; rfl; rfl; exact b2))) : G := h
theorem QyRfR3 {G : Prop} (h : G := by first | (apply Qy_y; rfl; exact PuRfR3) | exact QyA) : G := h
theorem QFRfR3 {G : Prop} (h : G := by repeat (first | exact QF.nil | (apply QF.mk; rfl; rfl; decide +kernel; exact QyRfR3))) : G := h
theorem rstates0_spec (Ar Az Al As : Option Addr) (cr cz cl cs : Nat) (a : DSource) (e : DEra) (w : World) (hA : RdSource w Ar Az Al As cr cz cl cs a) (hn : a.rules.length ≤ 1000000) :
  Does Tryz.prog 107 [srcV Ar Az Al As cr cz cl cs a, .agg e.enc.toArray] w (StR (statesOf a.rules e)) := by
 have hst := fun w' (hw : Bel w.heap.size w w') => rset25_spec Ar Az Al As cr cz cl cs a e w' (hA.up hw) hn
 have hRl : (setOf a.rules e).length ≤ 1000000 := by
  unfold setOf
  split
  ·exact Nat.le_trans (ofB_len _ _) hn
  ·exact Nat.zero_le _
 unfold statesOf
 generalize setOf a.rules e = R at *
 obtain ⟨off, kind, save, set, format, til⟩ := e
 dsimp only at hst ⊢
 simp only [DEra.enc] at hst ⊢
 refine Does_of_W Tryz.func107 rfl rfl rfl rfl ?_
 by_cases hk1 : kind = 1
 ·subst hk1
  rw [if_pos rfl]
  repeat (first | refine walk ?_ | (refine jn ?_; (try intro F); (first | (refine bx ?_; intro bk) | (apply Stp_pu; exact PuA)); refine fin ?_) | (apply RD_W; rfl; intro bk))
  exact ret_1 _ [.blk bk [.int .i64 save, .string ByteArray.empty] 121] (.tmp rfl) SOA (.inr ⟨bk, (save, ByteArray.empty), rfl, rfl, rfl⟩)
 have b1 : decide (kind = 1) = false := decide_eq_false hk1
 rw [if_neg hk1]
 by_cases hk2 : kind = 2
 ·subst hk2
  rw [if_pos rfl]
  repeat (first | (apply RL_pu; rfl; exact PuRfR1) | (apply RD_Q; rfl; rfl; decide +kernel; rfl; rfl; exact QyRfR1) | refine walk1 ?_ | (refine jg ?_; (try intro F); (first | (apply Stp_call (h := fun w' hw _ => hst w' hw); rfl; rintro v O' ⟨A3, c3, rfl, rfl⟩) | (refine bx ?_; intro bk)); first | refine ⟨_, EndsA, QFRfR1, ?_⟩ | refine fin ?_) | (refine jn ?_; (try intro F); (first | (refine bx ?_; intro bk) | (apply Stp_pu; first | exact PuRfR1 | exact PuA)); first | refine ⟨_, EndsA, QFRfR1, ?_⟩ | refine fin ?_) | (apply RD_W; rfl; intro bk))
  refine W_nil 121 2 ?_
  refine W_loopF [(6, .slice A3 R.length c3)] [.row (.slice A3 R.length c3) 48 11 R.length (R.flatMap DRule.enc)] (fun g : StG => [(5, .slice g.A g.m g.c), (7, .int .i64 g.k)]) (fun g => [.row (.slice g.A g.m g.c) 121 2 g.m g.ys])
   (fun g => g.k ≤ R.length ∧ g.m = g.k ∧ g.ys = ((R.take g.k).map fun r => (r.save, r.letter)).flatMap stEnc) (fun g => R.length - g.k) ⟨0, none, 0, 0, []⟩ SFA SOA ⟨Nat.zero_le _, rfl, rfl⟩ ?_
  rintro ⟨k, A1, c1, m, ys⟩ ⟨hkl, hm, hy⟩
  dsimp only at hkl hm hy ⊢
  repeat (first | refine walk ?_ | (refine jn ?_; (try intro F); (first | (refine bx ?_; intro bk) | (apply Stp_pu; exact PuA)); refine fin ?_) | (apply RD_W; rfl; intro bk))
  refine W_cond rfl (fun hc => ?_) (fun hc => ?_)
  ·simp only [decide_eq_true_eq, Int.ofNat_lt] at hc
   have hg1 := flat_get DRule.len R k _ 0 _ (List.getElem?_eq_getElem hc) rfl
   have hgn : ∀ j v, (DRule.enc R[k])[j]? = some v → (R.flatMap DRule.enc)[k * 11 + j]? = some v := fun j v hj => flat_get DRule.len R k _ j v (List.getElem?_eq_getElem hc) hj
   have hs9 := hgn 9 _ rfl
   have hs10 := hgn 10 _ rfl
   have htk := List.take_append_getElem hc
   generalize R[k] = r at *
   simp only [DRule.enc] at hgn hg1
   repeat (first | (apply RL_pu; rfl; exact PuRfR2) | (apply RD_Q; rfl; rfl; decide +kernel; rfl; rfl; exact QyRfR2) | refine walk1 ?_ | (refine jn ?_; (try intro F); (first | (apply Stp_append; rfl; rfl; (intro A' c'; (focus repeat' constructor)); (intro w' _ hO; exact blkRaw (hO.of (by repeat' constructor))); rfl; rfl; (simp only [maxLen]; omega); omega; intro A' c' hc1 hc2 hc3) | (refine bx ?_; intro bk) | (apply Stp_pu; first | exact PuRfR2 | exact PuA)); first | refine ⟨_, EndsA, QFRfR2, ?_⟩ | refine fin ?_) | (apply RD_W; rfl; intro bk))
   exact ⟨⟨k + 1, A', c', m + 1, ys ++ [.int .i64 r.save, .string r.letter]⟩, OA, ⟨OA, OA, by dsimp only; rw [hy, ← htk]; simp [stEnc]⟩, SFA, SOA⟩
  ·obtain rfl : k = R.length := by simp only [decide_eq_false_iff_not, Int.ofNat_lt] at hc; omega
   rw [List.take_length] at hy
   subst hm hy
   repeat (first | refine walk ?_ | (refine jn ?_; (try intro F); (first | (refine bx ?_; intro bk) | (apply Stp_pu; exact PuA)); refine fin ?_) | (apply RD_W; rfl; intro bk))
   exact ret_1 _ [.row (.slice A1 R.length c1) 121 2 R.length ((R.map fun r => (r.save, r.letter)).flatMap stEnc)] (.tmp rfl) SOA (.inl ⟨A1, c1, by rw [List.length_map], by rw [List.length_map]⟩)
 have b2 : (!decide (kind = 2)) = true := by rw [decide_eq_false hk2]; rfl
 rw [if_neg hk2]
 repeat (first | (apply RL_pu; rfl; exact PuRfR3) | (apply RD_Q; rfl; rfl; decide +kernel; rfl; rfl; exact QyRfR3) | refine walk1 ?_ | (refine jn ?_; (try intro F); (first | (refine bx ?_; intro bk) | (apply Stp_pu; first | exact PuRfR3 | exact PuA)); first | refine ⟨_, EndsA, QFRfR3, ?_⟩ | refine fin ?_) | (apply RD_W; rfl; intro bk))
 exact ret_1 _ [.blk bk [.int .i64 0, .string ByteArray.empty] 121] (.tmp rfl) SOA (.inr ⟨bk, (0, ByteArray.empty), rfl, rfl, rfl⟩)
theorem rstates_spec (Ar Az Al As : Option Addr) (cr cz cl cs : Nat) (a : DSource) (e : DEra) (w : World) (hA : RdSource w Ar Az Al As cr cz cl cs a) (hn : a.rules.length ≤ 1000000) :
  Does Tryz.prog 107 [srcV Ar Az Al As cr cz cl cs a, .agg e.enc.toArray] w (NewSl 121 2 stEnc (statesOf a.rules e)) :=
 (rstates0_spec Ar Az Al As cr cz cl cs a e w hA hn).monoH fun v O base w' hR hH => by
  rcases hR with h | ⟨b, x, hl, rfl, rfl⟩
  ·exact ⟨O, h, hH⟩
  ·rw [hl]
   exact ⟨_, ⟨some ⟨b, 0, none⟩, 1, rfl, rfl⟩, hH.toRow (m := 1) 2 rfl (by decide) (by simpa using Upd.here)⟩
def inO (x : Int) : Bool := decide (-54000 ≤ x) && decide (x ≤ 54000)
theorem rin25_spec (x : Int) (w : World) : Does Tryz.prog 108 [.int .i64 x] w (fun v O => v = .bool (inO x) ∧ O = []) := by
 refine Does_of_W Tryz.func108 rfl rfl rfl rfl ?_
 repeat' (first | refine walk ?_ | refine und ?_ | (refine RL_gsplit rfl rfl rfl (fun hc => ?_) (fun hc => ?_)) | (refine RD_gsplit rfl rfl rfl (fun hc => ?_) (fun hc => ?_)) | (refine W_cond rfl (fun hc => ?_) (fun hc => ?_)))
 all_goals first | (refine ret_1 _ [] (.tmp rfl) .nil ⟨?_, rfl⟩; first | rfl | (simp only [*, Bool.true_and, Bool.false_and, Bool.true_or, Bool.false_or, Bool.not_true, Bool.not_false]; done) | (simp_all [inO]; done) | (simp_all [inO]; omega) | (simp_all [inO]; rw [Bool.eq_iff_iff]; simp; omega)) | (exfalso; simp_all [inO]; done) | (exfalso; simp_all [inO]; omega) | (exfalso; omega)
theorem untilChk_eq (u : DUntil) (least : Int) : untilChk u least = if least < -10800 ∨ 0 < least then 2 else if u.is = false then 4 else if u.year < 1850 ∨ 2149 < u.year ∨ u.at_.base < 0 ∨ 2 < u.at_.base then 3 else if (onD u.year u.month u.day).2 ≠ 0 then 3 else if u.at_.sec < (if u.at_.base = 1 then -86400 - least else -86400) ∨ (if u.at_.base = 1 then 172800 - least else 172800) < u.at_.sec then 3 else 0 := by
 unfold untilChk clkChk
 dsimp only
 by_cases h1 : least < -10800 ∨ 0 < least
 ·rw [if_pos h1, if_pos h1]
 rw [if_neg h1, if_neg h1]
 by_cases h2 : u.is = false
 ·rw [if_pos h2, if_pos h2]
 rw [if_neg h2, if_neg h2]
 by_cases h3 : u.year < 1850 ∨ 2149 < u.year ∨ u.at_.base < 0 ∨ 2 < u.at_.base
 ·rw [if_pos h3, if_pos]
  rcases h3 with h | h | h
  ·exact .inl h
  ·exact .inr (.inl h)
  ·refine .inr (.inr ?_)
   simp only [Bool.and_eq_false_iff, decide_eq_false_iff_not]
   omega
 rw [if_neg h3]
 by_cases h4 : (onD u.year u.month u.day).2 ≠ 0
 ·rw [if_pos h4]
  split
  ·rfl
  ·rw [if_pos (.inl h4)]
 rw [if_neg h4]
 by_cases hb : u.at_.base = 1
 ·simp only [if_pos hb]
  by_cases h5 : u.at_.sec < -86400 - least ∨ 172800 - least < u.at_.sec
  ·rw [if_pos h5]
   split
   ·rfl
   ·rw [if_pos (.inr (by omega))]
  ·rw [if_neg h5, if_neg, if_neg (by rintro (h | h | h); exact h4 h; omega; omega)]
   simp only [Bool.and_eq_false_iff, decide_eq_false_iff_not]
   omega
 ·simp only [if_neg hb]
  by_cases h5 : u.at_.sec < -86400 ∨ 172800 < u.at_.sec
  ·rw [if_pos h5]
   split
   ·rfl
   ·rw [if_pos (.inr (by omega))]
  ·rw [if_neg h5, if_neg, if_neg (by rintro (h | h | h); exact h4 h; omega; omega)]
   simp only [Bool.and_eq_false_iff, decide_eq_false_iff_not]
   omega
theorem PuRfO0 {G : Prop} (h : G := by (first | (apply Pu_lssB; rfl; rfl; first | exact b1 | exact y1 | exact y3 | exact l1) | (apply Pu_gtrB; rfl; rfl; first | exact b2 | exact y2 | exact y4 | exact l2) | (apply Pu_neqB'; rfl; rfl; exact x0) | (apply Pu_eqlB; rfl; rfl; exact u1))) : G := h
theorem wkRfO0 {G G' : Prop} (k : G') (h : Hold G' → G := by intro k9; (first | refine und ?_ | (apply RL_pu; rfl; exact PuRfO0) | (refine js ?_; (refine callE (fun w' _ => ho w') ?_)) | refine walk1 ?_); exact k9.out) : G := h ⟨k⟩
set_option maxHeartbeats 4000000 in
theorem r22chk_spec (u : DUntil) (least : Int) (w : World) : Does Tryz.prog 110 [.agg (DUntil.enc u).toArray, .int .i64 least] w (fun v O => v = .int .i64 (untilChk u least) ∧ O = []) := by
 rw [untilChk_eq]
 have ho := fun w' => ron_spec u.year u.month u.day w'
 generalize onD u.year u.month u.day = x at *
 obtain ⟨x1, x2⟩ := x
 obtain ⟨is, year, month, ⟨dk, dw, dd⟩, ⟨us, ub⟩⟩ := u
 dsimp only at ho ⊢
 show Does _ _ [.agg #[.bool is, .int .i64 year, .int .i64 month, .int .i64 dk, .int .i64 dw, .int .i64 dd, .int .i64 us, .int .i64 ub], .int .i64 least] w _
 refine Does_of_W Tryz.func110 rfl rfl rfl rfl ?_
 by_cases c1 : least < -10800
 ·have b1 : decide (least < -10800) = true := decide_eq_true c1
  rw [if_pos (.inl c1)]
  repeat (first | refine wkRfO0 ?_ | (refine js ?_; (refine bx ?_; intro bk)))
  exact rtA
 have b1 : decide (least < -10800) = false := decide_eq_false c1
 by_cases c2 : 0 < least
 ·have b2 : decide (0 < least) = true := decide_eq_true c2
  rw [if_pos (.inr c2)]
  repeat (first | refine wkRfO0 ?_ | (refine js ?_; (refine bx ?_; intro bk)))
  exact rtA
 have b2 : decide (0 < least) = false := decide_eq_false c2
 rw [if_neg (by omega)]
 cases is with
 | false =>
  rw [if_pos rfl]
  repeat (first | refine wkRfO0 ?_ | (refine js ?_; (refine bx ?_; intro bk)))
  exact rtA
 | true =>
 rw [if_neg (by decide)]
 by_cases c3 : year < 1850
 ·have y1 : decide (year < 1850) = true := decide_eq_true c3
  rw [if_pos (.inl c3)]
  repeat (first | refine wkRfO0 ?_ | (refine js ?_; (refine bx ?_; intro bk)))
  exact rtA
 have y1 : decide (year < 1850) = false := decide_eq_false c3
 by_cases c4 : 2149 < year
 ·have y2 : decide (2149 < year) = true := decide_eq_true c4
  rw [if_pos (.inr (.inl c4))]
  repeat (first | refine wkRfO0 ?_ | (refine js ?_; (refine bx ?_; intro bk)))
  exact rtA
 have y2 : decide (2149 < year) = false := decide_eq_false c4
 by_cases c5 : ub < 0
 ·have y3 : decide (ub < 0) = true := decide_eq_true c5
  rw [if_pos (.inr (.inr (.inl c5)))]
  repeat (first | refine wkRfO0 ?_ | (refine js ?_; (refine bx ?_; intro bk)))
  exact rtA
 have y3 : decide (ub < 0) = false := decide_eq_false c5
 by_cases c6 : 2 < ub
 ·have y4 : decide (2 < ub) = true := decide_eq_true c6
  rw [if_pos (.inr (.inr (.inr c6)))]
  repeat (first | refine wkRfO0 ?_ | (refine js ?_; (refine bx ?_; intro bk)))
  exact rtA
 have y4 : decide (2 < ub) = false := decide_eq_false c6
 rw [if_neg (by omega)]
 by_cases c7 : x2 = 0
 ·have x0 : (!decide (x2 = 0)) = false := by rw [decide_eq_true c7]; rfl
  rw [if_neg (fun h => h c7)]
  by_cases c8 : ub = 1
  ·have u1 : decide (ub = 1) = true := decide_eq_true c8
   simp only [if_pos c8]
   obtain ⟨z1, l1⟩ : ∃ z, decide (us < -86400 - least) = z := ⟨_, rfl⟩
   obtain ⟨z2, l2⟩ : ∃ z, decide (172800 - least < us) = z := ⟨_, rfl⟩
   have hz : (if us < -86400 - least ∨ 172800 - least < us then (3 : Int) else 0) = if z1 || z2 then 3 else 0 := by
    rw [← l1, ← l2]
    by_cases h : us < -86400 - least ∨ 172800 - least < us
    ·rw [if_pos h, if_pos (by simpa using h)]
    ·rw [if_neg h, if_neg (by simpa using h)]
   rw [hz]
   cases z1 <;> cases z2
   all_goals
    repeat (first | refine wkRfO0 ?_ | (refine js ?_; (refine bx ?_; intro bk)))
    exact rtA
  ·have u1 : decide (ub = 1) = false := decide_eq_false c8
   simp only [if_neg c8]
   obtain ⟨z1, l1⟩ : ∃ z, decide (us < -86400) = z := ⟨_, rfl⟩
   obtain ⟨z2, l2⟩ : ∃ z, decide (172800 < us) = z := ⟨_, rfl⟩
   have hz : (if us < -86400 ∨ 172800 < us then (3 : Int) else 0) = if z1 || z2 then 3 else 0 := by
    rw [← l1, ← l2]
    by_cases h : us < -86400 ∨ 172800 < us
    ·rw [if_pos h, if_pos (by simpa using h)]
    ·rw [if_neg h, if_neg (by simpa using h)]
   rw [hz]
   cases z1 <;> cases z2
   all_goals
    repeat (first | refine wkRfO0 ?_ | (refine js ?_; (refine bx ?_; intro bk)))
    exact rtA
 ·have x0 : (!decide (x2 = 0)) = true := by rw [decide_eq_false c7]; rfl
  rw [if_pos c7]
  repeat (first | refine wkRfO0 ?_ | (refine js ?_; (refine bx ?_; intro bk)))
  exact rtA
theorem r22sec_spec (u : DUntil) (hs : -604799 ≤ u.at_.sec ∧ u.at_.sec ≤ 604799) (w : World) : Does Tryz.prog 185 [.agg (DUntil.enc u).toArray] w (fun v O => v = .int .i64 (86400 * (onD u.year u.month u.day).1 + u.at_.sec) ∧ O = []) := by
 have ho := fun w' => ron_spec u.year u.month u.day w'
 have hb := onD_bd u.year u.month u.day
 generalize onD u.year u.month u.day = x at *
 obtain ⟨x1, x2⟩ := x
 obtain ⟨is, year, month, ⟨dk, dw, dd⟩, ⟨us, ub⟩⟩ := u
 dsimp only at ho hs hb ⊢
 show Does _ _ [.agg #[.bool is, .int .i64 year, .int .i64 month, .int .i64 dk, .int .i64 dw, .int .i64 dd, .int .i64 us, .int .i64 ub]] w _
 refine Does_of_W Tryz.func185 rfl rfl rfl rfl ?_
 repeat (first | (apply RL_pu; rfl; (apply Pu_mul; rfl; rfl; (constructor <;> omega))) | (refine js ?_; (first | (refine callE (fun w' _ => ho w') ?_) | (refine bx ?_; intro bk))) | refine walk1 ?_)
 exact rtA
theorem PuRfO2 {G : Prop} (h : G := by (first | (apply Pu_neqB'; rfl; rfl; exact k0) | (apply Pu_eqlB; rfl; rfl; exact u1))) : G := h
theorem wkRfO1 {G G' : Prop} (k : G') (h : Hold G' → G := by intro k9; (first | (apply RL_pu; rfl; exact PuRfO2) | (refine js ?_; (first | (refine callE (fun w' _ => hc w') ?_) | (refine callE (fun w' _ => hs w') ?_))) | refine walk1 ?_); exact k9.out) : G := h ⟨k⟩
theorem r22nom_spec (u : DUntil) (least : Int) (w : World) : Does Tryz.prog 151 [.agg (DUntil.enc u).toArray, .int .i64 least] w (fun v O => v = .tuple #[.int .i64 (nominalU u least).1, .int .i64 (nominalU u least).2] ∧ O = []) := by
 have hc := fun w' => r22chk_spec u least w'
 have hb := onD_bd u.year u.month u.day
 have hok : untilChk u least = 0 → (-10800 ≤ least ∧ least ≤ 0) ∧ -604799 ≤ u.at_.sec ∧ u.at_.sec ≤ 604799 := fun h => by
  rw [untilChk_eq] at h
  repeat' split at h
  all_goals first | omega | (cases h; done)
 have hse := fun h w' => r22sec_spec u h w'
 unfold nominalU
 generalize untilChk u least = K at *
 generalize (onD u.year u.month u.day).1 = x at *
 obtain ⟨is, year, month, ⟨dk, dw, dd⟩, ⟨us, ub⟩⟩ := u
 dsimp only at hok ⊢
 refine Does_of_W Tryz.func151 rfl rfl rfl rfl ?_
 by_cases hK : K = 0
 ·have k0 : (!decide (K = 0)) = false := by rw [decide_eq_true hK]; rfl
  obtain ⟨h1, h2⟩ := hok hK
  have hs := hse h2
  dsimp only at hs
  rw [if_neg (fun h => h hK)]
  by_cases c8 : ub = 1
  ·have u1 : decide (ub = 1) = true := decide_eq_true c8
   rw [if_pos c8]
   repeat (first | refine wkRfO1 ?_ | (refine js ?_; (refine bx ?_; intro bk)))
   exact rtB
  ·have u1 : decide (ub = 1) = false := decide_eq_false c8
   rw [if_neg c8, Int.add_zero]
   repeat (first | refine wkRfO1 ?_ | (refine js ?_; (refine bx ?_; intro bk)))
   exact rtB
 ·have k0 : (!decide (K = 0)) = true := by rw [decide_eq_false hK]; rfl
  rw [if_pos hK]
  repeat (first | refine wkRfO1 ?_ | (refine js ?_; (refine bx ?_; intro bk)))
  exact rtB
theorem rnom25_spec (Ar Az Al As : Option Addr) (cr cz cl cs : Nat) (a : DSource) (e : DEra) (w : World) (hA : RdSource w Ar Az Al As cr cz cl cs a) (hn : a.rules.length ≤ 1000000) :
  Does Tryz.prog 111 [srcV Ar Az Al As cr cz cl cs a, .agg e.enc.toArray] w (fun v O => v = .int .i64 (nominalU e.til (leastD (setOf a.rules e))).1 ∧ O = []) := by
 have hst := fun w' (hw : Bel w.heap.size w w') => rset25_spec Ar Az Al As cr cz cl cs a e w' (hA.up hw) hn
 have hle := fun A3 c3 w' h => rleast_spec A3 c3 (setOf a.rules e) w' h
 have hno := fun w' => r22nom_spec e.til (leastD (setOf a.rules e)) w'
 generalize setOf a.rules e = R at *
 generalize leastD R = L at *
 generalize nominalU e.til L = nm at *
 obtain ⟨n, ne⟩ := nm
 obtain ⟨off, kind, save, set, format, ⟨is, year, month, ⟨dk, dw, dd⟩, ⟨us, ub⟩⟩⟩ := e
 dsimp only at hst hno ⊢
 simp only [DEra.enc] at hst ⊢
 simp only [DUntil.enc] at hno
 refine Does_of_W Tryz.func111 rfl rfl rfl rfl ?_
 repeat (first | refine walk ?_ | (refine jg ?_; (try intro F); (first | (apply Stp_call (h := fun w' hw _ => hst w' hw); rfl; rintro v O' ⟨A3, c3, rfl, rfl⟩) | (refine callO (fun w' hw hO => hle A3 c3 w' (rowRd DRule.len (hO.of (A := .row (.slice A3 R.length c3) 48 11 R.length (R.flatMap DRule.enc)) (by repeat' constructor)))) ?_) | (refine callE (fun w' _ => hno w') ?_) | (refine bx ?_; intro bk)); refine fin ?_) | (refine jn ?_; (try intro F); (first | (refine bx ?_; intro bk) | (apply Stp_pu; exact PuA)); refine fin ?_))
 exact rtA
def FarS : Prop := ∀ (l : List DRule) (n : Int), (-1000000000000 ≤ n ∧ n ≤ 1000000000000) → farD l n = farR l n
theorem nomU_small (u : DUntil) (least : Int) : -1000000000000 ≤ (nominalU u least).1 ∧ (nominalU u least).1 ≤ 1000000000000 := by
 unfold nominalU
 split
 ·exact ⟨by dsimp only; omega, by dsimp only; omega⟩
 ·rename_i h
  have h0 : untilChk u least = 0 := Decidable.not_not.1 h
  have h1 := h0
  unfold untilChk at h0
  dsimp only at h0 ⊢
  have hb : -500000 ≤ (onD u.year u.month u.day).1 ∧ (onD u.year u.month u.day).1 ≤ 500000 ∨ ¬ (1850 ≤ u.year ∧ u.year ≤ 2149) := by
   by_cases hy : 1850 ≤ u.year ∧ u.year ≤ 2149
   ·left
    unfold onD
    split
    ·exact ⟨by decide, by decide⟩
    ·rename_i h2
     split
     ·exact ⟨by decide, by decide⟩
     ·rename_i h3
      split
      ·exact ⟨by decide, by decide⟩
      ·simp only [Bool.not_eq_false] at h2 h3
       have hl := lenM_bd u.year u.month
       have hd := dayChk_bd h3
       have hf : -100000 ≤ dayNo u.year u.month 1 ∧ dayNo u.year u.month 1 ≤ 200000 := by
        unfold dayNo dayNoM
        split
        ·have := beforeL_bd (u.month + 12 - 3).toNat; omega
        ·have := beforeL_bd (u.month - 3).toNat; omega
       unfold findD behindW beforeW
       dsimp only
       repeat' split
       all_goals omega
   ·right; exact hy
  repeat' split at h0
  all_goals first | (exfalso; omega) | (split <;> omega)
end Go.Proofs.YtceekohkjgiabaaGreatDoor
namespace Go.Proofs.YtceekohkjgiabaaGreatDoor
open Go Go.RowKit Go.Wk
theorem farI_false (L n y : Int) : ∀ (l : List DRule) (i : Nat), farI L n y l i = false ↔ ∃ (j : Nat) (r : DRule) (e : DEvent), l[j]? = some r ∧ onR L r ((i + j : Nat) : Int) y = some e ∧ e.nominal < n + 259200 ∧ n - 259200 < e.nominal
 | [], i => by simp [farI]
 | r :: l, i => by
  have ih := farI_false L n y l (i + 1)
  have hd : (∃ (j : Nat) (r' : DRule) (e : DEvent), (r :: l)[j]? = some r' ∧ onR L r' ((i + j : Nat) : Int) y = some e ∧ e.nominal < n + 259200 ∧ n - 259200 < e.nominal) ↔ (∃ e, onR L r (i : Int) y = some e ∧ e.nominal < n + 259200 ∧ n - 259200 < e.nominal) ∨ (∃ (j : Nat) (r' : DRule) (e : DEvent), l[j]? = some r' ∧ onR L r' ((i + 1 + j : Nat) : Int) y = some e ∧ e.nominal < n + 259200 ∧ n - 259200 < e.nominal) := by
   constructor
   ·rintro ⟨j, r', e, h1, h2, h3⟩
    cases j with
    | zero => simp only [List.getElem?_cons_zero, Option.some.injEq] at h1; subst h1; exact .inl ⟨e, h2, h3⟩
    | succ j => exact .inr ⟨j, r', e, by simpa using h1, by rw [show i + 1 + j = i + (j + 1) by omega]; exact h2, h3⟩
   ·rintro (⟨e, h⟩ | ⟨j, r', e, h1, h2, h3⟩)
    ·exact ⟨0, r, e, rfl, h⟩
    ·exact ⟨j + 1, r', e, by simpa using h1, by rw [show i + (j + 1) = i + 1 + j by omega]; exact h2, h3⟩
  rw [hd, farI]
  cases he : onR L r (i : Int) y with
  | none => simpa using ih
  | some e =>
   dsimp only
   by_cases hc : e.nominal < n + 259200 ∧ n - 259200 < e.nominal
   ·rw [if_pos hc]
    exact ⟨fun _ => .inl ⟨e, rfl, hc⟩, fun _ => rfl⟩
   ·rw [if_neg hc, ih]
    constructor
    ·exact .inr
    ·rintro (⟨e', h1, h2⟩ | h)
     ·cases h1; exact absurd h2 hc
     ·exact h
theorem farY_false (L n : Int) (l : List DRule) : ∀ (k : Nat) (y : Int), farY L n l y k = false ↔ ∃ q : Nat, q < k ∧ farI L n (y + q) l 0 = false
 | 0, y => by simp [farY]
 | k + 1, y => by
  rw [farY, Bool.and_eq_false_iff, farY_false L n l k (y + 1)]
  constructor
  ·rintro (h | ⟨q, hq, h⟩)
   ·exact ⟨0, by omega, by simpa using h⟩
   ·exact ⟨q + 1, by omega, by rw [show y + ((q + 1 : Nat) : Int) = y + 1 + q by omega]; exact h⟩
  ·rintro ⟨q, hq, h⟩
   cases q with
   | zero => left; simpa using h
   | succ q => exact .inr ⟨q, by omega, by rw [show y + 1 + (q : Int) = y + ((q + 1 : Nat) : Int) by omega]; exact h⟩
theorem evIn_sound (least nominal : Int) (r : DRule) (i : Int) : ∀ (k : Nat) (y : Int) (e : DEvent), evIn least nominal r i y k = some e → ∃ q : Nat, onR least r i (y + q) = some e ∧ nominal < e.nominal
 | 0, _, _, h => by cases h
 | k + 1, y, e, h => by
  rw [evIn] at h
  have ih := evIn_sound least nominal r i k (y + 1) e
  have lift : (∃ q : Nat, onR least r i (y + 1 + q) = some e ∧ nominal < e.nominal) → ∃ q : Nat, onR least r i (y + q) = some e ∧ nominal < e.nominal := by
   rintro ⟨q, hq⟩
   exact ⟨q + 1, by rw [show y + ((q + 1 : Nat) : Int) = y + 1 + q by omega]; exact hq⟩
  cases he : onR least r i y with
  | none => rw [he] at h; exact lift (ih h)
  | some e' =>
   rw [he] at h
   dsimp only at h
   by_cases hc : nominal < e'.nominal
   ·rw [if_pos hc] at h
    cases h
    exact ⟨0, by simpa using he, hc⟩
   ·rw [if_neg hc] at h
    exact lift (ih h)
theorem evIn_full (least nominal : Int) (r : DRule) (i : Int) : ∀ (k : Nat) (y : Int) (q : Nat) (e : DEvent), q < k → onR least r i (y + q) = some e → nominal < e.nominal → ∃ e', evIn least nominal r i y k = some e' ∧ e'.nominal ≤ e.nominal
 | 0, _, _, _, h, _, _ => absurd h (by omega)
 | k + 1, y, q, e, h, h1, h2 => by
  rw [evIn]
  cases he : onR least r i y with
  | none =>
   cases q with
   | zero => rw [show y + ((0 : Nat) : Int) = y by omega, he] at h1; cases h1
   | succ q => exact evIn_full least nominal r i k (y + 1) q e (by omega) (by rw [show y + 1 + (q : Int) = y + ((q + 1 : Nat) : Int) by omega]; exact h1) h2
  | some e' =>
   dsimp only
   by_cases hc : nominal < e'.nominal
   ·rw [if_pos hc]
    refine ⟨e', rfl, ?_⟩
    cases q with
    | zero => rw [show y + ((0 : Nat) : Int) = y by omega, he] at h1; cases h1; exact Int.le_refl _
    | succ q => exact Int.le_of_lt (onR_mono he h1 (by omega))
   ·rw [if_neg hc]
    cases q with
    | zero => rw [show y + ((0 : Nat) : Int) = y by omega, he] at h1; cases h1; exact absurd h2 hc
    | succ q => exact evIn_full least nominal r i k (y + 1) q e (by omega) (by rw [show y + 1 + (q : Int) = y + ((q + 1 : Nat) : Int) by omega]; exact h1) h2
theorem afterGo_sound (least nominal yr : Int) : ∀ (l : List DRule) (i : Nat) (b : Option DEvent) (e : DEvent), afterGo least nominal yr l i b = some e → b = some e ∨ ∃ (j : Nat) (r : DRule), l[j]? = some r ∧ evIn least nominal r ((i + j : Nat) : Int) (max (max r.from_ (-2000000000)) (yr - 2)) 20 = some e
 | [], _, _, _, h => .inl h
 | r :: l, i, b, e, h => by
  rw [afterGo] at h
  rcases afterGo_sound least nominal yr l (i + 1) _ e h with h1 | ⟨j, r', h1, h2⟩
  ·cases he : evIn least nominal r i (max (max r.from_ (-2000000000)) (yr - 2)) 20 with
   | none => rw [he] at h1; exact .inl h1
   | some e' =>
    rw [he] at h1
    have hr : ∀ x, e' = x → ∃ (j : Nat) (r' : DRule), (r :: l)[j]? = some r' ∧ evIn least nominal r' ((i + j : Nat) : Int) (max (max r'.from_ (-2000000000)) (yr - 2)) 20 = some x := fun x hx => ⟨0, r, rfl, by rw [← hx]; exact he⟩
    cases b with
    | none => cases h1; exact .inr (hr _ rfl)
    | some b =>
     dsimp only at h1
     split at h1
     ·cases h1; exact .inr (hr _ rfl)
     ·exact .inl h1
  ·exact .inr ⟨j + 1, r', by simpa using h1, by rw [show i + (j + 1) = i + 1 + j by omega]; exact h2⟩
theorem afterGo_le (least nominal yr : Int) : ∀ (l : List DRule) (i : Nat) (b : DEvent), ∃ e, afterGo least nominal yr l i (some b) = some e ∧ e.nominal ≤ b.nominal
 | [], _, b => ⟨b, rfl, Int.le_refl _⟩
 | r :: l, i, b => by
  rw [afterGo]
  cases he : evIn least nominal r i (max (max r.from_ (-2000000000)) (yr - 2)) 20 with
  | none => exact afterGo_le least nominal yr l (i + 1) b
  | some e' =>
   dsimp only
   split
   ·rename_i hlt
    obtain ⟨e, h1, h2⟩ := afterGo_le least nominal yr l (i + 1) e'
    have : e'.nominal ≤ b.nominal := by
     unfold ordE at hlt
     split at hlt
     ·omega
     ·split at hlt
      ·omega
      ·omega
    exact ⟨e, h1, by omega⟩
   ·exact afterGo_le least nominal yr l (i + 1) b
theorem afterGo_full (least nominal yr : Int) : ∀ (l : List DRule) (i : Nat) (b : Option DEvent) (j : Nat) (r : DRule) (e' : DEvent), l[j]? = some r → evIn least nominal r ((i + j : Nat) : Int) (max (max r.from_ (-2000000000)) (yr - 2)) 20 = some e' → ∃ e, afterGo least nominal yr l i b = some e ∧ e.nominal ≤ e'.nominal
 | [], _, _, _, _, _, h, _ => by simp at h
 | r0 :: l, i, b, 0, r, e', h, h2 => by
  simp only [List.getElem?_cons_zero, Option.some.injEq] at h
  subst h
  rw [afterGo, show evIn least nominal r0 (i : Int) (max (max r0.from_ (-2000000000)) (yr - 2)) 20 = some e' from h2]
  cases b with
  | none => exact afterGo_le least nominal yr l (i + 1) e'
  | some b =>
   dsimp only
   split
   ·exact afterGo_le least nominal yr l (i + 1) e'
   ·rename_i hlt
    obtain ⟨e, g1, g2⟩ := afterGo_le least nominal yr l (i + 1) b
    refine ⟨e, g1, ?_⟩
    unfold ordE at hlt
    split at hlt
    ·omega
    ·split at hlt <;> omega
 | r0 :: l, i, b, j + 1, r, e', h, h2 => by
  rw [afterGo]
  exact afterGo_full least nominal yr l (i + 1) _ j r e' (by simpa using h) (by rw [show i + 1 + j = i + (j + 1) by omega]; exact h2)
theorem farS : FarS := by
 intro l n hn
 have hL := leastD_le0 l
 have hy := yearOf_jan (t := n) (by omega) (by omega)
 have hz := yearOf_jan (t := n - 259200) (by omega) (by omega)
 have hyz : yearOf (n - 259200) ≤ yearOf n + 1 := year_near (by omega)
 have hzy : yearOf n ≤ yearOf (n - 259200) + 1 := year_near (by omega)
 have h1 : farR l n = false ↔ ∃ (y : Int) (j : Nat) (r : DRule) (e : DEvent), yearOf n - 1 ≤ y ∧ y ≤ yearOf n + 1 ∧ l[j]? = some r ∧ onR (leastD l) r (j : Int) y = some e ∧ e.nominal < n + 259200 ∧ n - 259200 < e.nominal := by
  unfold farR
  rw [farY_false]
  constructor
  ·rintro ⟨q, hq, h⟩
   obtain ⟨j, r, e, g1, g2, g3⟩ := (farI_false _ _ _ _ _).1 h
   rw [Nat.zero_add] at g2
   exact ⟨_, j, r, e, by omega, by omega, g1, g2, g3⟩
  ·rintro ⟨y, j, r, e, a1, a2, g1, g2, g3⟩
   refine ⟨(y - (yearOf n - 1)).toNat, by omega, (farI_false _ _ _ _ _).2 ⟨j, r, e, g1, ?_, g3⟩⟩
   rw [Nat.zero_add, show yearOf n - 1 + ((y - (yearOf n - 1)).toNat : Int) = y by omega]
   exact g2
 have h2 : farD l n = false ↔ ∃ e, afterD l (n - 259200) = some e ∧ e.nominal < n + 259200 := by
  unfold farD
  cases h : afterD l (n - 259200) with
  | none => simp
  | some e =>
   simp only [decide_eq_false_iff_not, Option.some.injEq, exists_eq_left']
   omega
 have h3 : farD l n = false ↔ farR l n = false := by
  rw [h1, h2]
  constructor
  ·rintro ⟨e, he, hlt⟩
   unfold afterD at he
   rcases afterGo_sound _ _ _ _ _ _ _ he with h | ⟨j, r, g1, g2⟩
   ·cases h
   rw [Nat.zero_add] at g2
   obtain ⟨q, g3, g4⟩ := evIn_sound _ _ _ _ _ _ _ g2
   have hb := onR_in hL g3
   generalize max (max r.from_ (-2000000000)) (yearOf (n - 259200) - 2) + (q : Int) = y at *
   have c1 : y ≤ yearOf n + 1 := year_near (by omega)
   have c2 : yearOf n ≤ y + 1 := year_near (by omega)
   exact ⟨y, j, r, e, by omega, by omega, g1, g3, hlt, g4⟩
  ·rintro ⟨y, j, r, e, a1, a2, g1, g2, g3, g4⟩
   obtain ⟨_, _, s1, _⟩ := onR_some g2
   have hst : max (max r.from_ (-2000000000)) (yearOf (n - 259200) - 2) ≤ y := by omega
   obtain ⟨e', k1, k2⟩ := evIn_full (leastD l) (n - 259200) r (j : Int) 20 (max (max r.from_ (-2000000000)) (yearOf (n - 259200) - 2)) (y - max (max r.from_ (-2000000000)) (yearOf (n - 259200) - 2)).toNat e (by omega) (by rw [show max (max r.from_ (-2000000000)) (yearOf (n - 259200) - 2) + ((y - max (max r.from_ (-2000000000)) (yearOf (n - 259200) - 2)).toNat : Int) = y by omega]; exact g2) g4
   obtain ⟨e2, k3, k4⟩ := afterGo_full (leastD l) (n - 259200) (yearOf (n - 259200)) l 0 none j r e' g1 (by rw [Nat.zero_add]; exact k1)
   exact ⟨e2, k3, by omega⟩
 cases ha : farD l n <;> cases hb : farR l n
 ·rfl
 ·rw [h3.1 ha] at hb; cases hb
 ·rw [h3.2 hb] at ha; cases ha
 ·rfl
end Go.Proofs.YtceekohkjgiabaaGreatDoor
