/- Lemmas for examples: sources that lie in own blocks. Contracts: the helpers of analemmalaw38, and its examples. Contracts: the reference of layer 1. Contracts: the reference of layers 2 and 6. Contract: analemmaref38.Date. -/
import Derived.Test.YtonjepladadmhaaGreatDoorQ37
import Derived.Test.YtonjepladadmhaaGreatDoorQ38
import Derived.Test.YtonjepladadmhaaGreatDoorQ16
import Derived.Test.YtonjepladadmhaaGreatDoorQ12
import Derived.Test.YtonjepladadmhaaGreatDoorQ14
import Derived.Test.YtonjepladadmhaaGreatDoorQ13
set_option maxHeartbeats 4000000
set_option linter.unusedVariables false
set_option linter.unusedSimpArgs false
namespace Go.Proofs.YtonjepladadmhaaGreatDoor
open Go Go.RowKit Go.Wk
def okR (r : DRule) : Bool := decide (r.name.size ≤ 1000000000) && (decide (r.letter.size ≤ 1000000000) && (decide (-9223372036854775808 ≤ r.save) && decide (r.save ≤ 9223372036854775807)))
def okI (n : Int) : Bool := decide (-9223372036854775808 ≤ n) && decide (n ≤ 9223372036854775807)
def okE (e : DEra) : Bool := okI e.off && (okI e.save && (okI e.kind && (decide (e.format.size ≤ 1000000000) && decide (e.set.size ≤ 1000000000))))
def okZ (z : DZone) : Bool := decide (z.name.size ≤ 1000000000) && (decide (z.eras.length ≤ 1000000) && z.eras.all okE)
def okL (l : DLink) : Bool := decide (l.target.size ≤ 1000000000) && decide (l.name.size ≤ 1000000000)
def okD (s : DSource) : Bool := decide (s.rules.length ≤ 1000000) && (decide (s.zones.length ≤ 1000000) && (decide (s.links.length ≤ 1000000) && (decide (s.shifts.length ≤ 1000000) && (s.rules.all okR && (s.zones.all okZ && s.links.all okL)))))
theorem okI_64 {n : Int} (h : okI n = true) : I64 n := by
 unfold okI at h
 rw [Bool.and_eq_true, decide_eq_true_eq, decide_eq_true_eq] at h
 exact h
theorem okD_ok {s : DSource} (h : okD s = true) : SrcOk s ∧ SavI s ∧ ∀ z ∈ s.zones, ∀ e ∈ z.eras, EraOk e := by
 unfold okD at h
 simp only [Bool.and_eq_true, decide_eq_true_eq, List.all_eq_true] at h
 obtain ⟨h1, h2, h3, h4, h5, h6, h7⟩ := h
 have hr : ∀ r ∈ s.rules, _ := fun r hr => by
  have := h5 r hr
  unfold okR at this
  simp only [Bool.and_eq_true, decide_eq_true_eq] at this
  exact this
 have hz : ∀ z ∈ s.zones, z.name.size ≤ 1000000000 ∧ z.eras.length ≤ 1000000 ∧ ∀ e ∈ z.eras, okE e = true := fun z hz => by
  have := h6 z hz
  unfold okZ at this
  simp only [Bool.and_eq_true, decide_eq_true_eq, List.all_eq_true] at this
  exact this
 have he : ∀ e, okE e = true → I64 e.off ∧ I64 e.save ∧ I64 e.kind ∧ e.format.size ≤ 1000000000 ∧ e.set.size ≤ 1000000000 := fun e he => by
  unfold okE at he
  simp only [Bool.and_eq_true, decide_eq_true_eq] at he
  exact ⟨okI_64 he.1, okI_64 he.2.1, okI_64 he.2.2.1, he.2.2.2⟩
 refine ⟨⟨h1, h2, h3, h4, fun r h => ⟨(hr r h).1, (hr r h).2.1⟩, fun z h => ⟨(hz z h).1, (hz z h).2.1, fun e h' => ⟨(he e ((hz z h).2.2 e h')).2.2.2.2, (he e ((hz z h).2.2 e h')).2.2.2.1⟩⟩, fun l h => ?_⟩, fun r h => ⟨(hr r h).2.2.1, (hr r h).2.2.2⟩, fun z h e h' => ?_⟩
 ·have := h7 l h
  unfold okL at this
  simp only [Bool.and_eq_true, decide_eq_true_eq] at this
  exact this
 ·have := he e ((hz z h).2.2 e h')
  exact ⟨this.1, this.2.1, this.2.2.1, this.2.2.2.1⟩
theorem accOk {w w' : World} {Ar Az Al As : Option Addr} {cr cz cl cs : Nat} {a : DSource} (hL : LibW w) (hG : Glob w) (hw : Bel w.heap.size w w') (h : okD a = true) (hA : RdSource w' Ar Az Al As cr cz cl cs a) : AccOk w' Ar Az Al As cr cz cl cs a :=
 ⟨hL.up hw, hG.up hw, hA, (okD_ok h).1, (okD_ok h).2.1, (okD_ok h).2.2⟩
theorem iEnc.len (i : Int) : (iEnc i).length = 1 := rfl
attribute [local irreducible] W RL Does thenQ blockQ retQ Calls Pu Stp RD Qy Ay DoesIn
theorem ftSun_spec (n : Int) (w : World) : Does Tryz.prog 22 [.int .i64 n] w (fun v O => v = .agg #[.int .i64 3, .int .i64 0, .int .i64 n] ∧ O = []) := by
 refine Does_of_W Tryz.func22 rfl rfl rfl rfl ?_
 repeat (first | (refine js ?_; (refine bx ?_; intro bk)) | refine walk ?_)
 exact ret_1 _ [] (.cellB rfl (by repeat' constructor) rfl rfl) .nil ⟨rfl, rfl⟩
theorem ftFixed_spec (n : Int) (w : World) : Does Tryz.prog 23 [.int .i64 n] w (fun v O => v = .agg #[.int .i64 1, .int .i64 0, .int .i64 n] ∧ O = []) := by
 refine Does_of_W Tryz.func23 rfl rfl rfl rfl ?_
 repeat (first | (refine js ?_; (refine bx ?_; intro bk)) | refine walk ?_)
 exact ret_1 _ [] (.cellB rfl (by repeat' constructor) rfl rfl) .nil ⟨rfl, rfl⟩
theorem ftRule_spec (m k wk dd sec save : Int) (w : World) : Does Tryz.prog 21 [.int .i64 m, .agg #[.int .i64 k, .int .i64 wk, .int .i64 dd], .int .i64 sec, .int .i64 save] w (fun v O => v = .agg #[.string eireN, .int .i64 1972, .int .i64 1048576, .int .i64 m, .int .i64 k, .int .i64 wk, .int .i64 dd, .int .i64 sec, .int .i64 2, .int .i64 save, .string ByteArray.empty] ∧ O = []) := by
 refine Does_of_W Tryz.func21 rfl rfl rfl rfl ?_
 repeat (first | (refine js ?_; (refine bx ?_; intro bk)) | refine walk ?_)
 exact ret_1 _ [] (.cellB rfl (by repeat' constructor) rfl rfl) .nil ⟨rfl, rfl⟩
theorem fdateT (r : DRule) (off before : Int) (x : DDate) (e : Int) (w : World) (hG : Glob w) (hF : FtG w) (h : dateD r off before = (x, e)) : Does Tryz.prog 12 [.agg r.enc.toArray, .int .i64 off, .int .i64 before] w (fun v O => v = .tuple #[.agg x.enc.toArray, .int .i64 e] ∧ O = []) := by
 have := fdate_spec r off before w hG hF
 rwa [h] at this
theorem failsT (r : DRule) (w : World) (hG : Glob w) (hF : FtG w) (h : dateD r 0 0 = (dt0, 2)) : Does Tryz.prog 24 [.agg r.enc.toArray] w (fun v O => v = .bool true ∧ O = []) := by
 have hd : ∀ w', Bel w.heap.size w w' → Does Tryz.prog 12 [.agg r.enc.toArray, .int .i64 0, .int .i64 0] w' (fun v O => v = .tuple #[.agg #[.int .i64 0, .int .i64 0, .int .i64 0, .int .i64 0, .int .i64 0], .int .i64 2] ∧ O = []) := fun w' hw => fdateT r 0 0 dt0 2 w' (hG.up hw) (hF.up hw) h
 clear h
 obtain ⟨nm, fr, to, mo, ⟨dk, dw, dd⟩, ⟨cs, cb⟩, sv, le⟩ := r
 show Does _ _ [.agg #[.string nm, .int .i64 fr, .int .i64 to, .int .i64 mo, .int .i64 dk, .int .i64 dw, .int .i64 dd, .int .i64 cs, .int .i64 cb, .int .i64 sv, .string le]] w _
 refine Does_of_W Tryz.func24 rfl rfl rfl rfl ?_
 repeat (first | (apply RL_pu; rfl; (apply Pu_eqEB (i := dt0) (j := dt0) (enc := DDate.enc); rfl; rfl; exact decide_eq_true rfl)) | (refine js ?_; (first | (refine callE hd ?_) | (refine bx ?_; intro bk))) | refine walk1 ?_)
 exact rtA
theorem saysT (Ar Az Al As : Option Addr) (cr cz cl cs : Nat) (a : DSource) (p : DPosix) (y : Int) (w : World) (h1 : ∀ w', Bel w.heap.size w w' → Does Tryz.prog 20 [srcV Ar Az Al As cr cz cl cs a, .int .i64 0] w' (fun v O => v = .tuple #[.agg p.enc.toArray, .int .i64 0] ∧ O = []))
  (h2 : ∀ w', Bel w.heap.size w w' → Does Tryz.prog 16 [srcV Ar Az Al As cr cz cl cs a, .int .i64 0] w' (fun v O => v = .tuple #[.int .i64 y, .int .i64 0] ∧ O = [])) :
  Does Tryz.prog 47 [srcV Ar Az Al As cr cz cl cs a, .agg p.enc.toArray, .int .i64 y] w (fun v O => v = .bool true ∧ O = []) := by
 obtain ⟨p1, p2, p3, p4, ⟨p5, p6, p7, p8, p9⟩, ⟨q1, q2, q3, q4, q5⟩⟩ := p
 have e1 : decide (y = y) = true := decide_eq_true rfl
 change ∀ w', Bel w.heap.size w w' → Does _ _ _ w' (fun v O => v = .tuple #[.agg #[.string p1, .int .i64 p2, .string p3, .int .i64 p4, .int .i64 p5, .int .i64 p6, .int .i64 p7, .int .i64 p8, .int .i64 p9, .int .i64 q1, .int .i64 q2, .int .i64 q3, .int .i64 q4, .int .i64 q5], .int .i64 0] ∧ O = []) at h1
 show Does _ _ [_, .agg #[.string p1, .int .i64 p2, .string p3, .int .i64 p4, .int .i64 p5, .int .i64 p6, .int .i64 p7, .int .i64 p8, .int .i64 p9, .int .i64 q1, .int .i64 q2, .int .i64 q3, .int .i64 q4, .int .i64 q5], .int .i64 y] w _
 refine Does_of_W Tryz.func47 rfl rfl rfl rfl ?_
 repeat (first | (apply RL_pu; rfl; (first | (apply Pu_eqEB (i := (⟨p1, p2, p3, p4, ⟨p5, p6, p7, p8, p9⟩, ⟨q1, q2, q3, q4, q5⟩⟩ : DPosix)) (j := ⟨p1, p2, p3, p4, ⟨p5, p6, p7, p8, p9⟩, ⟨q1, q2, q3, q4, q5⟩⟩) (enc := DPosix.enc); rfl; rfl; exact decide_eq_true rfl) | (apply Pu_eqlB; rfl; rfl; exact e1))) | (refine js ?_; (first | (refine callE h1 ?_) | (refine callE h2 ?_) | (refine bx ?_; intro bk))) | refine walk1 ?_)
 exact rtA
theorem zo_rd {w : World} {Ar Ae : Option Addr} {cr ce bz : Nat} {rs : List DRule} {nm : ByteArray} {es : List DEra} (hr : RdSl w Ar cr DRule.enc 11 rs) (hz : (It.blk bz [.string nm, .slice Ae es.length ce] 51).sat w) (he : RdSl w Ae ce DEra.enc 13 es) : RdSource w Ar (some ⟨bz, 0, none⟩) none none cr 1 0 0 ⟨rs, [⟨nm, es⟩], [], []⟩ :=
 ⟨hr, Nat.le_refl 1, by decide, zones_rd (litRd (c := 1) (l := [(⟨⟨nm, es⟩, Ae, ce⟩ : ZE)]) ZE.len (Nat.le_refl 1) (by decide) hz) (fun q hq => by rw [List.mem_singleton.1 hq]; exact he), nilRd _ _ _, nilRd _ _ _⟩
def EireR (v : Value) (O : List It) : Prop := ∃ br be bz, v = .agg #[.slice (some ⟨br, 0, none⟩) 3 3, .slice (some ⟨bz, 0, none⟩) 1 1, .slice none 0 0, .slice none 0 0] ∧
 O = [.blk bz [.string dubN, .slice (some ⟨be, 0, none⟩) 2 2] 51, .blk be (w38era1.enc ++ w38era2.enc) 55, .blk br (w38one.enc ++ (w38mar.enc ++ w38oct.enc)) 27]
theorem eire_spec (w : World) : Does Tryz.prog 48 [] w EireR := by
 refine Does_of_W Tryz.func48 rfl rfl rfl rfl ?_
 repeat' (first | (refine js ?_; (first | (refine callE (fun w' _ => ftSun_spec 15 w') ?_) | (refine callE (fun w' _ => ftFixed_spec 31 w') ?_) | (refine callE (fun w' _ => ftFixed_spec 27 w') ?_) | (refine callE (fun w' _ => ftRule_spec 10 1 0 31 7200 (-3600) w') ?_) | (refine callE (fun w' _ => ftRule_spec 3 3 0 15 7200 0 w') ?_) | (refine callE (fun w' _ => ftRule_spec 10 2 0 0 3600 (-3600) w') ?_) | (refine bx ?_; intro bk))) | refine walk ?_ | (refine RD_G0w ?_; intro F; (first | (refine callE (fun w' _ => ftSun_spec 15 w') ?_) | (refine callE (fun w' _ => ftFixed_spec 31 w') ?_) | (refine callE (fun w' _ => ftFixed_spec 27 w') ?_) | (refine callE (fun w' _ => ftRule_spec 10 1 0 31 7200 (-3600) w') ?_) | (refine callE (fun w' _ => ftRule_spec 3 3 0 15 7200 0 w') ?_) | (refine callE (fun w' _ => ftRule_spec 10 2 0 0 3600 (-3600) w') ?_)); refine ⟨_, EndsA, SubO.right _ _, ?_⟩) | (refine RD_G1w (fun bk => ?_) ?_; rotate_left; intro F; (first | (refine callE (fun w' _ => ftSun_spec 15 w') ?_) | (refine callE (fun w' _ => ftFixed_spec 31 w') ?_) | (refine callE (fun w' _ => ftFixed_spec 27 w') ?_) | (refine callE (fun w' _ => ftRule_spec 10 1 0 31 7200 (-3600) w') ?_) | (refine callE (fun w' _ => ftRule_spec 3 3 0 15 7200 0 w') ?_) | (refine callE (fun w' _ => ftRule_spec 10 2 0 0 3600 (-3600) w') ?_)); refine ⟨_, EndsA, SubO.right _ _, ?_⟩) | (refine RD_G2w (fun bk => ?_) (fun bk => ?_) ?_; rotate_left 2; intro F; (first | (refine callE (fun w' _ => ftSun_spec 15 w') ?_) | (refine callE (fun w' _ => ftFixed_spec 31 w') ?_) | (refine callE (fun w' _ => ftFixed_spec 27 w') ?_) | (refine callE (fun w' _ => ftRule_spec 10 1 0 31 7200 (-3600) w') ?_) | (refine callE (fun w' _ => ftRule_spec 3 3 0 15 7200 0 w') ?_) | (refine callE (fun w' _ => ftRule_spec 10 2 0 0 3600 (-3600) w') ?_)); refine ⟨_, EndsA, SubO.right _ _, ?_⟩) | (refine RD_Lw ?_; intro F; (first | (refine callE (fun w' _ => ftSun_spec 15 w') ?_) | (refine callE (fun w' _ => ftFixed_spec 31 w') ?_) | (refine callE (fun w' _ => ftFixed_spec 27 w') ?_) | (refine callE (fun w' _ => ftRule_spec 10 1 0 31 7200 (-3600) w') ?_) | (refine callE (fun w' _ => ftRule_spec 3 3 0 15 7200 0 w') ?_) | (refine callE (fun w' _ => ftRule_spec 10 2 0 0 3600 (-3600) w') ?_) | (refine bx ?_; intro bk) | (refine stA ?_) | (apply Stp_pu; exact PuA)); refine ⟨_, EndsA, QFA, ?_⟩) | (refine RD_K1w (fun bk => ?_) ?_; rotate_left; intro F; (first | (refine callE (fun w' _ => ftSun_spec 15 w') ?_) | (refine callE (fun w' _ => ftFixed_spec 31 w') ?_) | (refine callE (fun w' _ => ftFixed_spec 27 w') ?_) | (refine callE (fun w' _ => ftRule_spec 10 1 0 31 7200 (-3600) w') ?_) | (refine callE (fun w' _ => ftRule_spec 3 3 0 15 7200 0 w') ?_) | (refine callE (fun w' _ => ftRule_spec 10 2 0 0 3600 (-3600) w') ?_) | (refine bx ?_; intro bk) | (refine stA ?_) | (apply Stp_pu; exact PuA)); refine ⟨_, EndsA, QFA, ?_⟩) | (refine RD_K2w (fun bk => ?_) (fun bk => ?_) ?_; rotate_left 2; intro F; (first | (refine callE (fun w' _ => ftSun_spec 15 w') ?_) | (refine callE (fun w' _ => ftFixed_spec 31 w') ?_) | (refine callE (fun w' _ => ftFixed_spec 27 w') ?_) | (refine callE (fun w' _ => ftRule_spec 10 1 0 31 7200 (-3600) w') ?_) | (refine callE (fun w' _ => ftRule_spec 3 3 0 15 7200 0 w') ?_) | (refine callE (fun w' _ => ftRule_spec 10 2 0 0 3600 (-3600) w') ?_) | (refine bx ?_; intro bk) | (refine stA ?_) | (apply Stp_pu; exact PuA)); refine ⟨_, EndsA, QFA, ?_⟩) | (apply RD_W; rfl; intro bk) | (refine RD_J2 rfl rfl rfl (fun bk => ?_) (fun bk => ?_)) | (refine W_cond rfl (fun hc => ?_) (fun hc => ?_)))
 all_goals exact ret_1 _ [.blk _ [.string dubN, .slice (some ⟨_, 0, none⟩) 2 2] 51, .blk _ (w38era1.enc ++ w38era2.enc) 55, .blk _ (w38one.enc ++ (w38mar.enc ++ w38oct.enc)) 27] (.cellB rfl (by repeat' constructor) rfl rfl) SOA ⟨_, _, _, rfl, rfl⟩
theorem rleap_spec (y : Int) (w : World) : Does Tryz.prog 143 [.int .i64 y] w (fun v O => v = .bool (leapB y) ∧ O = []) := by
 rw [show leapB y = ((decide (y.tmod 4 = 0) && !decide (y.tmod 100 = 0)) || decide (y.tmod 400 = 0)) by
  rw [Bool.eq_iff_iff, leapB_iff]
  simp only [tmod_zero, Bool.and_eq_true, Bool.or_eq_true, decide_eq_true_eq, Bool.not_eq_true', decide_eq_false_iff_not]
  omega]
 refine Does_of_W Tryz.func143 rfl rfl rfl rfl ?_
 repeat' (first | (apply RL_pu; rfl; (apply Pu_rem; rfl; rfl; decide)) | refine walk1 ?_ | refine und ?_ | (refine RL_gsplit rfl rfl rfl (fun hc => ?_) (fun hc => ?_)) | (refine RD_gsplit rfl rfl rfl (fun hc => ?_) (fun hc => ?_)) | (refine W_cond rfl (fun hc => ?_) (fun hc => ?_)))
 all_goals exact clo1
theorem rlen_spec (y m : Int) (w : World) : Does Tryz.prog 93 [.int .i64 y, .int .i64 m] w (fun v O => v = .int .i64 (lenM y m) ∧ O = []) := by
 refine Does_of_W Tryz.func93 rfl rfl rfl rfl ?_
 repeat' (first | (refine js ?_; (refine callE (fun w' _ => rleap_spec y w') ?_)) | refine walk ?_ | (refine W_cond rfl (fun hc => ?_) (fun hc => ?_)))
 all_goals first | (refine ret_1 _ [] (.tmp rfl) .nil ⟨?_, rfl⟩; first | rfl | (simp only [*, Bool.true_and, Bool.false_and, Bool.true_or, Bool.false_or, Bool.not_true, Bool.not_false]; done) | (simp_all [lenM]; done) | (simp_all [lenM]; omega) | (simp_all [lenM]; rw [Bool.eq_iff_iff]; simp; omega)) | (exfalso; simp_all [lenM]; done) | (exfalso; simp_all [lenM]; omega) | (exfalso; omega)
def inB (n a b : Int) : Bool := decide (a ≤ n) && decide (n ≤ b)
theorem r2in_spec (n a b : Int) (w : World) : Does Tryz.prog 92 [.int .i64 n, .int .i64 a, .int .i64 b] w (fun v O => v = .bool (inB n a b) ∧ O = []) := by
 refine Does_of_W Tryz.func92 rfl rfl rfl rfl ?_
 repeat' (first | refine walk ?_ | refine und ?_ | (refine RL_gsplit rfl rfl rfl (fun hc => ?_) (fun hc => ?_)) | (refine RD_gsplit rfl rfl rfl (fun hc => ?_) (fun hc => ?_)) | (refine W_cond rfl (fun hc => ?_) (fun hc => ?_)))
 all_goals first | (refine ret_1 _ [] (.tmp rfl) .nil ⟨?_, rfl⟩; first | rfl | (simp only [*, Bool.true_and, Bool.false_and, Bool.true_or, Bool.false_or, Bool.not_true, Bool.not_false]; done) | (simp_all [inB]; done) | (simp_all [inB]; omega) | (simp_all [inB]; rw [Bool.eq_iff_iff]; simp; omega)) | (exfalso; simp_all [inB]; done) | (exfalso; simp_all [inB]; omega) | (exfalso; omega)
theorem dayChk_eq (d : DDay) : dayChk d = ((decide (d.kind = 1) && decide (d.week = 0) && inB d.day 1 31) || (decide (d.kind = 2) && inB d.week 0 6 && decide (d.day = 0)) || ((decide (d.kind = 3) || decide (d.kind = 4)) && inB d.week 0 6 && inB d.day 1 31)) := by
 obtain ⟨k, w, n⟩ := d
 unfold dayChk weekK dayK inB
 dsimp only
 by_cases h : 1 ≤ k ∧ k ≤ 4
 ·obtain rfl | rfl | rfl | rfl : k = 1 ∨ k = 2 ∨ k = 3 ∨ k = 4 := by omega
  all_goals
   rw [Bool.eq_iff_iff]
   by_cases hn : n = 0
   ·subst hn; simp; try omega
   ·simp [hn]; try omega
 ·have h1 : decide (k = 1) = false := decide_eq_false (by omega)
  have h2 : decide (k = 2) = false := decide_eq_false (by omega)
  have h3 : decide (k = 3) = false := decide_eq_false (by omega)
  have h4 : decide (k = 4) = false := decide_eq_false (by omega)
  have h5 : (decide (1 ≤ k) && decide (k ≤ 4)) = false := by simp; omega
  rw [h1, h2, h3, h4, h5]
  simp
set_option maxHeartbeats 2000000 in
theorem r2chk_spec (d : DDay) (w : World) : Does Tryz.prog 43 [.agg (DDay.enc d).toArray] w (fun v O => v = .int .i64 (if dayChk d then 0 else 2) ∧ O = []) := by
 rw [dayChk_eq]
 have h1 := fun w' => r2in_spec d.week 0 6 w'
 have h2 := fun w' => r2in_spec d.day 1 31 w'
 generalize inB d.week 0 6 = x at *
 generalize inB d.day 1 31 = y at *
 obtain ⟨k, wk, n⟩ := d
 show Does _ _ [.agg #[.int .i64 k, .int .i64 wk, .int .i64 n]] w _
 refine Does_of_W Tryz.func43 rfl rfl rfl rfl ?_
 repeat' (first | (refine js ?_; (first | (refine callE (fun w' _ => h1 w') ?_) | (refine callE (fun w' _ => h2 w') ?_) | (refine bx ?_; intro bk))) | refine walk ?_ | (refine RD_G0w ?_; intro F; (first | (refine callE (fun w' _ => h1 w') ?_) | (refine callE (fun w' _ => h2 w') ?_)); refine ⟨_, EndsA, SubO.right _ _, ?_⟩) | (refine RD_Lw ?_; intro F; (first | (refine callE (fun w' _ => h1 w') ?_) | (refine callE (fun w' _ => h2 w') ?_) | (refine bx ?_; intro bk) | (apply Stp_pu; exact PuA)); refine ⟨_, EndsA, QFA, ?_⟩) | refine und ?_ | (refine RL_gsplit rfl rfl rfl (fun hc => ?_) (fun hc => ?_)) | (refine RD_gsplit rfl rfl rfl (fun hc => ?_) (fun hc => ?_)) | (refine W_cond rfl (fun hc => ?_) (fun hc => ?_)))
 all_goals exact clo1
theorem r6chk_spec (d : DClock) (w : World) : Does Tryz.prog 44 [.agg (DClock.enc d).toArray] w (fun v O => v = .int .i64 (if clkChk d then 0 else 2) ∧ O = []) := by
 obtain ⟨k, wk⟩ := d
 show Does _ _ [.agg #[.int .i64 k, .int .i64 wk]] w _
 refine Does_of_W Tryz.func44 rfl rfl rfl rfl ?_
 repeat' (first | (refine js ?_; (refine bx ?_; intro bk)) | refine walk ?_ | refine und ?_ | (refine RL_gsplit rfl rfl rfl (fun hc => ?_) (fun hc => ?_)) | (refine RD_gsplit rfl rfl rfl (fun hc => ?_) (fun hc => ?_)) | (refine W_cond rfl (fun hc => ?_) (fun hc => ?_)))
 all_goals first | (refine ret_1 _ [] (.tmp rfl) .nil ⟨?_, rfl⟩; first | rfl | (simp only [*, Bool.true_and, Bool.false_and, Bool.true_or, Bool.false_or, Bool.not_true, Bool.not_false]; done) | (simp_all [clkChk]; done) | (simp_all [clkChk]; omega) | (simp_all [clkChk]; rw [Bool.eq_iff_iff]; simp; omega)) | (exfalso; simp_all [clkChk]; done) | (exfalso; simp_all [clkChk]; omega) | (exfalso; omega)
theorem r38within_spec (n : Int) (w : World) : Does Tryz.prog 46 [.int .i64 n] w (fun v O => v = .bool (inClk n) ∧ O = []) := by
 refine Does_of_W Tryz.func46 rfl rfl rfl rfl ?_
 repeat' (first | refine walk ?_ | refine und ?_ | (refine RL_gsplit rfl rfl rfl (fun hc => ?_) (fun hc => ?_)) | (refine RD_gsplit rfl rfl rfl (fun hc => ?_) (fun hc => ?_)) | (refine W_cond rfl (fun hc => ?_) (fun hc => ?_)))
 all_goals first | (refine ret_1 _ [] (.tmp rfl) .nil ⟨?_, rfl⟩; first | rfl | (simp only [*, Bool.true_and, Bool.false_and, Bool.true_or, Bool.false_or, Bool.not_true, Bool.not_false]; done) | (simp_all [inClk]; done) | (simp_all [inClk]; omega) | (simp_all [inClk]; rw [Bool.eq_iff_iff]; simp; omega)) | (exfalso; simp_all [inClk]; done) | (exfalso; simp_all [inClk]; omega) | (exfalso; omega)
theorem julD_bd (d : Int) (hd : 0 ≤ d ∧ d ≤ 31) : ∀ k, k ≤ 12 → 0 ≤ julD d k ∧ julD d k ≤ 31 + 31 * k
 | 0, _ => by simp only [julD]; omega
 | k + 1, hk => by
  have h1 := julD_bd d hd k (by omega)
  have h2 := lenM_bd 2001 ((k + 1 : Nat) : Int)
  rw [julD]
  omega
theorem julian_spec (m d : Int) (hm : 1 ≤ m ∧ m ≤ 12) (hd : 0 ≤ d ∧ d ≤ 31) (w : World) : Does Tryz.prog 94 [.int .i64 m, .int .i64 d] w (fun v O => v = .int .i64 (julD d (m - 1).toNat) ∧ O = []) := by
 obtain ⟨n, hn⟩ : ∃ n : Nat, (n : Int) = m := ⟨m.toNat, by omega⟩
 subst hn
 rw [show ((n : Int) - 1).toNat = n - 1 by omega]
 refine Does_of_W Tryz.func94 rfl rfl rfl rfl ?_
 repeat (first | refine walk ?_)
 refine W_loopF [(0, .int .i64 n)] [] (fun k : Nat => [(5, .int .i64 (julD d k)), (6, .int .i64 ((k + 1 : Nat) : Int))]) (fun _ => []) (fun k => k ≤ n - 1) (fun k => n - 1 - k) 0 SFA SOA (Nat.zero_le _) ?_
 intro k hk
 have hb := julD_bd d hd k (by omega)
 have hl := fun w' => rlen_spec 2001 ((k + 1 : Nat) : Int) w'
 have hlb := lenM_bd 2001 ((k + 1 : Nat) : Int)
 repeat (first | refine walk ?_)
 refine W_cond rfl (fun hc => ?_) (fun hc => ?_)
 ·simp only [decide_eq_true_eq] at hc
  repeat (first | (refine js ?_; (refine callE (fun w' _ => hl w') ?_)) | refine walk ?_)
  exact ⟨k + 1, by omega, by omega, SFA, SOA⟩
 ·simp only [decide_eq_false_iff_not] at hc
  obtain rfl : k = n - 1 := by omega
  repeat (first | refine walk ?_)
  exact rtA
def dateR (m : Int) (d : DDay) : DDate × Bool := (if (dateF m d).2 then (dateF m d).1 else dt0, (dateF m d).2)
theorem dateR1 (m wk dd : Int) (hm : 1 ≤ m ∧ m ≤ 12) (hd : 1 ≤ dd) : dateR m ⟨1, wk, dd⟩ = if dd ≤ lenM 2001 m then (⟨1, julD dd (m - 1).toNat, 0, 0, 0⟩, true) else (dt0, false) := by
 have e : dateF m ⟨1, wk, dd⟩ = (⟨1, (if daysOk 2001 m dd then dayNo 2001 m dd else 0) - dayNo 2001 1 1 + 1, 0, 0, 0⟩, daysOk 2001 m dd) := rfl
 unfold dateR
 rw [e]
 dsimp only
 have hok : daysOk 2001 m dd = decide (dd ≤ lenM 2001 m) := by
  unfold daysOk
  rw [show inY 2001 = true from by decide, decide_eq_true hd]
  rfl
 rw [hok]
 by_cases h : dd ≤ lenM 2001 m
 ·rw [decide_eq_true h, if_pos h, if_pos rfl, if_pos rfl, jul_eq hm.1 hm.2]
 ·rw [decide_eq_false h, if_neg h, if_neg (by decide)]
theorem dateR3 (m wk dd : Int) (hd : 0 ≤ dd) : dateR m ⟨3, wk, dd⟩ = if dd.tmod 7 = 1 ∧ dd ≤ 22 then (⟨3, wk, m, dd / 7 + 1, 0⟩, true) else (dt0, false) := by
 unfold dateR
 rw [show dateF m ⟨3, wk, dd⟩ = (⟨3, wk, m, dd / 7 + 1, 0⟩, decide (dd % 7 = 1) && decide (dd < 29)) from rfl, Int.tmod_eq_emod_of_nonneg hd]
 dsimp only
 by_cases h : dd % 7 = 1 ∧ dd ≤ 22
 ·rw [if_pos h, decide_eq_true h.1, decide_eq_true (show dd < 29 by omega)]
  rfl
 ·rw [if_neg h]
  have hf : (decide (dd % 7 = 1) && decide (dd < 29)) = false := by
   rw [Bool.and_eq_false_iff, decide_eq_false_iff_not, decide_eq_false_iff_not]
   omega
  rw [hf]
  rfl
theorem PuFtR0 {G : Prop} (h : G := by (apply Pu_leqB; rfl; rfl; exact e1)) : G := h
theorem QyFtR0 {G : Prop} (h : G := by first | (apply Qy_y; rfl; exact PuFtR0) | exact QyA) : G := h
theorem QFFtR0 {G : Prop} (h : G := by repeat (first | exact QF.nil | (apply QF.mk; rfl; rfl; decide +kernel; exact QyFtR0))) : G := h
theorem PuFtR1 {G : Prop} (h : G := by (first | exact PuFtR0 | (apply Pu_eqlB; rfl; rfl; exact e2) | (apply Pu_quo64; rfl; rfl; omega; omega; omega) | (apply Pu_rem; rfl; rfl; decide))) : G := h
theorem QyFtR1 {G : Prop} (h : G := by first | (apply Qy_y; rfl; exact PuFtR1) | exact QyA) : G := h
theorem QFFtR1 {G : Prop} (h : G := by repeat (first | exact QF.nil | (apply QF.mk; rfl; rfl; decide +kernel; exact QyFtR1))) : G := h
theorem PuFtR2 {G : Prop} (h : G := by (first | exact PuFtR0 | (apply Pu_eqlB; rfl; rfl; exact e2) | (apply Pu_rem; rfl; rfl; decide))) : G := h
theorem QyFtR2 {G : Prop} (h : G := by first | (apply Qy_y; rfl; exact PuFtR2) | exact QyA) : G := h
theorem QFFtR2 {G : Prop} (h : G := by repeat (first | exact QF.nil | (apply QF.mk; rfl; rfl; decide +kernel; exact QyFtR2))) : G := h
theorem PuFtR3 {G : Prop} (h : G := by (first | (apply Pu_eqlB; rfl; rfl; exact e2) | (apply Pu_rem; rfl; rfl; decide))) : G := h
theorem QyFtR3 {G : Prop} (h : G := by first | (apply Qy_y; rfl; exact PuFtR3) | exact QyA) : G := h
theorem QFFtR3 {G : Prop} (h : G := by repeat (first | exact QF.nil | (apply QF.mk; rfl; rfl; decide +kernel; exact QyFtR3))) : G := h
theorem rday_spec (r : DRule) (hm : 1 ≤ r.month ∧ r.month ≤ 12) (hc : dayChk r.day = true) (w : World) : Does Tryz.prog 45 [.agg r.enc.toArray] w (fun v O => v = dtV (dateR r.month r.day) ∧ O = []) := by
 obtain ⟨b1, b2, b3⟩ := dayChk_bd hc
 have hln := fun w' => rlen_spec 2001 r.month w'
 have hjl := fun w' => julian_spec r.month r.day.day hm b3 w'
 have r1 := fun h => dateR1 r.month r.day.week r.day.day hm h
 have r3 := dateR3 r.month r.day.week r.day.day b3.1
 have hd1 : r.day.kind = 1 → 1 ≤ r.day.day := fun h => by
  unfold dayChk at hc
  rw [h] at hc
  simp only [Bool.and_eq_true, Bool.not_eq_true', Bool.or_eq_false_iff, dayK, decide_eq_false_iff_not] at hc
  have := hc.2.1.1.2
  simp at this
  omega
 obtain ⟨nm, fr, to, mo, ⟨dk, dw, dd⟩, ⟨cs, cb⟩, sv, le⟩ := r
 dsimp only at hm b1 b2 b3 hln hjl r1 r3 hd1 ⊢
 clear hc
 generalize lenM 2001 mo = ln at *
 generalize julD dd (mo - 1).toNat = jl at *
 have h4 : dk = 1 ∨ dk = 2 ∨ dk = 3 ∨ dk = 4 := by omega
 rcases h4 with rfl | rfl | rfl | rfl
 ·rw [r1 (hd1 rfl)]
  by_cases h : dd ≤ ln
  ·have e1 : decide (dd ≤ ln) = true := decide_eq_true h
   rw [if_pos h]
   show Does _ _ [.agg #[.string nm, .int .i64 fr, .int .i64 to, .int .i64 mo, .int .i64 1, .int .i64 dw, .int .i64 dd, .int .i64 cs, .int .i64 cb, .int .i64 sv, .string le]] w _
   refine Does_of_W Tryz.func45 rfl rfl rfl rfl ?_
   repeat (first | refine und ?_ | (apply RL_pu; rfl; exact PuFtR0) | (apply RD_Q; rfl; rfl; decide +kernel; rfl; rfl; exact QyFtR0) | refine walk1 ?_ | (refine jg ?_; (try intro F); (first | (refine callE (fun w' _ => hln w') ?_) | (refine callE (fun w' _ => hjl w') ?_) | (refine bx ?_; intro bk) | (refine stA ?_)); first | refine ⟨_, EndsA, QFFtR0, ?_⟩ | refine fin ?_) | (refine jn ?_; (try intro F); (first | (refine bx ?_; intro bk) | (refine stA ?_) | (apply Stp_pu; first | exact PuFtR0 | exact PuA)); first | refine ⟨_, EndsA, QFFtR0, ?_⟩ | refine fin ?_) | (apply RD_W; rfl; intro bk))
   exact rtC
  ·have e1 : decide (dd ≤ ln) = false := decide_eq_false h
   rw [if_neg h]
   show Does _ _ [.agg #[.string nm, .int .i64 fr, .int .i64 to, .int .i64 mo, .int .i64 1, .int .i64 dw, .int .i64 dd, .int .i64 cs, .int .i64 cb, .int .i64 sv, .string le]] w _
   refine Does_of_W Tryz.func45 rfl rfl rfl rfl ?_
   repeat (first | refine und ?_ | (apply RL_pu; rfl; exact PuFtR0) | (apply RD_Q; rfl; rfl; decide +kernel; rfl; rfl; exact QyFtR0) | refine walk1 ?_ | (refine jg ?_; (try intro F); (first | (refine callE (fun w' _ => hln w') ?_) | (refine callE (fun w' _ => hjl w') ?_) | (refine bx ?_; intro bk) | (refine stA ?_)); first | refine ⟨_, EndsA, QFFtR0, ?_⟩ | refine fin ?_) | (refine jn ?_; (try intro F); (first | (refine bx ?_; intro bk) | (refine stA ?_) | (apply Stp_pu; first | exact PuFtR0 | exact PuA)); first | refine ⟨_, EndsA, QFFtR0, ?_⟩ | refine fin ?_) | (apply RD_W; rfl; intro bk))
   exact rtC
 ·rw [show dateR mo ⟨2, dw, dd⟩ = (⟨3, dw, mo, 5, 0⟩, true) from rfl]
  show Does _ _ [.agg #[.string nm, .int .i64 fr, .int .i64 to, .int .i64 mo, .int .i64 2, .int .i64 dw, .int .i64 dd, .int .i64 cs, .int .i64 cb, .int .i64 sv, .string le]] w _
  refine Does_of_W Tryz.func45 rfl rfl rfl rfl ?_
  repeat (first | refine und ?_ | refine walk ?_ | (refine jg ?_; (try intro F); (first | (refine callE (fun w' _ => hln w') ?_) | (refine callE (fun w' _ => hjl w') ?_) | (refine bx ?_; intro bk) | (refine stA ?_)); refine fin ?_) | (refine jn ?_; (try intro F); (first | (refine bx ?_; intro bk) | (refine stA ?_) | (apply Stp_pu; exact PuA)); refine fin ?_) | (apply RD_W; rfl; intro bk))
  exact rtC
 ·rw [r3]
  by_cases h : dd.tmod 7 = 1
  ·have e2 : decide (dd.tmod 7 = 1) = true := decide_eq_true h
   by_cases h2 : dd ≤ 22
   ·have e1 : decide (dd ≤ 22) = true := decide_eq_true h2
    rw [if_pos ⟨h, h2⟩]
    show Does _ _ [.agg #[.string nm, .int .i64 fr, .int .i64 to, .int .i64 mo, .int .i64 3, .int .i64 dw, .int .i64 dd, .int .i64 cs, .int .i64 cb, .int .i64 sv, .string le]] w _
    refine Does_of_W Tryz.func45 rfl rfl rfl rfl ?_
    repeat (first | refine und ?_ | (apply RL_pu; rfl; exact PuFtR1) | (apply RD_Q; rfl; rfl; decide +kernel; rfl; rfl; exact QyFtR1) | refine walk1 ?_ | (refine jg ?_; (try intro F); (first | (refine callE (fun w' _ => hln w') ?_) | (refine callE (fun w' _ => hjl w') ?_) | (refine bx ?_; intro bk) | (refine stA ?_)); first | refine ⟨_, EndsA, QFFtR1, ?_⟩ | refine fin ?_) | (refine jn ?_; (try intro F); (first | (refine bx ?_; intro bk) | (refine stA ?_) | (apply Stp_pu; first | exact PuFtR1 | exact PuA)); first | refine ⟨_, EndsA, QFFtR1, ?_⟩ | refine fin ?_) | (apply RD_W; rfl; intro bk))
    exact rtC
   ·have e1 : decide (dd ≤ 22) = false := decide_eq_false h2
    rw [if_neg fun q => h2 q.2]
    show Does _ _ [.agg #[.string nm, .int .i64 fr, .int .i64 to, .int .i64 mo, .int .i64 3, .int .i64 dw, .int .i64 dd, .int .i64 cs, .int .i64 cb, .int .i64 sv, .string le]] w _
    refine Does_of_W Tryz.func45 rfl rfl rfl rfl ?_
    repeat (first | refine und ?_ | (apply RL_pu; rfl; exact PuFtR2) | (apply RD_Q; rfl; rfl; decide +kernel; rfl; rfl; exact QyFtR2) | refine walk1 ?_ | (refine jg ?_; (try intro F); (first | (refine callE (fun w' _ => hln w') ?_) | (refine callE (fun w' _ => hjl w') ?_) | (refine bx ?_; intro bk) | (refine stA ?_)); first | refine ⟨_, EndsA, QFFtR2, ?_⟩ | refine fin ?_) | (refine jn ?_; (try intro F); (first | (refine bx ?_; intro bk) | (refine stA ?_) | (apply Stp_pu; first | exact PuFtR2 | exact PuA)); first | refine ⟨_, EndsA, QFFtR2, ?_⟩ | refine fin ?_) | (apply RD_W; rfl; intro bk))
    exact rtC
  ·have e2 : decide (dd.tmod 7 = 1) = false := decide_eq_false h
   rw [if_neg fun q => h q.1]
   show Does _ _ [.agg #[.string nm, .int .i64 fr, .int .i64 to, .int .i64 mo, .int .i64 3, .int .i64 dw, .int .i64 dd, .int .i64 cs, .int .i64 cb, .int .i64 sv, .string le]] w _
   refine Does_of_W Tryz.func45 rfl rfl rfl rfl ?_
   repeat (first | refine und ?_ | (apply RL_pu; rfl; exact PuFtR3) | (apply RD_Q; rfl; rfl; decide +kernel; rfl; rfl; exact QyFtR3) | refine walk1 ?_ | (refine jg ?_; (try intro F); (first | (refine callE (fun w' _ => hln w') ?_) | (refine callE (fun w' _ => hjl w') ?_) | (refine bx ?_; intro bk) | (refine stA ?_)); first | refine ⟨_, EndsA, QFFtR3, ?_⟩ | refine fin ?_) | (refine jn ?_; (try intro F); (first | (refine bx ?_; intro bk) | (refine stA ?_) | (apply Stp_pu; first | exact PuFtR3 | exact PuA)); first | refine ⟨_, EndsA, QFFtR3, ?_⟩ | refine fin ?_) | (apply RD_W; rfl; intro bk))
   exact rtC
 ·rw [show dateR mo ⟨4, dw, dd⟩ = (dt0, false) from rfl]
  show Does _ _ [.agg #[.string nm, .int .i64 fr, .int .i64 to, .int .i64 mo, .int .i64 4, .int .i64 dw, .int .i64 dd, .int .i64 cs, .int .i64 cb, .int .i64 sv, .string le]] w _
  refine Does_of_W Tryz.func45 rfl rfl rfl rfl ?_
  repeat (first | refine und ?_ | refine walk ?_ | (refine jg ?_; (try intro F); (first | (refine callE (fun w' _ => hln w') ?_) | (refine callE (fun w' _ => hjl w') ?_) | (refine bx ?_; intro bk) | (refine stA ?_)); refine fin ?_) | (refine jn ?_; (try intro F); (first | (refine bx ?_; intro bk) | (refine stA ?_) | (apply Stp_pu; exact PuA)); refine fin ?_) | (apply RD_W; rfl; intro bk))
  exact rtC
end Go.Proofs.YtonjepladadmhaaGreatDoor
