/- Contracts: analemmalaw17.Draft (a list of bytes): at, clock, pair. Contract: analemmalaw17.Draft: pair. Contract: analemmalaw17.Draft: Made. Contract: analemmalaw25.example. Contracts: slices.Equal at three types. Contract: slices.Equal at numbers. Rules: make with a length; an index that is a number, in an own block. -/
import Derived.Test.YtbjkhnlnedfceaaGreatDoorQ24
import Derived.Test.YtbjkhnlnedfceaaGreatDoorQ06
import Derived.Test.YtbjkhnlnedfceaaGreatDoorQ15
import Derived.Test.YtbjkhnlnedfceaaGreatDoorQ36
import Derived.Test.YtbjkhnlnedfceaaGreatDoorQ12
import Derived.Test.YtbjkhnlnedfceaaGreatDoorQ25
import Derived.Laws.OwnMore
set_option maxHeartbeats 4000000
set_option linter.unusedVariables false
set_option linter.unusedSimpArgs false
namespace Go.Proofs.YtbjkhnlnedfceaaGreatDoor
open Go Go.RowKit Go.Wk
attribute [local irreducible] W RL Does thenQ blockQ retQ Calls Pu Stp RD Qy Ay DoesIn
def byEnc (n : Int) : List Value := [.int .u8 n]
theorem byEnc.len (n : Int) : (byEnc n).length = 1 := rfl
theorem at_spec (A : Option Addr) (c : Nat) (l : List Int) (i n : Int) (w : World) (hA : RdSl w A c byEnc 1 l) (hr : ∀ x ∈ l, inR .u8 x) (hi : 0 ≤ i) (hn : 0 < n) :
  Does Tryz.prog 39 [.slice A l.length c, .int .i64 i, .int .i64 n] w (fun v O => v = .int .i64 (atB l i n) ∧ O = []) := by
 have hs1 := hA.le
 have hs2 := hA.cap
 unfold maxLen at hs2
 refine Does_of_W Tryz.func39 rfl rfl rfl rfl ?_
 repeat (first | refine walk ?_)
 refine W_cond rfl (fun h => ?_) (fun h => ?_)
 ·repeat (first | refine walk ?_)
  exact ret_1 _ [] (.tmp rfl) .nil ⟨by simp at h; simp [atB, h], rfl⟩
 have h0 : l.length ≠ 0 := by simpa using h
 have hp : (0 : Int) < l.length := by omega
 have hm0 := Int.emod_nonneg i (b := (l.length : Int)) (by omega)
 have hm1 := Int.emod_lt_of_pos i hp
 have hk : (i % (l.length : Int)).toNat < l.length := by omega
 obtain ⟨hna, hca⟩ := hA.rd _ _ (List.getElem?_eq_getElem hk)
 have hv := hr _ (List.getElem_mem hk)
 have e : atB l i n = l[(i % (l.length : Int)).toNat] % n := by
  rw [atB, if_neg h0, List.getD_eq_getElem?_getD, List.getElem?_eq_getElem hk]
  rfl
 rw [e]
 generalize l[(i % (l.length : Int)).toNat] = r at *
 rw [inR_u8] at hv
 repeat (first | (apply RL_pu; rfl; exact PuI) | refine walk1 ?_)
 exact rtA
theorem clock_spec (A : Option Addr) (c : Nat) (l : List Int) (i : Int) (w : World) (hA : RdSl w A c byEnc 1 l) (hr : ∀ x ∈ l, inR .u8 x) (hi : 0 ≤ i) (hi2 : i ≤ 1000) :
  Does Tryz.prog 40 [.slice A l.length c, .int .i64 i] w (fun v O => v = .agg #[.int .i64 (clockB l i).sec, .int .i64 (clockB l i).base] ∧ O = []) := by
 have h1 := atB_range l i 49 (by decide)
 have h2 := atB_range l (i + 1) 3 (by decide)
 refine Does_of_W Tryz.func40 rfl rfl rfl rfl ?_
 repeat (first | (apply RL_pu; rfl; (apply Pu_mul; rfl; rfl; omega)) | (refine js ?_; (first | (refine callE (fun w' hw => at_spec A c l (i) 49 w' (hA.up hw) hr (by omega) (by omega)) ?_) | (refine callE (fun w' hw => at_spec A c l (i + 1) 3 w' (hA.up hw) hr (by omega) (by omega)) ?_) | (refine bx ?_; intro bk))) | refine walk1 ?_)
 exact ret_1 _ [] (.cellB rfl (by repeat' constructor) rfl rfl) .nil ⟨rfl, rfl⟩
theorem DDay.len3 (d : DDay) : d.enc.length = 3 := rfl
theorem PuDraft171 {G : Prop} (h : G := by (first | (apply Pu_loadO1; rfl; exact hp 0 _ rfl) | (apply Pu_mul; rfl; rfl; omega))) : G := h
theorem QyDraft171 {G : Prop} (h : G := by first | (apply Qy_y; rfl; exact PuDraft171) | exact QyA) : G := h
theorem QFDraft171 {G : Prop} (h : G := by repeat (first | exact QF.nil | (apply QF.mk; rfl; rfl; decide +kernel; exact QyDraft171))) : G := h
theorem PuDraft172 {G : Prop} (h : G := by (apply Pu_loadN (cs := (dayOf l i).enc); rfl; rfl; (intro w' _ hO; exact ((litRd (c := 3) (l := dayB l i) (t := 35) DDay.len3 (Nat.le_refl 3) (by decide) (hO.of (A := .blk bk ((dayB l i).flatMap DDay.enc) _) (by repeat' constructor))).rd _ _ hget).2))) : G := h
theorem QyDraft172 {G : Prop} (h : G := by first | (apply Qy_y; rfl; exact PuDraft172) | exact QyA) : G := h
theorem QFDraft172 {G : Prop} (h : G := by repeat (first | exact QF.nil | (apply QF.mk; rfl; rfl; decide +kernel; exact QyDraft172))) : G := h
theorem day17_spec (A : Option Addr) (c : Nat) (l : List Int) (i : Int) (ad : Addr) (w : World) (hA : RdSl w A c byEnc 1 l) (hr : ∀ x ∈ l, inR .u8 x) (hi : 0 ≤ i) (hi2 : i ≤ 1000) (hp : CellsAt w ad [.slice A l.length c]) :
  Does Tryz.prog 79 [.int .i64 i, .pointer (some ad)] w (fun v O => v = .agg #[.int .i64 (dayOf l i).kind, .int .i64 (dayOf l i).week, .int .i64 (dayOf l i).day] ∧ O = []) := by
 have h1 := atB_range l i 7 (by decide)
 have h2 := atB_range l (i + 1) 4 (by decide)
 have h3 := atB_range l (i + 1) 28 (by decide)
 have h4 := atB_range l (i + 2) 3 (by decide)
 refine Does_of_W Tryz.func79 rfl rfl rfl rfl ?_
 repeat (first | (apply RL_pu; rfl; exact PuDraft171) | (apply RD_Q; rfl; rfl; decide +kernel; rfl; rfl; exact QyDraft171) | refine walk1 ?_ | (refine jg ?_; (try intro F); (first | (refine callE (fun w' hw => at_spec A c l (i) 7 w' (hA.up hw) hr (by omega) (by omega)) ?_) | (refine callE (fun w' hw => at_spec A c l (i + 1) 4 w' (hA.up hw) hr (by omega) (by omega)) ?_) | (refine callE (fun w' hw => at_spec A c l (i + 1) 28 w' (hA.up hw) hr (by omega) (by omega)) ?_) | (refine callE (fun w' hw => at_spec A c l (i + 2) 3 w' (hA.up hw) hr (by omega) (by omega)) ?_) | (refine bx ?_; intro bk) | (refine stA ?_)); first | refine ⟨_, EndsA, QFDraft171, ?_⟩ | refine fin ?_) | (refine jn ?_; (try intro F); (first | (refine bx ?_; intro bk) | (refine stA ?_) | (apply Stp_pu; first | exact PuDraft171 | exact PuA)); first | refine ⟨_, EndsA, QFDraft171, ?_⟩ | refine fin ?_) | (apply RD_W; rfl; intro bk))
 have hget : (dayB l i)[(atB l (i + 2) 3).toNat]? = some (dayOf l i) := by
  have hk : (atB l (i + 2) 3).toNat < (dayB l i).length := by simp only [dayB, List.length_cons, List.length_nil]; omega
  rw [dayOf, List.getD_eq_getElem?_getD, List.getElem?_eq_getElem hk]
  rfl
 repeat (first | (apply RL_pu; rfl; exact PuDraft172) | (apply RD_Q; rfl; rfl; decide +kernel; rfl; rfl; exact QyDraft172) | refine walk1 ?_ | (refine jn ?_; (try intro F); (first | (refine bx ?_; intro bk) | (refine stA ?_) | (apply Stp_pu; first | exact PuDraft172 | exact PuA)); first | refine ⟨_, EndsA, QFDraft172, ?_⟩ | refine fin ?_) | (apply RD_W; rfl; intro bk))
 exact ret_1 _ [] (.cellB rfl (by repeat' constructor) rfl rfl) .nil ⟨rfl, rfl⟩
end Go.Proofs.YtbjkhnlnedfceaaGreatDoor
namespace Go.Proofs.YtbjkhnlnedfceaaGreatDoor
open Go Go.RowKit Go.Wk
attribute [local irreducible] W RL Does thenQ blockQ retQ Calls Pu Stp RD Qy Ay DoesIn atB dayOf clockB
theorem blkCells {w : World} {b : Nat} {cs : List Value} {t : TypeId} (h : (It.blk b cs t).sat w) : CellsAt w ⟨b, 0, none⟩ cs := fun j v hj => (blkRaw h j v hj).2
set_option maxHeartbeats 8000000 in
theorem pair17_spec (A : Option Addr) (c : Nat) (l : List Int) (i a b save : Int) (w : World) (hA : RdSl w A c byEnc 1 l) (hr : ∀ x ∈ l, inR .u8 x) (hi : 0 ≤ i) (hi2 : i ≤ 900) :
  Does Tryz.prog 41 [.slice A l.length c, .int .i64 i, .int .i64 a, .int .i64 b, .int .i64 save] w (fun v O => ∃ k, v = .slice (some ⟨k, 0, none⟩) 2 2 ∧ O = [.blk k ((pairB l i a b save).flatMap DRule.enc) 39]) := by
 have r1 := atB_range l i 3 (by decide)
 have r2 := atB_range l (i + 1) 3 (by decide)
 have r3 := atB_range l (i + 8) 3 (by decide)
 have r4 := atB_range l (i + 14) 2 (by decide)
 have r5 := atB_range l (i + 2) 4 (by decide)
 refine Does_of_W Tryz.func41 rfl rfl rfl rfl ?_
 repeat (first | refine walk0 ?_ | (refine jn ?_; (try intro F); (first | (refine bx ?_; intro bk) | (refine stA ?_) | (apply Stp_pu; exact PuA)); refine fin ?_) | (apply RD_W; rfl; intro bk))
 generalize bk = b5
 refine W_post (fun fr' O' => ∃ b1, Sub [(0, .slice A l.length c), (1, .int .i64 i), (2, .int .i64 a), (3, .int .i64 b), (4, .int .i64 save), (5, .pointer (some ⟨b5, 0, none⟩)), (11, .func (.func 79) #[] #[.pointer (some ⟨b5, 0, none⟩)]), (12, .pointer (some ⟨b1, 0, none⟩))] fr' ∧ SubO [.blk b1 (ruleA l i a b save).enc 39, .blk b5 [.slice A l.length c] 63] O') ?_ ?_
 ·repeat (first | refine walk ?_ | (refine jg ?_; (try intro F); (first | (refine callE (fun w' hw => at_spec A c l (i) 3 w' (hA.up hw) hr (by omega) (by omega)) ?_) | (refine callE (fun w' hw => at_spec A c l (i + 8) 3 w' (hA.up hw) hr (by omega) (by omega)) ?_) | (refine callE (fun w' hw => clock_spec A c l (i + 6) w' (hA.up hw) hr (by omega) (by omega)) ?_) | (apply Stp_callV (f := 79) (us := []) (cs := [.pointer (some ⟨b5, 0, none⟩)]) (vs := [.int .i64 (i + 3)]) (h := fun w' hw hO => day17_spec A c l (i + 3) ⟨b5, 0, none⟩ w' (hA.up hw) hr (by omega) (by omega) (blkCells (hO.of (A := .blk b5 _ _) (by repeat' constructor)))); rfl; rfl; rintro v O' ⟨rfl, rfl⟩) | (refine bx ?_; intro bk) | (refine stA ?_)); refine fin ?_) | (refine jn ?_; (try intro F); (first | (refine bx ?_; intro bk) | (refine stA ?_) | (apply Stp_pu; exact PuA)); refine fin ?_) | (apply RD_W; rfl; intro bk))
  exact ⟨rfl, _, SFA, SOA⟩
 rintro fr' O' ⟨b1, hf, hO⟩
 apply thenQ_n
 refine W_sub hf hO ?_
 repeat (first | refine walk0 ?_ | (refine jn ?_; (try intro F); (first | (refine bx ?_; intro bk) | (refine stA ?_) | (apply Stp_pu; exact PuA)); refine fin ?_) | (apply RD_W; rfl; intro bk))
 refine W_post (fun fr' O' => ∃ b2, Sub [(0, .slice A l.length c), (1, .int .i64 i), (2, .int .i64 a), (3, .int .i64 b), (4, .int .i64 save), (5, .pointer (some ⟨b5, 0, none⟩)), (11, .func (.func 79) #[] #[.pointer (some ⟨b5, 0, none⟩)]), (12, .pointer (some ⟨b1, 0, none⟩)), (13, .pointer (some ⟨b2, 0, none⟩))] fr' ∧ SubO [.blk b2 (ruleB l i a b 0).enc 39, .blk b1 (ruleA l i a b save).enc 39, .blk b5 [.slice A l.length c] 63] O') ?_ ?_
 ·repeat (first | refine walk ?_ | (refine jg ?_; (try intro F); (first | (refine callE (fun w' hw => at_spec A c l (i + 1) 3 w' (hA.up hw) hr (by omega) (by omega)) ?_) | (refine callE (fun w' hw => at_spec A c l (i + 14) 2 w' (hA.up hw) hr (by omega) (by omega)) ?_) | (refine callE (fun w' hw => clock_spec A c l (i + 12) w' (hA.up hw) hr (by omega) (by omega)) ?_) | (apply Stp_callV (f := 79) (us := []) (cs := [.pointer (some ⟨b5, 0, none⟩)]) (vs := [.int .i64 (i + 9)]) (h := fun w' hw hO => day17_spec A c l (i + 9) ⟨b5, 0, none⟩ w' (hA.up hw) hr (by omega) (by omega) (blkCells (hO.of (A := .blk b5 _ _) (by repeat' constructor)))); rfl; rfl; rintro v O' ⟨rfl, rfl⟩) | (refine bx ?_; intro bk) | (refine stA ?_)); refine fin ?_) | (refine jn ?_; (try intro F); (first | (refine bx ?_; intro bk) | (refine stA ?_) | (apply Stp_pu; exact PuA)); refine fin ?_) | (apply RD_W; rfl; intro bk))
  exact ⟨rfl, _, SFA, SOA⟩
 rintro fr' O' ⟨b2, hf, hO⟩
 apply thenQ_n
 refine W_sub hf hO ?_
 repeat (first | refine walk ?_ | (refine jg ?_; (try intro F); (first | (refine callE (fun w' hw => at_spec A c l (i + 2) 4 w' (hA.up hw) hr (by omega) (by omega)) ?_) | (refine bx ?_; intro bk) | (refine stA ?_)); refine fin ?_) | (refine jn ?_; (try intro F); (first | (refine bx ?_; intro bk) | (refine stA ?_) | (apply Stp_pu; exact PuA)); refine fin ?_) | (apply RD_W; rfl; intro bk))
 generalize hra : ruleA l i a b save = ra
 generalize hrb : ruleB l i a b 0 = rb
 refine W_sub (fr' := [(65, .bool (decide (atB l (i + 2) 4 = 0))), (12, .pointer (some ⟨b1, 0, none⟩)), (13, .pointer (some ⟨b2, 0, none⟩))]) SFA (show SubO [.blk b2 [.string rb.name, .int .i64 rb.from_, .int .i64 rb.to, .int .i64 rb.month, .int .i64 rb.day.kind, .int .i64 rb.day.week, .int .i64 rb.day.day, .int .i64 rb.at_.sec, .int .i64 rb.at_.base, .int .i64 rb.save, .string rb.letter] 39, .blk b1 [.string ra.name, .int .i64 ra.from_, .int .i64 ra.to, .int .i64 ra.month, .int .i64 ra.day.kind, .int .i64 ra.day.week, .int .i64 ra.day.day, .int .i64 ra.at_.sec, .int .i64 ra.at_.base, .int .i64 ra.save, .string ra.letter] 39] _ from SOA) ?_
 refine W_cond rfl (fun h => ?_) (fun h => ?_)
 ·have e : pairB l i a b save = [⟨ra.name, ra.from_, ra.to, ra.month, ra.day, ra.at_, rb.save, ra.letter⟩, ⟨rb.name, rb.from_, rb.to, rb.month, rb.day, rb.at_, ra.save, rb.letter⟩] := by
   rw [pairB, if_pos (by simpa using h), ← hra, ← hrb]
   rfl
  rw [e]
  repeat (first | refine walk ?_ | (refine jn ?_; (try intro F); (first | (refine bx ?_; intro bk) | (refine stA ?_) | (apply Stp_pu; exact PuA)); refine fin ?_) | (apply RD_W; rfl; intro bk))
  exact ret_1 _ [.blk bk (List.flatMap DRule.enc [⟨ra.name, ra.from_, ra.to, ra.month, ra.day, ra.at_, rb.save, ra.letter⟩, ⟨rb.name, rb.from_, rb.to, rb.month, rb.day, rb.at_, ra.save, rb.letter⟩]) 39] (.tmp rfl) SOA ⟨_, rfl, rfl⟩
 have e : pairB l i a b save = [ra, rb] := by rw [pairB, if_neg (by simpa using h), ← hra, ← hrb]
 rw [e]
 repeat (first | refine walk ?_ | (refine jn ?_; (try intro F); (first | (refine bx ?_; intro bk) | (refine stA ?_) | (apply Stp_pu; exact PuA)); refine fin ?_) | (apply RD_W; rfl; intro bk))
 exact ret_1 _ [.blk bk (List.flatMap DRule.enc [ra, rb]) 39] (.tmp rfl) SOA ⟨_, rfl, rfl⟩
end Go.Proofs.YtbjkhnlnedfceaaGreatDoor
namespace Go.Proofs.YtbjkhnlnedfceaaGreatDoor
open Go Go.RowKit Go.Wk
attribute [local irreducible] W RL Does thenQ blockQ retQ Calls Pu Stp RD Qy Ay DoesIn atB dayOf clockB pairB
def intEnc (n : Int) : List Value := [.int .i64 n]
theorem intEnc.len (n : Int) : (intEnc n).length = 1 := rfl
theorem name_lay (x : ByteArray) : ∀ (l : List DRule) (k : Nat) (r : DRule), l[k]? = some r → lay (l.flatMap DRule.enc) (k * 11) [.string x] = (l.take k ++ nameR x r :: l.drop (k + 1)).flatMap DRule.enc
 | [], k, r, h => by simp at h
 | a :: l, 0, r, h => by
  simp only [List.getElem?_cons_zero, Option.some.injEq] at h
  subst h
  simp [lay, nameR, DRule.enc]
 | a :: l, k + 1, r, h => by
  have ih := name_lay x l k r (by simpa using h)
  simp only [lay] at ih ⊢
  simp only [List.flatMap_cons, List.take_succ_cons, List.drop_succ_cons, List.cons_append]
  rw [← ih]
  rw [show (k + 1) * 11 = a.enc.length + k * 11 by rw [DRule.len]; omega, List.set_append_right _ _ (by omega), Nat.add_sub_cancel_left]
theorem take_map_drop {x : ByteArray} {l : List DRule} {k : Nat} (r : DRule) (hr : l[k]? = some r) : ((l.take k).map (nameR x) ++ l.drop k)[k]? = some r := by
 have hk := (List.getElem?_eq_some_iff.1 hr).1
 have e : ((l.take k).map (nameR x)).length = k := by rw [List.length_map, List.length_take]; omega
 rw [List.getElem?_append_right (by omega), e, Nat.sub_self, List.getElem?_drop]
 exact hr
theorem named_step (x : ByteArray) (l : List DRule) (k : Nat) (r : DRule) (hr : l[k]? = some r) :
  lay (((l.take k).map (nameR x) ++ l.drop k).flatMap DRule.enc) (k * 11 + 0) [.string x] = ((l.take (k + 1)).map (nameR x) ++ l.drop (k + 1)).flatMap DRule.enc := by
 have hk := (List.getElem?_eq_some_iff.1 hr).1
 have e : ((l.take k).map (nameR x)).length = k := by rw [List.length_map, List.length_take]; omega
 rw [Nat.add_zero, name_lay x _ k r (take_map_drop r hr), List.take_append_of_le_length (by omega), List.take_of_length_le (by omega)]
 congr 1
 rw [List.drop_append, List.drop_eq_nil_of_le (by omega), e, List.nil_append, List.drop_drop, List.take_add_one, List.map_append, List.append_assoc, hr, show k + (k + 1 - k) = k + 1 by omega]
 rfl
set_option maxHeartbeats 8000000 in
theorem made17_spec (A : Option Addr) (c : Nat) (l : List Int) (x : ByteArray) (w : World) (hA : RdSl w A c byEnc 1 l) (hr : ∀ x ∈ l, inR .u8 x) :
  Does Tryz.prog 18 [.slice A l.length c, .string x] w (fun v O => ∃ A' c', v = .slice A' (made17 l x).length c' ∧ O = [.row (.slice A' (made17 l x).length c') 39 11 (made17 l x).length ((made17 l x).flatMap DRule.enc)]) := by
 have r0 := atB_range l 0 5 (by decide)
 have r1 := atB_range l 1 80 (by decide)
 have r3 := atB_range l 3 28 (by decide)
 have r6 := atB_range l 6 12 (by decide)
 have r8 := atB_range l 8 5 (by decide)
 have r9 := atB_range l 9 6 (by decide)
 obtain ⟨q1, q2, q3⟩ := m1_rng l
 obtain ⟨q4, q5, q6⟩ := m2_rng l (m1 l).1 (m1 l).2 q1 q2 q3
 have hget : saves17[(atB l 0 5).toNat]? = some (save17 l) := by
  have hk : (atB l 0 5).toNat < saves17.length := by simp only [saves17, List.length_cons, List.length_nil]; omega
  rw [save17, List.getD_eq_getElem?_getD, List.getElem?_eq_getElem hk]
  rfl
 refine Does_of_W Tryz.func18 rfl rfl rfl rfl ?_
 repeat (first | (apply RL_pu; rfl; (apply Pu_load1 (v := .int .i64 (save17 l)); rfl; (intro w' _ hO; exact ((litRd (c := 5) (l := saves17) (t := 2) intEnc.len (Nat.le_refl 5) (by decide) (hO.of (A := .blk bk (saves17.flatMap intEnc) _) (by repeat' constructor))).rd _ _ hget).2 0 _ rfl))) | (refine js ?_; (first | (refine callE (fun w' hw => at_spec A c l 0 5 w' (hA.up hw) hr (by omega) (by omega)) ?_) | (refine callE (fun w' hw => at_spec A c l 1 80 w' (hA.up hw) hr (by omega) (by omega)) ?_) | (refine callE (fun w' hw => at_spec A c l 2 3 w' (hA.up hw) hr (by omega) (by omega)) ?_) | (refine bx ?_; intro bk))) | refine walk1 ?_)
 refine W_nil 39 11 ?_
 refine W_post (fun fr' O' => ∃ A' c' n xs, (n = (m1 l).1.length ∧ xs = (m1 l).1.flatMap DRule.enc) ∧ Sub [(0, .slice A l.length c), (1, .string x), (5, .int .i64 (save17 l)), (6, .int .i64 (m1 l).2), (7, .slice A' n c')] fr' ∧ SubO [.row (.slice A' n c') 39 11 n xs] O') ?_ ?_
 ·refine W_cond rfl (fun h => ?_) (fun h => ?_)
  ·have e : m1 l = ([one17 l (1900 + atB l 1 80)], 1900 + atB l 1 80 + 1) := by rw [m1, if_pos (by simpa using h)]
   repeat (first | (refine js ?_; (first | (refine callE (fun w' hw => at_spec A c l 3 28 w' (hA.up hw) hr (by omega) (by omega)) ?_) | (refine callE (fun w' hw => clock_spec A c l 4 w' (hA.up hw) hr (by omega) (by omega)) ?_) | (apply Stp_append; rfl; rfl; (intro A' c'; (focus repeat' constructor)); (intro w' _ hO; exact blkRaw (hO.of (by repeat' constructor))); rfl; rfl; (simp only [maxLen]; omega); omega; intro A' c' hc1 hc2 hc3) | (refine bx ?_; intro bk))) | refine walk ?_)
   rw [e]
   exact ⟨rfl, A', c', 0 + 1, [] ++ (one17 l (1900 + atB l 1 80)).enc, ⟨rfl, rfl⟩, SFA, SOA⟩
  have e : m1 l = ([], 1900 + atB l 1 80) := by rw [m1, if_neg (by simpa using h)]
  repeat (first | (refine js ?_; (refine bx ?_; intro bk)) | refine walk ?_)
  rw [e]
  exact ⟨rfl, none, 0, 0, [], ⟨rfl, rfl⟩, SFA, SOA⟩
 rintro fr' O' ⟨A1, c1, n1, x1, ⟨hn1, hx1⟩, hf, hO⟩
 apply thenQ_n
 refine W_sub hf hO ?_
 clear hf hO fr' O'
 repeat (first | (refine js ?_; (first | (refine callE (fun w' hw => at_spec A c l 5 2 w' (hA.up hw) hr (by omega) (by omega)) ?_) | (refine bx ?_; intro bk))) | refine walk ?_)
 rw [made17]
 generalize m1 l = g1 at *
 obtain ⟨o1, f1⟩ := g1
 dsimp only at *
 refine W_post (fun fr' O' => ∃ A' c' n xs, (n = (m2 l o1 f1).1.length ∧ xs = (m2 l o1 f1).1.flatMap DRule.enc) ∧ Sub [(0, .slice A l.length c), (1, .string x), (5, .int .i64 (save17 l)), (6, .int .i64 (m2 l o1 f1).2), (7, .slice A' n c')] fr' ∧ SubO [.row (.slice A' n c') 39 11 n xs] O') ?_ ?_
 ·refine W_cond rfl (fun h => ?_) (fun h => ?_)
  ·have e : m2 l o1 f1 = (o1 ++ pairB l 7 f1 (f1 + atB l 6 12) (save17 l), f1 + atB l 6 12 + 1 + atB l 8 5) := by rw [m2, if_pos (by simpa using h)]
   repeat (first | (refine js ?_; (first | (refine callE (fun w' hw => at_spec A c l 6 12 w' (hA.up hw) hr (by omega) (by omega)) ?_) | (refine callE (fun w' hw => at_spec A c l 8 5 w' (hA.up hw) hr (by omega) (by omega)) ?_) | (apply Stp_call (h := fun w' hw _ => pair17_spec A c l 7 f1 (f1 + atB l 6 12) (save17 l) w' (hA.up hw) hr (by omega) (by omega)); rfl; rintro v O' ⟨k1, rfl, rfl⟩) | (apply Stp_append; rfl; rfl; (intro A' c'; (focus repeat' constructor)); (intro w' _ hO; exact blkRaw (hO.of (by repeat' constructor))); (rw [flat_len DRule.len, pairB_len]); exact all_flat oneR _; (simp only [maxLen]; omega); omega; intro A' c' hc1 hc2 hc3) | (refine bx ?_; intro bk))) | refine walk ?_)
   rw [e]
   exact ⟨rfl, A', c', n1 + 2, x1 ++ _, ⟨by rw [List.length_append, pairB_len, hn1], by rw [List.flatMap_append, hx1]⟩, SFA, SOA⟩
  have e : m2 l o1 f1 = (o1, f1) := by rw [m2, if_neg (by simpa using h)]
  repeat (first | (refine js ?_; (refine bx ?_; intro bk)) | refine walk ?_)
  rw [e]
  exact ⟨rfl, A1, c1, n1, x1, ⟨hn1, hx1⟩, SFA, SOA⟩
 rintro fr' O' ⟨A2, c2, n2, x2, ⟨hn2, hx2⟩, hf, hO⟩
 apply thenQ_n
 refine W_sub hf hO ?_
 clear hf hO fr' O'
 generalize m2 l o1 f1 = g2 at *
 obtain ⟨o2, f2⟩ := g2
 dsimp only at *
 repeat (first | (refine js ?_; (first | (refine callE (fun w' hw => at_spec A c l 9 6 w' (hA.up hw) hr (by omega) (by omega)) ?_) | (refine callE (fun w' hw => at_spec A c l 10 3 w' (hA.up hw) hr (by omega) (by omega)) ?_) | (refine bx ?_; intro bk))) | refine walk ?_)
 refine W_post (fun fr' O' => Sub [(0, .slice A l.length c), (1, .string x), (5, .int .i64 (save17 l)), (6, .int .i64 f2), (7, .slice A2 n2 c2), (9, .int .i64 (to17 l f2))] fr' ∧ SubO [.row (.slice A2 n2 c2) 39 11 n2 x2] O') ?_ ?_
 ·refine W_cond rfl (fun h => ?_) (fun h => ?_)
  ·have e : to17 l f2 = 1048576 := by rw [to17, if_pos (by simpa using h)]
   repeat (first | (refine js ?_; (refine bx ?_; intro bk)) | refine walk ?_)
   rw [e]
   exact ⟨rfl, SFA, SOA⟩
  have e : to17 l f2 = f2 + atB l 9 6 := by rw [to17, if_neg (by simpa using h)]
  repeat (first | (refine js ?_; (refine bx ?_; intro bk)) | refine walk ?_)
  rw [e]
  exact ⟨rfl, SFA, SOA⟩
 rintro fr' O' ⟨hf, hO⟩
 apply thenQ_n
 refine W_sub hf hO ?_
 clear hf hO fr' O'
 repeat (first | (refine js ?_; (first | (apply Stp_call (h := fun w' hw _ => pair17_spec A c l 11 f2 (to17 l f2) (save17 l) w' (hA.up hw) hr (by omega) (by omega)); rfl; rintro v O' ⟨k1, rfl, rfl⟩) | (apply Stp_append; rfl; rfl; (intro A' c'; (focus repeat' constructor)); (intro w' _ hO; exact blkRaw (hO.of (by repeat' constructor))); (rw [flat_len DRule.len, pairB_len]); exact all_flat oneR _; (simp only [maxLen]; omega); omega; intro A' c' hc1 hc2 hc3) | (refine bx ?_; intro bk))) | refine walk ?_)
 obtain ⟨o3, ho3⟩ : ∃ o3, m3 l o2 f2 = o3 := ⟨_, rfl⟩
 have hx3 : x2 ++ (pairB l 11 f2 (to17 l f2) (save17 l)).flatMap DRule.enc = o3.flatMap DRule.enc := by rw [← ho3, m3, List.flatMap_append, hx2]
 have hn3 : n2 + 2 = o3.length := by rw [← ho3, m3, List.length_append, pairB_len, hn2]
 have hn5 : o3.length ≤ 5 := by omega
 rw [ho3, hx3, hn3]
 have hAn : A' ≠ none := hc3 (by omega)
 refine W_loopF [(1, .string x), (7, .slice A' o3.length c'), (70, .int .i64 o3.length)] [] (fun k : Nat => [(71, .int .i64 k)]) (fun k => [.row (.slice A' o3.length c') 39 11 o3.length (((o3.take k).map (nameR x) ++ o3.drop k).flatMap DRule.enc)]) (fun k => k ≤ o3.length) (fun k => o3.length - k) 0 SFA SOA (Nat.zero_le _) ?_
 intro k hk
 repeat (first | (refine js ?_; (refine bx ?_; intro bk)) | refine walk ?_)
 refine W_cond rfl (fun h => ?_) (fun h => ?_)
 ·have hk2 : k < o3.length := by simpa using h
  have hll : (((o3.take k).map (nameR x) ++ o3.drop k).flatMap DRule.enc).length = o3.length * 11 := by
   rw [flat_len DRule.len, List.length_append, List.length_map, List.length_take, List.length_drop, Nat.min_eq_left hk]
   congr 1; omega
  repeat (first | (apply RL_pu; rfl; (first | (apply Pu_indexAddr; rfl; rfl; omega; omega; exact hAn) | (apply Pu_fieldAddrA; rfl))) | (refine js ?_; (first | (apply Stp_storeR; rfl; rfl; (focus repeat' constructor); rfl; rfl; rfl; (rw [hll]; omega); decide; exact named_step x o3 k _ (List.getElem?_eq_getElem hk2)) | (refine bx ?_; intro bk))) | refine walk1 ?_)
  exact ⟨k + 1, OA, OA, SFA, SOA⟩
 have hk2 : k = o3.length := by simp only [decide_eq_false_iff_not] at h; omega
 subst hk2
 repeat (first | (refine js ?_; (refine bx ?_; intro bk)) | refine walk ?_)
 have e : (o3.take o3.length).map (nameR x) ++ o3.drop o3.length = o3.map (nameR x) := by rw [List.take_length, List.drop_length, List.append_nil]
 rw [e]
 refine ret_1 _ [.row (.slice A' (o3.map (nameR x)).length c') 39 11 (o3.map (nameR x)).length ((o3.map (nameR x)).flatMap DRule.enc)] (.tmp (v := .slice A' (o3.map (nameR x)).length c') (by rw [List.length_map]; rfl)) (by rw [List.length_map]; exact SOA) ⟨A', c', rfl, rfl⟩
end Go.Proofs.YtbjkhnlnedfceaaGreatDoor
namespace Go.Proofs.YtbjkhnlnedfceaaGreatDoor
open Go Go.RowKit Go.Wk
attribute [local irreducible] W RL Does thenQ blockQ retQ Calls Pu Stp RD Qy Ay DoesIn
def exR1 : DRule := ⟨⟨#[82]⟩, 1990, 1048576, 3, ⟨2, 0, 0⟩, ⟨7200, 0⟩, 3600, ByteArray.empty⟩
def exR2 : DRule := ⟨⟨#[82]⟩, 1990, 1048576, 10, ⟨2, 0, 0⟩, ⟨10800, 0⟩, 0, ByteArray.empty⟩
def exE1 : DEra := ⟨3600, 0, 0, ByteArray.empty, ⟨#[76, 77, 84]⟩, ⟨true, 1980, 1, ⟨1, 0, 1⟩, ⟨0, 0⟩⟩⟩
def exE2 : DEra := ⟨3600, 2, 0, ⟨#[82]⟩, ⟨#[67, 69, 84, 47, 67, 69, 83, 84]⟩, ⟨false, 0, 0, ⟨0, 0, 0⟩, ⟨0, 0⟩⟩⟩
def ExR (v : Value) (O : List It) : Prop := ∃ br be bz, v = .agg #[.slice (some ⟨br, 0, none⟩) 2 2, .slice (some ⟨bz, 0, none⟩) 1 1, .slice none 0 0, .slice none 0 0] ∧
 O = [.blk bz [.string ⟨#[90]⟩, .slice (some ⟨be, 0, none⟩) 2 2] 43, .blk be (exE1.enc ++ exE2.enc) 48, .blk br (exR1.enc ++ exR2.enc) 39]
theorem exam25_spec (w : World) : Does Tryz.prog 38 [] w ExR := by
 refine Does_of_W Tryz.func38 rfl rfl rfl rfl ?_
 repeat (first | (refine js ?_; (refine bx ?_; intro bk)) | refine walk ?_)
 rename_i br be
 exact ret_1 _ [.blk bk [.string ⟨#[90]⟩, .slice (some ⟨be, 0, none⟩) 2 2] 43, .blk be (exE1.enc ++ exE2.enc) 48, .blk br (exR1.enc ++ exR2.enc) 39] (.cellB rfl (by repeat' constructor) rfl rfl) SOA ⟨br, be, bk, rfl, rfl⟩
end Go.Proofs.YtbjkhnlnedfceaaGreatDoor
namespace Go.Proofs.YtbjkhnlnedfceaaGreatDoor
open Go Go.RowKit Go.Wk
attribute [local irreducible] W RL Does thenQ blockQ retQ Calls Pu Stp RD Qy Ay
theorem wkKeepEq0 {G G' : Prop} (k : G') (h : Hold G' → G := by intro k9; (first | refine walk ?_ | (refine jn ?_; (try intro F); (apply Stp_pu; exact PuA); refine fin ?_)); exact k9.out) : G := h ⟨k⟩
theorem wkKeepEq1 {G G' : Prop} (k : G') (h : Hold G' → G := by intro k9; (first | (apply RL_pu; rfl; exact PuI) | (apply RD_Q; rfl; rfl; decide +kernel; rfl; rfl; exact QyI) | refine walk1 ?_ | (refine jn ?_; (try intro F); (apply Stp_pu; first | exact PuI | exact PuA); first | refine ⟨_, EndsA, QFI, ?_⟩ | refine fin ?_)); exact k9.out) : G := h ⟨k⟩
theorem equalS_spec (A B : Option Addr) (ca cb : Nat) (x y : List ByteArray) (w : World) (hA : RdSl w A ca strEnc 1 x) (hB : RdSl w B cb strEnc 1 y) :
  Does Tryz.prog 71 [.slice A x.length ca, .slice B y.length cb] w (fun v O => v = .bool (decide (x = y)) ∧ O = []) := by
 have hs1 := hA.le
 have hs2 := hA.cap
 unfold maxLen at hs2
 generalize hres : decide (x = y) = res
 refine Does_of_W Tryz.func71 rfl rfl rfl rfl ?_
 repeat refine wkKeepEq0 ?_
 refine W_cond rfl (fun h1 => ?_) (fun h1 => ?_)
 ·repeat refine wkKeepEq0 ?_
  exact ret_1 _ [] (.tmp rfl) .nil ⟨by rw [← hres, dec_len]; simp at h1; omega, rfl⟩
 have hlen : x.length = y.length := by simp at h1; omega
 clear h1
 repeat refine wkKeepEq0 ?_
 refine W_loopF [(0, _), (1, _), (4, _), (12, _)] _ (fun k : Nat => [(13, .int .i64 k)]) (fun _ => []) (fun k => k ≤ x.length ∧ decide (x.drop k = y.drop k) = res) (fun k => x.length - k) 0 ⟨rfl, rfl, rfl, rfl, rfl, trivial⟩ (.refl _) ⟨by omega, hres⟩ ?_
 rintro k ⟨hk, hi⟩
 repeat refine wkKeepEq0 ?_
 refine W_cond rfl (fun hc => ?_) (fun hc => ?_)
 ·simp only [decide_eq_true_eq, Int.ofNat_lt] at hc
  have hcy : k < y.length := by omega
  obtain ⟨hna, hca⟩ := hA.rd k _ (List.getElem?_eq_getElem hc)
  obtain ⟨hnb, hcb⟩ := hB.rd k _ (List.getElem?_eq_getElem hcy)
  rw [drop_cons hc, drop_cons hcy, dec_cons] at hi
  generalize x[k] = p at *
  generalize y[k] = q at *
  repeat refine wkKeepEq1 ?_
  refine W_cond rfl (fun h3 => ?_) (fun h3 => ?_)
  ·repeat refine wkKeepEq0 ?_
   exact ret_1 _ [] (.tmp rfl) .nil ⟨by simp at h3; simp [← hi, h3], rfl⟩
  repeat refine wkKeepEq0 ?_
  simp at h3
  exact ⟨k + 1, by omega, ⟨by omega, by rw [← hi]; simp [h3]⟩, SFA, SOA⟩
 simp only [decide_eq_false_iff_not, Int.ofNat_lt] at hc
 repeat refine wkKeepEq0 ?_
 exact ret_1 _ [] (.tmp rfl) .nil ⟨by rw [← hi, dec_nil (by omega) (by omega)], rfl⟩
theorem equalE_spec (A B : Option Addr) (ca cb : Nat) (x y : List DEra) (w : World) (hA : RdSl w A ca DEra.enc 13 x) (hB : RdSl w B cb DEra.enc 13 y) :
  Does Tryz.prog 30 [.slice A x.length ca, .slice B y.length cb] w (fun v O => v = .bool (decide (x = y)) ∧ O = []) := by
 have hs1 := hA.le
 have hs2 := hA.cap
 unfold maxLen at hs2
 generalize hres : decide (x = y) = res
 refine Does_of_W Tryz.func30 rfl rfl rfl rfl ?_
 repeat refine wkKeepEq0 ?_
 refine W_cond rfl (fun h1 => ?_) (fun h1 => ?_)
 ·repeat refine wkKeepEq0 ?_
  exact ret_1 _ [] (.tmp rfl) .nil ⟨by rw [← hres, dec_len]; simp at h1; omega, rfl⟩
 have hlen : x.length = y.length := by simp at h1; omega
 clear h1
 repeat refine wkKeepEq0 ?_
 refine W_loopF [(0, _), (1, _), (4, _), (12, _)] _ (fun k : Nat => [(13, .int .i64 k)]) (fun _ => []) (fun k => k ≤ x.length ∧ decide (x.drop k = y.drop k) = res) (fun k => x.length - k) 0 ⟨rfl, rfl, rfl, rfl, rfl, trivial⟩ (.refl _) ⟨by omega, hres⟩ ?_
 rintro k ⟨hk, hi⟩
 repeat refine wkKeepEq0 ?_
 refine W_cond rfl (fun hc => ?_) (fun hc => ?_)
 ·simp only [decide_eq_true_eq, Int.ofNat_lt] at hc
  have hcy : k < y.length := by omega
  obtain ⟨hna, hca⟩ := hA.rd k _ (List.getElem?_eq_getElem hc)
  obtain ⟨hnb, hcb⟩ := hB.rd k _ (List.getElem?_eq_getElem hcy)
  rw [drop_cons hc, drop_cons hcy, dec_cons] at hi
  generalize x[k] = p at *
  generalize y[k] = q at *
  repeat refine wkKeepEq1 ?_
  refine W_cond rfl (fun h3 => ?_) (fun h3 => ?_)
  ·repeat refine wkKeepEq0 ?_
   exact ret_1 _ [] (.tmp rfl) .nil ⟨by simp at h3; simp [← hi, h3], rfl⟩
  repeat refine wkKeepEq0 ?_
  simp at h3
  exact ⟨k + 1, by omega, ⟨by omega, by rw [← hi]; simp [h3]⟩, SFA, SOA⟩
 simp only [decide_eq_false_iff_not, Int.ofNat_lt] at hc
 repeat refine wkKeepEq0 ?_
 exact ret_1 _ [] (.tmp rfl) .nil ⟨by rw [← hi, dec_nil (by omega) (by omega)], rfl⟩
theorem equalL_spec (A B : Option Addr) (ca cb : Nat) (x y : List DLink) (w : World) (hA : RdSl w A ca DLink.enc 2 x) (hB : RdSl w B cb DLink.enc 2 y) :
  Does Tryz.prog 114 [.slice A x.length ca, .slice B y.length cb] w (fun v O => v = .bool (decide (x = y)) ∧ O = []) := by
 have hs1 := hA.le
 have hs2 := hA.cap
 unfold maxLen at hs2
 generalize hres : decide (x = y) = res
 refine Does_of_W Tryz.func114 rfl rfl rfl rfl ?_
 repeat refine wkKeepEq0 ?_
 refine W_cond rfl (fun h1 => ?_) (fun h1 => ?_)
 ·repeat refine wkKeepEq0 ?_
  exact ret_1 _ [] (.tmp rfl) .nil ⟨by rw [← hres, dec_len]; simp at h1; omega, rfl⟩
 have hlen : x.length = y.length := by simp at h1; omega
 clear h1
 repeat refine wkKeepEq0 ?_
 refine W_loopF [(0, _), (1, _), (4, _), (12, _)] _ (fun k : Nat => [(13, .int .i64 k)]) (fun _ => []) (fun k => k ≤ x.length ∧ decide (x.drop k = y.drop k) = res) (fun k => x.length - k) 0 ⟨rfl, rfl, rfl, rfl, rfl, trivial⟩ (.refl _) ⟨by omega, hres⟩ ?_
 rintro k ⟨hk, hi⟩
 repeat refine wkKeepEq0 ?_
 refine W_cond rfl (fun hc => ?_) (fun hc => ?_)
 ·simp only [decide_eq_true_eq, Int.ofNat_lt] at hc
  have hcy : k < y.length := by omega
  obtain ⟨hna, hca⟩ := hA.rd k _ (List.getElem?_eq_getElem hc)
  obtain ⟨hnb, hcb⟩ := hB.rd k _ (List.getElem?_eq_getElem hcy)
  rw [drop_cons hc, drop_cons hcy, dec_cons] at hi
  generalize x[k] = p at *
  generalize y[k] = q at *
  repeat refine wkKeepEq1 ?_
  refine W_cond rfl (fun h3 => ?_) (fun h3 => ?_)
  ·repeat refine wkKeepEq0 ?_
   exact ret_1 _ [] (.tmp rfl) .nil ⟨by simp at h3; simp [← hi, h3], rfl⟩
  repeat refine wkKeepEq0 ?_
  simp at h3
  exact ⟨k + 1, by omega, ⟨by omega, by rw [← hi]; simp [h3]⟩, SFA, SOA⟩
 simp only [decide_eq_false_iff_not, Int.ofNat_lt] at hc
 repeat refine wkKeepEq0 ?_
 exact ret_1 _ [] (.tmp rfl) .nil ⟨by rw [← hi, dec_nil (by omega) (by omega)], rfl⟩
end Go.Proofs.YtbjkhnlnedfceaaGreatDoor
namespace Go.Proofs.YtbjkhnlnedfceaaGreatDoor
open Go Go.RowKit Go.Wk
attribute [local irreducible] W RL Does thenQ blockQ retQ Calls Pu Stp RD Qy Ay DoesIn
theorem wkEqI0 {G G' : Prop} (k : G') (h : Hold G' → G := by intro k9; (first | refine walk ?_ | (refine jn ?_; (try intro F); (apply Stp_pu; exact PuA); refine fin ?_)); exact k9.out) : G := h ⟨k⟩
theorem equalI_spec (A B : Option Addr) (ca cb : Nat) (x y : List Int) (w : World) (hA : RdSl w A ca iEnc 1 x) (hB : RdSl w B cb iEnc 1 y) :
  Does Tryz.prog 13 [.slice A x.length ca, .slice B y.length cb] w (fun v O => v = .bool (decide (x = y)) ∧ O = []) := by
 have hs1 := hA.le
 have hs2 := hA.cap
 unfold maxLen at hs2
 generalize hres : decide (x = y) = res
 refine Does_of_W Tryz.func13 rfl rfl rfl rfl ?_
 repeat refine wkEqI0 ?_
 refine W_cond rfl (fun h1 => ?_) (fun h1 => ?_)
 ·repeat refine wkEqI0 ?_
  exact ret_1 _ [] (.tmp rfl) .nil ⟨by rw [← hres, dec_len]; simp at h1; omega, rfl⟩
 have hlen : x.length = y.length := by simp at h1; omega
 clear h1
 repeat refine wkEqI0 ?_
 refine W_loopF [(0, _), (1, _), (4, _), (12, _)] _ (fun k : Nat => [(13, .int .i64 k)]) (fun _ => []) (fun k => k ≤ x.length ∧ decide (x.drop k = y.drop k) = res) (fun k => x.length - k) 0 ⟨rfl, rfl, rfl, rfl, rfl, trivial⟩ (.refl _) ⟨by omega, hres⟩ ?_
 rintro k ⟨hk, hi⟩
 repeat refine wkEqI0 ?_
 refine W_cond rfl (fun hc => ?_) (fun hc => ?_)
 ·simp only [decide_eq_true_eq, Int.ofNat_lt] at hc
  have hcy : k < y.length := by omega
  obtain ⟨hna, hca⟩ := hA.rd k _ (List.getElem?_eq_getElem hc)
  obtain ⟨hnb, hcb⟩ := hB.rd k _ (List.getElem?_eq_getElem hcy)
  rw [drop_cons hc, drop_cons hcy, dec_cons] at hi
  generalize x[k] = p at *
  generalize y[k] = q at *
  repeat (first | (apply RL_pu; rfl; exact PuI) | (apply RD_Q; rfl; rfl; decide +kernel; rfl; rfl; exact QyI) | refine walk1 ?_ | (refine jn ?_; (try intro F); (apply Stp_pu; first | exact PuI | exact PuA); first | refine ⟨_, EndsA, QFI, ?_⟩ | refine fin ?_))
  refine W_cond rfl (fun h3 => ?_) (fun h3 => ?_)
  ·repeat refine wkEqI0 ?_
   exact ret_1 _ [] (.tmp rfl) .nil ⟨by simp at h3; simp [← hi, h3], rfl⟩
  repeat refine wkEqI0 ?_
  simp at h3
  exact ⟨k + 1, by omega, ⟨by omega, by rw [← hi]; simp [h3]⟩, SFA, SOA⟩
 simp only [decide_eq_false_iff_not, Int.ofNat_lt] at hc
 repeat refine wkEqI0 ?_
 exact ret_1 _ [] (.tmp rfl) .nil ⟨by rw [← hi, dec_nil (by omega) (by omega)], rfl⟩
end Go.Proofs.YtbjkhnlnedfceaaGreatDoor
namespace Go.Wk
open Go Go.RowKit
section
variable {P : Program} {n : Nat} {wr : World} {fr : Fr} {O : List It} {ty : TypeId} {pos : String} {af : Array Edge} {dst : Option Tmp} {g : Option (Nat × Bool)} {Kp : Value → List It → Prop}
theorem Pu_indexAddrK {t e sz bytes b s j : Nat} {x ix : Operand} {len cap : Nat} {kk : IntKind} {i : Int} [hE : ElemT P t e sz bytes] (hx : ev fr x = some (.slice (some ⟨b, s, none⟩) len cap)) (hi : ev fr ix = some (.int kk i))
  (h0 : 0 ≤ i) (h1 : i < len) (hj : s + i.toNat * sz = j) : Pu P n wr fr O (.indexAddr t x ix) ty (.pointer (some ⟨b, j, none⟩)) := by
 have := Pu_indexAddr (P := P) (n := n) (wr := wr) (O := O) (ty := ty) (t := t) (e := e) (sz := sz) (bytes := bytes) hx hi h0 h1 (by simp)
 have he : (adr (some ⟨b, s, none⟩)).add (i.toNat * sz) = ⟨b, j, none⟩ := by
  show (⟨b, s, none⟩ : Addr).add (i.toNat * sz) = _
  rw [add_mk, hj]
 rwa [he] at this
end
theorem RdSl.pre {α : Type} {w : World} {A : Option Addr} {c sz : Nat} {enc : α → List Value} {x y : List α} (h : RdSl w A c enc sz (x ++ y)) : RdSl w A c enc sz x :=
 ⟨by have := h.le; rw [List.length_append] at this; omega, h.cap, fun k v hv => h.rd k v (by
  have hk := (List.getElem?_eq_some_iff.1 hv).1
  rw [List.getElem?_append_left hk]; exact hv)⟩
theorem Pu_sliceHE {P : Program} {n : Nat} {wr : World} {fr : Fr} {O : List It} {ty : TypeId} {t e sz bytes m : Nat} {x y : Operand} {A : Option Addr} {len cap : Nat} {h : Int} [hE : ElemZ P t e sz bytes] (hx : ev fr x = some (.slice A len cap)) (hy : ev fr y = some (.int .i64 h)) (h0 : 0 ≤ h) (h1 : h ≤ cap) (hm : h.toNat = m) :
  Pu P n wr fr O (.slice t x none (some y) none) ty (.slice A m cap) := hm ▸ Pu_sliceH hx hy h0 h1
end Go.Wk
