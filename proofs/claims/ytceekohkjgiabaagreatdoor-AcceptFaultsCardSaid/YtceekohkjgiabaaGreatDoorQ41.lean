/- Contracts: the reference of layer 25: kind, nominal. -/
import Derived.Test.YtceekohkjgiabaaGreatDoorQ35
import Derived.Test.YtceekohkjgiabaaGreatDoorQ40
import Derived.Test.YtceekohkjgiabaaGreatDoorQ22
import Derived.Test.YtceekohkjgiabaaGreatDoorQ25
set_option maxHeartbeats 4000000
set_option linter.unusedVariables false
set_option linter.unusedSimpArgs false
namespace Go.Proofs.YtceekohkjgiabaaGreatDoor
open Go Go.RowKit Go.Wk
attribute [local irreducible] W RL Does thenQ blockQ retQ Calls Pu Stp RD Qy Ay DoesIn
def restE (e : DEra) (R : List DRule) : Int := if unusedB e then 2 else fmtChk e R
theorem any_or (off : Int) (S : List (Int × ByteArray)) (hS : S ≠ []) : (hoursB off 0 = false ∨ (S.any fun x => !hoursB off x.1) = true) ↔ (S.any fun x => !inO off || !inO (off + x.1)) = true := by
 have h0 : hoursB off 0 = inO off := by unfold hoursB inO; rw [Int.add_zero]
 rw [h0]
 cases h : inO off with
 | true => simp [hoursB, inO]
 | false =>
  cases S with
  | nil => exact absurd rfl hS
  | cons x l => simp
theorem statesOf_ne {rs : List DRule} {e : DEra} (h : ¬ (e.kind = 2 ∧ setOf rs e = [])) : statesOf rs e ≠ [] := by
 unfold statesOf
 split
 ·simp
 ·split
  ·rename_i hk
   intro hm
   exact h ⟨hk, List.map_eq_nil_iff.1 hm⟩
  ·simp
theorem PuRfT0 {G : Prop} (h : G := by (first | (apply Pu_lssB; rfl; rfl; first | exact b1 | exact s1) | (apply Pu_gtrB; rfl; rfl; first | exact b2 | exact s2) | (apply Pu_eqlB; rfl; rfl; first | exact k0 | exact r0))) : G := h
theorem QyRfT0 {G : Prop} (h : G := by first | (apply Qy_y; rfl; exact PuRfT0) | exact QyA) : G := h
theorem QFRfT0 {G : Prop} (h : G := by repeat (first | exact QF.nil | (apply QF.mk; rfl; rfl; decide +kernel; exact QyRfT0))) : G := h
theorem wkRfT0 {G G' : Prop} (k : G') (h : Hold G' → G := by intro k9; (first | refine und ?_ | (apply RL_pu; rfl; exact PuRfT0) | (apply RD_Q; rfl; rfl; decide +kernel; rfl; rfl; exact QyRfT0) | refine walk1 ?_ | (refine jg ?_; (try intro F); (refine stA ?_); first | refine ⟨_, EndsA, QFRfT0, ?_⟩ | refine fin ?_) | (refine jn ?_; (try intro F); (first | (refine stA ?_) | (apply Stp_pu; first | exact PuRfT0 | exact PuA)); first | refine ⟨_, EndsA, QFRfT0, ?_⟩ | refine fin ?_)); exact k9.out) : G := h ⟨k⟩
theorem PuRfT1 {G : Prop} (h : G := by (first | exact PuRfT0 | (apply Pu_eqlB; rfl; rfl; exact hf2))) : G := h
theorem QyRfT1 {G : Prop} (h : G := by first | (apply Qy_y; rfl; exact PuRfT1) | exact QyA) : G := h
theorem QFRfT1 {G : Prop} (h : G := by repeat (first | exact QF.nil | (apply QF.mk; rfl; rfl; decide +kernel; exact QyRfT1))) : G := h
theorem PuRfT2 {G : Prop} (h : G := by (first | exact PuRfT0 | (apply Pu_eqlB; rfl; rfl; exact hq2))) : G := h
theorem QyRfT2 {G : Prop} (h : G := by first | (apply Qy_y; rfl; exact PuRfT2) | exact QyA) : G := h
theorem QFRfT2 {G : Prop} (h : G := by repeat (first | exact QF.nil | (apply QF.mk; rfl; rfl; decide +kernel; exact QyRfT2))) : G := h
theorem PuRfT3 {G : Prop} (h : G := by (apply Pu_eqlB; rfl; rfl; first | exact r0 | exact hq2)) : G := h
theorem QyRfT3 {G : Prop} (h : G := by first | (apply Qy_y; rfl; exact PuRfT3) | exact QyA) : G := h
theorem QFRfT3 {G : Prop} (h : G := by repeat (first | exact QF.nil | (apply QF.mk; rfl; rfl; decide +kernel; exact QyRfT3))) : G := h
theorem PuRfT4 {G : Prop} (h : G := by (first | exact PuRfT0 | (apply Pu_eqlB; rfl; rfl; exact hq1))) : G := h
theorem QyRfT4 {G : Prop} (h : G := by first | (apply Qy_y; rfl; exact PuRfT4) | exact QyA) : G := h
theorem QFRfT4 {G : Prop} (h : G := by repeat (first | exact QF.nil | (apply QF.mk; rfl; rfl; decide +kernel; exact QyRfT4))) : G := h
theorem PuRfT5 {G : Prop} (h : G := by (first | (apply Pu_indexAddrH; rfl; rfl; omega; omega; (intro w' _ hO; exact (row_cell (hO.of (A := .row (.slice A5 S.length c5) 121 2 S.length (S.flatMap stEnc)) (by repeat' constructor)) hg1).1)) | (apply Pu_loadRF; rfl; (focus repeat' constructor); exact hgx) | (apply Pu_loadR; rfl; (focus repeat' constructor); exact hgx))) : G := h
theorem QyRfT5 {G : Prop} (h : G := by first | (apply Qy_y; rfl; exact PuRfT5) | exact QyA) : G := h
theorem QFRfT5 {G : Prop} (h : G := by repeat (first | exact QF.nil | (apply QF.mk; rfl; rfl; decide +kernel; exact QyRfT5))) : G := h
theorem PuRfT6 {G : Prop} (h : G := by (first | (apply Pu_neqB'; rfl; rfl; first | exact un1 | exact un2 | exact u1) | (apply Pu_neqSB; rfl; rfl; exact u4) | (apply Pu_neqEB (i := (⟨false, year, month, ⟨dk, dw, dd⟩, ⟨us, ub⟩⟩ : DUntil)) (j := dU0) (enc := DUntil.enc); rfl; rfl; exact u5))) : G := h
theorem QyRfT6 {G : Prop} (h : G := by first | (apply Qy_y; rfl; exact PuRfT6) | exact QyA) : G := h
theorem QFRfT6 {G : Prop} (h : G := by repeat (first | exact QF.nil | (apply QF.mk; rfl; rfl; decide +kernel; exact QyRfT6))) : G := h
set_option maxHeartbeats 4000000 in
theorem rkind25_spec (Ar Az Al As : Option Addr) (cr cz cl cs : Nat) (a : DSource) (e : DEra) (i : Nat) (w : World) (hA : RdSource w Ar Az Al As cr cz cl cs a) (hS : SrcOk a) (hV : SavOk a) (hE : EraOk e) :
  Does Tryz.prog 65 [srcV Ar Az Al As cr cz cl cs a, .agg e.enc.toArray, .int .i64 i] w (fun v O => v = .int .i64 (eraChk a.rules e (decide (i = 0))) ∧ O = []) := by
 have hn := hS.nr
 have hst := fun w' (hw : Bel w.heap.size w w') => rset25_spec Ar Az Al As cr cz cl cs a e w' (hA.up hw) hn
 have hss := fun w' (hw : Bel w.heap.size w w') => rstates_spec Ar Az Al As cr cz cl cs a e w' (hA.up hw) hn
 have hRs : ∀ r ∈ setOf a.rules e, r ∈ a.rules := fun r h => setOf_sub h
 have hRl := setOf_len a.rules e
 have hSl := statesOf_len a.rules e
 have hSv : e.kind = 2 ∨ e.kind = 0 ∨ (e.kind = 1 ∧ ¬ (e.save < 1 ∨ 10800 < e.save)) → ∀ x ∈ statesOf a.rules e, -4611686018427387904 ≤ x.1 ∧ x.1 ≤ 4611686018427387904 := by
  intro hk x hx
  unfold statesOf at hx
  split at hx
  ·simp only [List.mem_singleton] at hx; subst hx; dsimp only; omega
  ·split at hx
   ·obtain ⟨r, h, rfl⟩ := List.mem_map.1 hx
    exact (hV r (setOf_sub h)).1
   ·simp only [List.mem_singleton] at hx; subst hx; dsimp only; omega
 have hfc := fun A3 c3 w' (hw : Bel w.heap.size w w') h => r21chk_spec e A3 c3 (setOf a.rules e) w' h hE.off hE.save (fun r hr => hV.i64 r (hRs r hr)) (by omega) hE.fmt (fun r hr => (hS.rs r (hRs r hr)).2)
 have hne := @statesOf_ne a.rules e
 unfold eraChk
 have ho := hE.off
 have hin := fun w' => rin25_spec e.off w'
 rw [show (if unusedB e then (2 : Int) else fmtChk e (setOf a.rules e)) = restE e (setOf a.rules e) from rfl]
 rw [show restE e (setOf a.rules e) = restE e (setOf a.rules e) from rfl]
 have hany := any_or e.off (statesOf a.rules e)
 have hrest : restE e (setOf a.rules e) = if unusedB e then 2 else fmtChk e (setOf a.rules e) := rfl
 unfold unusedB at hrest
 generalize restE e (setOf a.rules e) = RE at *
 generalize fmtChk e (setOf a.rules e) = fc at *
 generalize setOf a.rules e = R at *
 generalize statesOf a.rules e = S at *
 obtain ⟨off, kind, save, set, format, ⟨is, year, month, ⟨dk, dw, dd⟩, ⟨us, ub⟩⟩⟩ := e
 dsimp only at hst hss hSv hfc hne ho hin hany hrest ⊢
 simp only [DEra.enc] at hst hss hfc ⊢
 clear hE hRs
 obtain ⟨fi, hfi⟩ : ∃ fi, decide (i = 0) = fi := ⟨_, rfl⟩
 have k0 : decide ((i : Int) = 0) = fi := by rw [← hfi, decide_eq_decide]; omega
 rw [hfi]
 refine Does_of_W Tryz.func65 rfl rfl rfl rfl ?_
 by_cases c1 : kind < 0
 ·have b1 : decide (kind < 0) = true := decide_eq_true c1
  rw [if_pos (.inl c1)]
  repeat (first | refine wkRfT0 ?_ | (refine jg ?_; (try intro F); (first | (apply Stp_call (h := fun w' hw _ => hst w' hw); rfl; rintro v O' ⟨A3, c3, rfl, rfl⟩) | (apply Stp_call (h := fun w' hw _ => hss w' hw); rfl; rintro v O' ⟨A5, c5, rfl, rfl⟩) | (refine bx ?_; intro bk)); first | refine ⟨_, EndsA, QFRfT0, ?_⟩ | refine fin ?_) | (refine jn ?_; (try intro F); (refine bx ?_; intro bk); first | refine ⟨_, EndsA, QFRfT0, ?_⟩ | refine fin ?_) | (apply RD_W; rfl; intro bk))
  exact rtA
 have b1 : decide (kind < 0) = false := decide_eq_false c1
 by_cases c2 : 2 < kind
 ·have b2 : decide (2 < kind) = true := decide_eq_true c2
  rw [if_pos (.inr c2)]
  repeat (first | refine wkRfT0 ?_ | (refine jg ?_; (try intro F); (first | (apply Stp_call (h := fun w' hw _ => hst w' hw); rfl; rintro v O' ⟨A3, c3, rfl, rfl⟩) | (apply Stp_call (h := fun w' hw _ => hss w' hw); rfl; rintro v O' ⟨A5, c5, rfl, rfl⟩) | (refine bx ?_; intro bk)); first | refine ⟨_, EndsA, QFRfT0, ?_⟩ | refine fin ?_) | (refine jn ?_; (try intro F); (refine bx ?_; intro bk); first | refine ⟨_, EndsA, QFRfT0, ?_⟩ | refine fin ?_) | (apply RD_W; rfl; intro bk))
  exact rtA
 have b2 : decide (2 < kind) = false := decide_eq_false c2
 rw [if_neg (by omega)]
 by_cases c3 : fi = true ∧ kind = 2
 ·rw [if_pos c3]
  obtain ⟨rfl, rfl⟩ := c3
  repeat (first | refine wkRfT0 ?_ | (refine jg ?_; (try intro F); (first | (apply Stp_call (h := fun w' hw _ => hst w' hw); rfl; rintro v O' ⟨A3, c3, rfl, rfl⟩) | (apply Stp_call (h := fun w' hw _ => hss w' hw); rfl; rintro v O' ⟨A5, c5, rfl, rfl⟩) | (refine bx ?_; intro bk)); first | refine ⟨_, EndsA, QFRfT0, ?_⟩ | refine fin ?_) | (refine jn ?_; (try intro F); (refine bx ?_; intro bk); first | refine ⟨_, EndsA, QFRfT0, ?_⟩ | refine fin ?_) | (apply RD_W; rfl; intro bk))
  exact rtA
 rw [if_neg c3]
 by_cases c4 : kind = 2 ∧ R = []
 ·rw [if_pos c4]
  obtain ⟨rfl, hR⟩ := c4
  have r0 : decide ((R.length : Int) = 0) = true := by rw [hR]; rfl
  have hfi2 : fi = false := by cases fi with | false => rfl | true => exact absurd ⟨rfl, rfl⟩ c3
  subst hfi2
  repeat (first | refine wkRfT0 ?_ | (refine jg ?_; (try intro F); (first | (apply Stp_call (h := fun w' hw _ => hst w' hw); rfl; rintro v O' ⟨A3, c3, rfl, rfl⟩) | (apply Stp_call (h := fun w' hw _ => hss w' hw); rfl; rintro v O' ⟨A5, c5, rfl, rfl⟩) | (refine bx ?_; intro bk)); first | refine ⟨_, EndsA, QFRfT0, ?_⟩ | refine fin ?_) | (refine jn ?_; (try intro F); (refine bx ?_; intro bk); first | refine ⟨_, EndsA, QFRfT0, ?_⟩ | refine fin ?_) | (apply RD_W; rfl; intro bk))
  exact rtA
 rw [if_neg c4]
 by_cases c5 : kind = 1 ∧ (save < 1 ∨ 10800 < save)
 ·rw [if_pos c5]
  obtain ⟨rfl, hs⟩ := c5
  by_cases d1 : save < 1
  ·have s1 : decide (save < 1) = true := decide_eq_true d1
   cases fi
   all_goals
    repeat (first | refine wkRfT0 ?_ | (refine jg ?_; (try intro F); (first | (apply Stp_call (h := fun w' hw _ => hst w' hw); rfl; rintro v O' ⟨A3, c3, rfl, rfl⟩) | (apply Stp_call (h := fun w' hw _ => hss w' hw); rfl; rintro v O' ⟨A5, c5, rfl, rfl⟩) | (refine bx ?_; intro bk)); first | refine ⟨_, EndsA, QFRfT0, ?_⟩ | refine fin ?_) | (refine jn ?_; (try intro F); (refine bx ?_; intro bk); first | refine ⟨_, EndsA, QFRfT0, ?_⟩ | refine fin ?_) | (apply RD_W; rfl; intro bk))
    exact rtA
  ·have s1 : decide (save < 1) = false := decide_eq_false d1
   have s2 : decide (10800 < save) = true := decide_eq_true (by omega)
   cases fi
   all_goals
    repeat (first | refine wkRfT0 ?_ | (refine jg ?_; (try intro F); (first | (apply Stp_call (h := fun w' hw _ => hst w' hw); rfl; rintro v O' ⟨A3, c3, rfl, rfl⟩) | (apply Stp_call (h := fun w' hw _ => hss w' hw); rfl; rintro v O' ⟨A5, c5, rfl, rfl⟩) | (refine bx ?_; intro bk)); first | refine ⟨_, EndsA, QFRfT0, ?_⟩ | refine fin ?_) | (refine jn ?_; (try intro F); (refine bx ?_; intro bk); first | refine ⟨_, EndsA, QFRfT0, ?_⟩ | refine fin ?_) | (apply RD_W; rfl; intro bk))
    exact rtA
 rw [if_neg c5]
 replace hSv := hSv (by omega)
 replace hany := hany (hne c4)
 obtain ⟨Q, hQ⟩ : ∃ Q, (S.any fun x => !inO off || !inO (off + x.1)) = Q := ⟨_, rfl⟩
 rw [hQ] at hany
 have hthree : (if hoursB off 0 = false ∨ (S.any fun x => !hoursB off x.1) = true then (3 : Int) else RE) = if Q then 3 else RE := by
  by_cases h : Q = true
  ·rw [if_pos (hany.2 h), if_pos h]
  ·rw [if_neg (fun h' => h (hany.1 h')), if_neg h]
 rw [hthree]
 clear hthree hany hne
 obtain ⟨v1, u1⟩ : ∃ v, (!decide (save = 0)) = v := ⟨_, rfl⟩
 obtain ⟨v2, u4⟩ : ∃ v, (!decide (set = (⟨#[]⟩ : ByteArray))) = v := ⟨_, rfl⟩
 obtain ⟨v3, u5⟩ : ∃ v, (!decide ((⟨false, year, month, ⟨dk, dw, dd⟩, ⟨us, ub⟩⟩ : DUntil) = dU0)) = v := ⟨_, rfl⟩
 rw [show (!decide (set = ByteArray.empty)) = v2 from u4] at hrest
 rw [u1, u5] at hrest
 have n3 : ∀ q, decide (kind = 2) = q → q = true → fi = false := fun q h h' => by
  cases fi with
  | false => rfl
  | true => exact absurd ⟨rfl, of_decide_eq_true (h.trans h')⟩ c3
 obtain ⟨q2, hq2⟩ : ∃ q, decide (kind = 2) = q := ⟨_, rfl⟩
 obtain ⟨q1, hq1⟩ : ∃ q, decide (kind = 1) = q := ⟨_, rfl⟩
 have r0 : q2 = true → decide ((R.length : Int) = 0) = false := fun h => decide_eq_false (fun h' => c4 ⟨of_decide_eq_true (hq2.trans h), List.eq_nil_of_length_eq_zero (by omega)⟩)
 have s1 : q1 = true → decide (save < 1) = false := fun h => decide_eq_false (fun h' => c5 ⟨of_decide_eq_true (hq1.trans h), .inl h'⟩)
 have s2 : q1 = true → decide (10800 < save) = false := fun h => decide_eq_false (fun h' => c5 ⟨of_decide_eq_true (hq1.trans h), .inr h'⟩)
 refine W_seq ?_
 refine W_post (fun fr' O' => ∃ b3 b4 : Nat, Sub [(2, .int .i64 i), (3, .pointer (some ⟨b3, 0, none⟩)), (4, .pointer (some ⟨b4, 0, none⟩))] fr' ∧ SubO [.blk b4 [.int .i64 off, .int .i64 kind, .int .i64 save, .string set, .string format, .bool is, .int .i64 year, .int .i64 month, .int .i64 dk, .int .i64 dw, .int .i64 dd, .int .i64 us, .int .i64 ub] 56, .blk b3 [.slice Ar a.rules.length cr, .slice Az a.zones.length cz, .slice Al a.links.length cl, .slice As a.shifts.length cs] 27] O') ?_ ?_
 ·repeat (first | refine walk ?_ | (refine jn ?_; (try intro F); (first | (refine bx ?_; intro bk) | (refine stA ?_) | (apply Stp_pu; exact PuA)); refine fin ?_) | (apply RD_W; rfl; intro bk))
  exact ⟨rfl, _, _, SFA, SOA⟩
 rintro fr' O' ⟨b3, b4, hf, hO⟩
 apply thenQ_n
 refine W_sub hf hO ?_
 clear hf hO fr' O'
 refine W_seq ?_
 refine W_post (fun fr' O' => Sub [(2, .int .i64 i), (3, .pointer (some ⟨b3, 0, none⟩)), (4, .pointer (some ⟨b4, 0, none⟩))] fr' ∧ SubO [.blk b4 [.int .i64 off, .int .i64 kind, .int .i64 save, .string set, .string format, .bool is, .int .i64 year, .int .i64 month, .int .i64 dk, .int .i64 dw, .int .i64 dd, .int .i64 us, .int .i64 ub] 56, .blk b3 [.slice Ar a.rules.length cr, .slice Az a.zones.length cz, .slice Al a.links.length cl, .slice As a.shifts.length cs] 27] O') ?_ ?_
 ·repeat (first | refine wkRfT0 ?_ | (refine jg ?_; (try intro F); (first | (apply Stp_call (h := fun w' hw _ => hst w' hw); rfl; rintro v O' ⟨A3, c3, rfl, rfl⟩) | (apply Stp_call (h := fun w' hw _ => hss w' hw); rfl; rintro v O' ⟨A5, c5, rfl, rfl⟩) | (refine bx ?_; intro bk)); first | refine ⟨_, EndsA, QFRfT0, ?_⟩ | refine fin ?_) | (refine jn ?_; (try intro F); (refine bx ?_; intro bk); first | refine ⟨_, EndsA, QFRfT0, ?_⟩ | refine fin ?_) | (apply RD_W; rfl; intro bk))
  exact ⟨rfl, SFA, SOA⟩
 rintro fr' O' ⟨hf, hO⟩
 apply thenQ_n
 refine W_sub hf hO ?_
 clear hf hO fr' O'
 refine W_seq ?_
 refine W_post (fun fr' O' => Sub [(2, .int .i64 i), (3, .pointer (some ⟨b3, 0, none⟩)), (4, .pointer (some ⟨b4, 0, none⟩))] fr' ∧ SubO [.blk b4 [.int .i64 off, .int .i64 kind, .int .i64 save, .string set, .string format, .bool is, .int .i64 year, .int .i64 month, .int .i64 dk, .int .i64 dw, .int .i64 dd, .int .i64 us, .int .i64 ub] 56, .blk b3 [.slice Ar a.rules.length cr, .slice Az a.zones.length cz, .slice Al a.links.length cl, .slice As a.shifts.length cs] 27] O') ?_ ?_
 ·cases fi with
  | false =>
   repeat (first | refine wkRfT0 ?_ | (refine jg ?_; (try intro F); (first | (apply Stp_call (h := fun w' hw _ => hst w' hw); rfl; rintro v O' ⟨A3, c3, rfl, rfl⟩) | (apply Stp_call (h := fun w' hw _ => hss w' hw); rfl; rintro v O' ⟨A5, c5, rfl, rfl⟩) | (refine bx ?_; intro bk)); first | refine ⟨_, EndsA, QFRfT0, ?_⟩ | refine fin ?_) | (refine jn ?_; (try intro F); (refine bx ?_; intro bk); first | refine ⟨_, EndsA, QFRfT0, ?_⟩ | refine fin ?_) | (apply RD_W; rfl; intro bk))
   exact ⟨rfl, SFA, SOA⟩
  | true =>
   have hf2 : decide (kind = 2) = false := by
    cases h : decide (kind = 2)
    ·rfl
    ·have := n3 _ rfl h; cases this
   repeat (first | refine und ?_ | (apply RL_pu; rfl; exact PuRfT1) | (apply RD_Q; rfl; rfl; decide +kernel; rfl; rfl; exact QyRfT1) | refine walk1 ?_ | (refine jg ?_; (try intro F); (first | (apply Stp_call (h := fun w' hw _ => hst w' hw); rfl; rintro v O' ⟨A3, c3, rfl, rfl⟩) | (apply Stp_call (h := fun w' hw _ => hss w' hw); rfl; rintro v O' ⟨A5, c5, rfl, rfl⟩) | (refine bx ?_; intro bk) | (refine stA ?_)); first | refine ⟨_, EndsA, QFRfT1, ?_⟩ | refine fin ?_) | (refine jn ?_; (try intro F); (first | (refine bx ?_; intro bk) | (refine stA ?_) | (apply Stp_pu; first | exact PuRfT1 | exact PuA)); first | refine ⟨_, EndsA, QFRfT1, ?_⟩ | refine fin ?_) | (apply RD_W; rfl; intro bk))
   exact ⟨rfl, SFA, SOA⟩
 rintro fr' O' ⟨hf, hO⟩
 apply thenQ_n
 refine W_sub hf hO ?_
 clear hf hO fr' O'
 refine W_seq ?_
 refine W_post (fun fr' O' => Sub [(2, .int .i64 i), (3, .pointer (some ⟨b3, 0, none⟩)), (4, .pointer (some ⟨b4, 0, none⟩))] fr' ∧ SubO [.blk b4 [.int .i64 off, .int .i64 kind, .int .i64 save, .string set, .string format, .bool is, .int .i64 year, .int .i64 month, .int .i64 dk, .int .i64 dw, .int .i64 dd, .int .i64 us, .int .i64 ub] 56, .blk b3 [.slice Ar a.rules.length cr, .slice Az a.zones.length cz, .slice Al a.links.length cl, .slice As a.shifts.length cs] 27] O') ?_ ?_
 ·cases q2 with
  | false =>
   repeat (first | refine und ?_ | (apply RL_pu; rfl; exact PuRfT2) | (apply RD_Q; rfl; rfl; decide +kernel; rfl; rfl; exact QyRfT2) | refine walk1 ?_ | (refine jg ?_; (try intro F); (first | (apply Stp_call (h := fun w' hw _ => hst w' hw); rfl; rintro v O' ⟨A3, c3, rfl, rfl⟩) | (apply Stp_call (h := fun w' hw _ => hss w' hw); rfl; rintro v O' ⟨A5, c5, rfl, rfl⟩) | (refine bx ?_; intro bk) | (refine stA ?_)); first | refine ⟨_, EndsA, QFRfT2, ?_⟩ | refine fin ?_) | (refine jn ?_; (try intro F); (first | (refine bx ?_; intro bk) | (refine stA ?_) | (apply Stp_pu; first | exact PuRfT2 | exact PuA)); first | refine ⟨_, EndsA, QFRfT2, ?_⟩ | refine fin ?_) | (apply RD_W; rfl; intro bk))
   exact ⟨rfl, SFA, SOA⟩
  | true =>
   replace r0 := r0 rfl
   repeat (first | refine und ?_ | (apply RL_pu; rfl; exact PuRfT3) | (apply RD_Q; rfl; rfl; decide +kernel; rfl; rfl; exact QyRfT3) | refine walk1 ?_ | (refine jg ?_; (try intro F); (first | (apply Stp_call (h := fun w' hw _ => hst w' hw); rfl; rintro v O' ⟨A3, c3, rfl, rfl⟩) | (refine bx ?_; intro bk) | (refine stA ?_)); first | refine ⟨_, EndsA, QFRfT3, ?_⟩ | refine fin ?_) | (refine jn ?_; (try intro F); (first | (refine bx ?_; intro bk) | (refine stA ?_) | (apply Stp_pu; first | exact PuRfT3 | exact PuA)); first | refine ⟨_, EndsA, QFRfT3, ?_⟩ | refine fin ?_) | (apply RD_W; rfl; intro bk))
   exact ⟨rfl, SFA, SOA⟩
 rintro fr' O' ⟨hf, hO⟩
 apply thenQ_n
 refine W_sub hf hO ?_
 clear hf hO fr' O'
 refine W_seq ?_
 refine W_post (fun fr' O' => Sub [(2, .int .i64 i), (3, .pointer (some ⟨b3, 0, none⟩)), (4, .pointer (some ⟨b4, 0, none⟩))] fr' ∧ SubO [.blk b4 [.int .i64 off, .int .i64 kind, .int .i64 save, .string set, .string format, .bool is, .int .i64 year, .int .i64 month, .int .i64 dk, .int .i64 dw, .int .i64 dd, .int .i64 us, .int .i64 ub] 56, .blk b3 [.slice Ar a.rules.length cr, .slice Az a.zones.length cz, .slice Al a.links.length cl, .slice As a.shifts.length cs] 27] O') ?_ ?_
 ·cases q1 with
  | false =>
   repeat (first | refine und ?_ | (apply RL_pu; rfl; exact PuRfT4) | (apply RD_Q; rfl; rfl; decide +kernel; rfl; rfl; exact QyRfT4) | refine walk1 ?_ | (refine jg ?_; (try intro F); (first | (apply Stp_call (h := fun w' hw _ => hst w' hw); rfl; rintro v O' ⟨A3, c3, rfl, rfl⟩) | (apply Stp_call (h := fun w' hw _ => hss w' hw); rfl; rintro v O' ⟨A5, c5, rfl, rfl⟩) | (refine bx ?_; intro bk) | (refine stA ?_)); first | refine ⟨_, EndsA, QFRfT4, ?_⟩ | refine fin ?_) | (refine jn ?_; (try intro F); (first | (refine bx ?_; intro bk) | (refine stA ?_) | (apply Stp_pu; first | exact PuRfT4 | exact PuA)); first | refine ⟨_, EndsA, QFRfT4, ?_⟩ | refine fin ?_) | (apply RD_W; rfl; intro bk))
   exact ⟨rfl, SFA, SOA⟩
  | true =>
   replace s1 := s1 rfl
   replace s2 := s2 rfl
   repeat (first | refine und ?_ | (apply RL_pu; rfl; exact PuRfT4) | (apply RD_Q; rfl; rfl; decide +kernel; rfl; rfl; exact QyRfT4) | refine walk1 ?_ | (refine jg ?_; (try intro F); (first | (apply Stp_call (h := fun w' hw _ => hst w' hw); rfl; rintro v O' ⟨A3, c3, rfl, rfl⟩) | (apply Stp_call (h := fun w' hw _ => hss w' hw); rfl; rintro v O' ⟨A5, c5, rfl, rfl⟩) | (refine bx ?_; intro bk) | (refine stA ?_)); first | refine ⟨_, EndsA, QFRfT4, ?_⟩ | refine fin ?_) | (refine jn ?_; (try intro F); (first | (refine bx ?_; intro bk) | (refine stA ?_) | (apply Stp_pu; first | exact PuRfT4 | exact PuA)); first | refine ⟨_, EndsA, QFRfT4, ?_⟩ | refine fin ?_) | (apply RD_W; rfl; intro bk))
   exact ⟨rfl, SFA, SOA⟩
 rintro fr' O' ⟨hf, hO⟩
 apply thenQ_n
 refine W_sub hf hO ?_
 clear hf hO fr' O'
 repeat (first | refine walk ?_ | (refine jg ?_; (try intro F); (first | (apply Stp_call (h := fun w' hw _ => hss w' hw); rfl; rintro v O' ⟨A5, c5, rfl, rfl⟩) | (refine bx ?_; intro bk) | (refine stA ?_)); refine fin ?_) | (refine jn ?_; (try intro F); (first | (refine bx ?_; intro bk) | (refine stA ?_) | (apply Stp_pu; exact PuA)); refine fin ?_) | (apply RD_W; rfl; intro bk))
 refine W_loopF [(3, .pointer (some ⟨b3, 0, none⟩)), (4, .pointer (some ⟨b4, 0, none⟩)), (7, .slice A5 S.length c5)] [.row (.slice A5 S.length c5) 121 2 S.length (S.flatMap stEnc), .blk b4 [.int .i64 off, .int .i64 kind, .int .i64 save, .string set, .string format, .bool is, .int .i64 year, .int .i64 month, .int .i64 dk, .int .i64 dw, .int .i64 dd, .int .i64 us, .int .i64 ub] 56, .blk b3 [.slice Ar a.rules.length cr, .slice Az a.zones.length cz, .slice Al a.links.length cl, .slice As a.shifts.length cs] 27]
  (fun j : Nat => [(8, .int .i64 j)]) (fun _ => []) (fun j => j ≤ S.length ∧ ((S.drop j).any fun x => !inO off || !inO (off + x.1)) = Q) (fun j => S.length - j) 0 SFA SOA ⟨Nat.zero_le _, hQ⟩ ?_
 clear hQ
 rintro j ⟨hj, hi⟩
 repeat (first | refine walk ?_ | (refine jn ?_; (try intro F); (first | (refine bx ?_; intro bk) | (refine stA ?_) | (apply Stp_pu; exact PuA)); refine fin ?_) | (apply RD_W; rfl; intro bk))
 refine W_cond rfl (fun hc => ?_) (fun hc => ?_)
 ·simp only [decide_eq_true_eq, Int.ofNat_lt] at hc
  have hg1 := flat_get stEnc.len S j _ 0 _ (List.getElem?_eq_getElem hc) rfl
  have hgx := flat_get stEnc.len S j _ 0 _ (List.getElem?_eq_getElem hc) (show (stEnc S[j])[0]? = some (.int .i64 S[j].1) from rfl)
  have hxb := hSv _ (List.getElem_mem hc)
  rw [drop_cons hc, List.any_cons] at hi
  generalize S[j] = x at *
  have hix := fun w' => rin25_spec (off + x.1) w'
  cases hz1 : inO off with
  | false =>
   rw [hz1] at hi hin
   obtain rfl : true = Q := by simpa using hi
   repeat (first | refine und ?_ | refine walk ?_ | (refine jg ?_; (try intro F); (first | (refine callE (fun w' _ => hin w') ?_) | (refine callE (fun w' _ => hix w') ?_) | (refine bx ?_; intro bk) | (refine stA ?_)); refine fin ?_) | (refine jn ?_; (try intro F); (first | (refine bx ?_; intro bk) | (refine stA ?_) | (apply Stp_pu; exact PuA)); refine fin ?_) | (apply RD_W; rfl; intro bk))
   exact rtA
  | true =>
   rw [hz1] at hi hin
   have hob : -54000 ≤ off ∧ off ≤ 54000 := by unfold inO at hz1; simpa using hz1
   cases hz2 : inO (off + x.1) with
   | false =>
    rw [hz2] at hi hix
    obtain rfl : true = Q := by simpa using hi
    repeat (first | refine und ?_ | (apply RL_pu; rfl; exact PuRfT5) | (apply RD_Q; rfl; rfl; decide +kernel; rfl; rfl; exact QyRfT5) | refine walk1 ?_ | (refine jg ?_; (try intro F); (first | (refine callE (fun w' _ => hin w') ?_) | (refine callE (fun w' _ => hix w') ?_) | (refine bx ?_; intro bk) | (refine stA ?_)); first | refine ⟨_, EndsA, QFRfT5, ?_⟩ | refine fin ?_) | (refine jn ?_; (try intro F); (first | (refine bx ?_; intro bk) | (refine stA ?_) | (apply Stp_pu; first | exact PuRfT5 | exact PuA)); first | refine ⟨_, EndsA, QFRfT5, ?_⟩ | refine fin ?_) | (apply RD_W; rfl; intro bk))
    exact rtA
   | true =>
    rw [hz2] at hi hix
    repeat (first | refine und ?_ | (apply RL_pu; rfl; exact PuRfT5) | (apply RD_Q; rfl; rfl; decide +kernel; rfl; rfl; exact QyRfT5) | refine walk1 ?_ | (refine jg ?_; (try intro F); (first | (refine callE (fun w' _ => hin w') ?_) | (refine callE (fun w' _ => hix w') ?_) | (refine bx ?_; intro bk) | (refine stA ?_)); first | refine ⟨_, EndsA, QFRfT5, ?_⟩ | refine fin ?_) | (refine jn ?_; (try intro F); (first | (refine bx ?_; intro bk) | (refine stA ?_) | (apply Stp_pu; first | exact PuRfT5 | exact PuA)); first | refine ⟨_, EndsA, QFRfT5, ?_⟩ | refine fin ?_) | (apply RD_W; rfl; intro bk))
    exact ⟨j + 1, OA, ⟨OA, by simpa using hi⟩, SFA, SOA⟩
 ·simp only [decide_eq_false_iff_not, Int.ofNat_lt] at hc
  rw [List.drop_eq_nil_of_le (by omega), List.any_nil] at hi
  subst hi
  rw [if_neg (by decide), hrest]
  obtain ⟨n1, un1⟩ : ∃ v, (!decide (kind = 1)) = v := ⟨_, rfl⟩
  obtain ⟨n2, un2⟩ : ∃ v, (!decide (kind = 2)) = v := ⟨_, rfl⟩
  rw [un1, un2]
  obtain ⟨U, hU⟩ : ∃ U, (n1 && v1 || n2 && v2 || !is && v3) = U := ⟨_, rfl⟩
  rw [hU]
  apply W_exit
  repeat (first | apply thenQ_e | apply blockQ_hit | (apply blockQ_miss; rfl))
  apply thenQ_n
  refine W_seq ?_
  refine W_post (fun fr' O' => ∃ b9 : Nat, Sub [(3, .pointer (some ⟨b3, 0, none⟩)), (4, .pointer (some ⟨b4, 0, none⟩)), (9, .pointer (some ⟨b9, 0, none⟩))] fr' ∧ SubO [.blk b9 [.bool is, .int .i64 year, .int .i64 month, .int .i64 dk, .int .i64 dw, .int .i64 dd, .int .i64 us, .int .i64 ub] 54, .blk b4 [.int .i64 off, .int .i64 kind, .int .i64 save, .string set, .string format, .bool is, .int .i64 year, .int .i64 month, .int .i64 dk, .int .i64 dw, .int .i64 dd, .int .i64 us, .int .i64 ub] 56, .blk b3 [.slice Ar a.rules.length cr, .slice Az a.zones.length cz, .slice Al a.links.length cl, .slice As a.shifts.length cs] 27] O') ?_ ?_
  ·repeat (first | refine walk ?_ | (refine jn ?_; (try intro F); (first | (refine bx ?_; intro bk) | (refine stA ?_) | (apply Stp_pu; exact PuA)); refine fin ?_) | (apply RD_W; rfl; intro bk))
   exact ⟨rfl, _, SFA, SOA⟩
  rintro fr' O' ⟨b9, hf, hO⟩
  apply thenQ_n
  refine W_sub hf hO ?_
  clear hf hO fr' O'
  refine W_seq ?_
  refine W_post (fun fr' O' => Sub [(3, .pointer (some ⟨b3, 0, none⟩)), (4, .pointer (some ⟨b4, 0, none⟩)), (9, .pointer (some ⟨b9, 0, none⟩))] fr' ∧ SubO [.blk b9 [.bool false, .int .i64 year, .int .i64 month, .int .i64 dk, .int .i64 dw, .int .i64 dd, .int .i64 us, .int .i64 ub] 54, .blk b4 [.int .i64 off, .int .i64 kind, .int .i64 save, .string set, .string format, .bool is, .int .i64 year, .int .i64 month, .int .i64 dk, .int .i64 dw, .int .i64 dd, .int .i64 us, .int .i64 ub] 56, .blk b3 [.slice Ar a.rules.length cr, .slice Az a.zones.length cz, .slice Al a.links.length cl, .slice As a.shifts.length cs] 27] O') ?_ ?_
  ·repeat (first | refine walk ?_ | (refine jn ?_; (try intro F); (first | (refine bx ?_; intro bk) | (refine stA ?_) | (apply Stp_pu; exact PuA)); refine fin ?_) | (apply RD_W; rfl; intro bk))
   exact ⟨rfl, SFA, SOA⟩
  rintro fr' O' ⟨hf, hO⟩
  apply thenQ_n
  refine W_sub hf hO ?_
  clear hf hO fr' O'
  refine W_seq ?_
  refine W_seq ?_
  refine W_post (fun fr' O' => Sub [(3, .pointer (some ⟨b3, 0, none⟩)), (4, .pointer (some ⟨b4, 0, none⟩)), (104, .bool U)] fr' ∧ SubO [.blk b4 [.int .i64 off, .int .i64 kind, .int .i64 save, .string set, .string format, .bool is, .int .i64 year, .int .i64 month, .int .i64 dk, .int .i64 dw, .int .i64 dd, .int .i64 us, .int .i64 ub] 56, .blk b3 [.slice Ar a.rules.length cr, .slice Az a.zones.length cz, .slice Al a.links.length cl, .slice As a.shifts.length cs] 27] O') ?_ ?_
  ·have hd : (true = U ∧ n1 = true ∧ v1 = true) ∨ (true = U ∧ n1 = false ∧ n2 = true ∧ v2 = true) ∨ (true = U ∧ n1 = true ∧ v1 = false ∧ n2 = true ∧ v2 = true) ∨ (true = U ∧ n1 = false ∧ n2 = false ∧ is = false ∧ v3 = true) ∨ (true = U ∧ n1 = false ∧ n2 = true ∧ v2 = false ∧ is = false ∧ v3 = true) ∨ (true = U ∧ n1 = true ∧ v1 = false ∧ n2 = false ∧ is = false ∧ v3 = true) ∨ (true = U ∧ n1 = true ∧ v1 = false ∧ n2 = true ∧ v2 = false ∧ is = false ∧ v3 = true) ∨ (false = U ∧ n1 = false ∧ n2 = false ∧ is = true) ∨ (false = U ∧ n1 = false ∧ n2 = false ∧ is = false ∧ v3 = false) ∨ (false = U ∧ n1 = false ∧ n2 = true ∧ v2 = false ∧ is = true) ∨ (false = U ∧ n1 = false ∧ n2 = true ∧ v2 = false ∧ is = false ∧ v3 = false) ∨ (false = U ∧ n1 = true ∧ v1 = false ∧ n2 = false ∧ is = true) ∨ (false = U ∧ n1 = true ∧ v1 = false ∧ n2 = false ∧ is = false ∧ v3 = false) ∨ (false = U ∧ n1 = true ∧ v1 = false ∧ n2 = true ∧ v2 = false ∧ is = true) ∨ (false = U ∧ n1 = true ∧ v1 = false ∧ n2 = true ∧ v2 = false ∧ is = false ∧ v3 = false) := by
    revert hU
    cases n1 <;> cases v1 <;> cases n2 <;> cases v2 <;> cases is <;> cases v3 <;> simp
   clear hU hfc
   rcases hd with ⟨rfl, rfl, rfl⟩ | ⟨rfl, rfl, rfl, rfl⟩ | ⟨rfl, rfl, rfl, rfl, rfl⟩ | ⟨rfl, rfl, rfl, rfl, rfl⟩ | ⟨rfl, rfl, rfl, rfl, rfl, rfl⟩ | ⟨rfl, rfl, rfl, rfl, rfl, rfl⟩ | ⟨rfl, rfl, rfl, rfl, rfl, rfl, rfl⟩ | ⟨rfl, rfl, rfl, rfl⟩ | ⟨rfl, rfl, rfl, rfl, rfl⟩ | ⟨rfl, rfl, rfl, rfl, rfl⟩ | ⟨rfl, rfl, rfl, rfl, rfl, rfl⟩ | ⟨rfl, rfl, rfl, rfl, rfl⟩ | ⟨rfl, rfl, rfl, rfl, rfl, rfl⟩ | ⟨rfl, rfl, rfl, rfl, rfl, rfl⟩ | ⟨rfl, rfl, rfl, rfl, rfl, rfl, rfl⟩
   all_goals
    repeat (first | refine und ?_ | (apply RL_pu; rfl; exact PuRfT6) | (apply RD_Q; rfl; rfl; decide +kernel; rfl; rfl; exact QyRfT6) | refine walk1 ?_ | (refine jn ?_; (try intro F); (first | (refine bx ?_; intro bk) | (refine stA ?_) | (apply Stp_pu; first | exact PuRfT6 | exact PuA)); first | refine ⟨_, EndsA, QFRfT6, ?_⟩ | refine fin ?_) | (apply RD_W; rfl; intro bk))
    exact ⟨rfl, SFA, SOA⟩
  rintro fr' O' ⟨hf, hO⟩
  apply thenQ_n
  refine W_sub hf hO ?_
  clear hf hO fr' O' hU
  cases U with
  | true =>
   rw [if_pos rfl]
   repeat (first | refine walk ?_ | (refine jn ?_; (try intro F); (first | (refine bx ?_; intro bk) | (refine stA ?_) | (apply Stp_pu; exact PuA)); refine fin ?_) | (apply RD_W; rfl; intro bk))
   exact rtA
  | false =>
   rw [if_neg (by decide)]
   repeat (first | refine walk ?_ | (refine jg ?_; (try intro F); (first | (apply Stp_call (h := fun w' hw _ => hst w' hw); rfl; rintro v O' ⟨A3, c3, rfl, rfl⟩) | (refine callO (fun w' hw hO => hfc A3 c3 w' hw (rowRd DRule.len (hO.of (A := .row (.slice A3 R.length c3) 48 11 R.length (R.flatMap DRule.enc)) (by repeat' constructor)))) ?_) | (refine bx ?_; intro bk) | (refine stA ?_)); refine fin ?_) | (refine jn ?_; (try intro F); (first | (refine bx ?_; intro bk) | (refine stA ?_) | (apply Stp_pu; exact PuA)); refine fin ?_) | (apply RD_W; rfl; intro bk))
   exact rtA
end Go.Proofs.YtceekohkjgiabaaGreatDoor
