/- Contract: the reference of layer 21: Check. -/
import Derived.Test.YtceekohkjgiabaaGreatDoorQ39
set_option maxHeartbeats 4000000
set_option linter.unusedVariables false
set_option linter.unusedSimpArgs false
namespace Go.Proofs.YtceekohkjgiabaaGreatDoor
open Go Go.RowKit Go.Wk
attribute [local irreducible] W RL Does thenQ blockQ retQ Calls Pu Stp RD Qy Ay DoesIn
theorem PuRfY0 {G : Prop} (h : G := by (first | (apply Pu_eqlB; rfl; rfl; first | exact k0 | exact k3 | exact k5) | (apply Pu_neqB'; rfl; rfl; first | exact n2 | exact e0 | exact x0) | (apply Pu_lssB; rfl; rfl; exact k4) | (apply Pu_neqSB; rfl; rfl; exact f0))) : G := h
theorem QyRfY0 {G : Prop} (h : G := by first | (apply Qy_y; rfl; exact PuRfY0) | exact QyA) : G := h
theorem QFRfY0 {G : Prop} (h : G := by repeat (first | exact QF.nil | (apply QF.mk; rfl; rfl; decide +kernel; exact QyRfY0))) : G := h
theorem wkRfY0 {G G' : Prop} (k : G') (h : Hold G' → G := by intro k9; (first | refine und ?_ | (apply RL_pu; rfl; exact PuRfY0) | (apply RD_Q; rfl; rfl; decide +kernel; rfl; rfl; exact QyRfY0) | refine walk1 ?_ | (refine jg ?_; (try intro F); (refine callE hex ?_); first | refine ⟨_, EndsA, QFRfY0, ?_⟩ | refine fin ?_) | (refine jn ?_; (try intro F); (apply Stp_pu; first | exact PuRfY0 | exact PuA); first | refine ⟨_, EndsA, QFRfY0, ?_⟩ | refine fin ?_)); exact k9.out) : G := h ⟨k⟩
theorem PuRfY1 {G : Prop} (h : G := by (first | exact PuI | (apply Pu_eqlB; rfl; rfl; first | exact k0 | exact k3 | exact k5) | (apply Pu_neqB'; rfl; rfl; first | exact n2 | exact e0 | exact x0) | (apply Pu_lssB; rfl; rfl; exact k4) | (apply Pu_neqSB; rfl; rfl; exact f0))) : G := h
theorem QyRfY1 {G : Prop} (h : G := by first | (apply Qy_y; rfl; exact PuRfY1) | exact QyA) : G := h
theorem QFRfY1 {G : Prop} (h : G := by repeat (first | exact QF.nil | (apply QF.mk; rfl; rfl; decide +kernel; exact QyRfY1))) : G := h
theorem PuRfY2 {G : Prop} (h : G := by (apply Pu_neqB'; rfl; rfl; exact n2)) : G := h
theorem QyRfY2 {G : Prop} (h : G := by first | (apply Qy_y; rfl; exact PuRfY2) | exact QyA) : G := h
theorem QFRfY2 {G : Prop} (h : G := by repeat (first | exact QF.nil | (apply QF.mk; rfl; rfl; decide +kernel; exact QyRfY2))) : G := h
theorem PuRfY3 {G : Prop} (h : G := by (apply Pu_eqlB; rfl; rfl; first | exact k0 | exact k3)) : G := h
theorem QyRfY3 {G : Prop} (h : G := by first | (apply Qy_y; rfl; exact PuRfY3) | exact QyA) : G := h
theorem QFRfY3 {G : Prop} (h : G := by repeat (first | exact QF.nil | (apply QF.mk; rfl; rfl; decide +kernel; exact QyRfY3))) : G := h
set_option maxHeartbeats 4000000 in
theorem r21chk_spec (e : DEra) (A : Option Addr) (c : Nat) (l : List DRule) (w : World) (hA : RdSl w A c DRule.enc 11 l) (ho : I64 e.off) (hs : I64 e.save) (hr : ∀ r ∈ l, I64 r.save) (hn : l.length ≤ 1000000) (hfs : e.format.size ≤ 1000000000) (hlt : ∀ r ∈ l, r.letter.size ≤ 1000000000) :
  Does Tryz.prog 109 [.agg (DEra.enc e).toArray, .slice A l.length c] w (fun v O => v = .int .i64 (fmtChk e l) ∧ O = []) := by
 have hk := fun w' => rkind_spec e.format hfs w'
 have hbd := kindF_bd e.format.data.toList
 have hex := fun w' (hw : Bel w.heap.size w w') => rexp_spec e A c l w' (hA.up hw) ho hs hr hn
 have hab0 := fun w' => rabbr_spec e.format ByteArray.empty 0 0 w' hfs (Nat.zero_le _) ⟨by decide, by decide⟩ ⟨by decide, by decide⟩
 rw [show ByteArray.empty.data.toList = [] from rfl] at hab0
 have habs := fun (r : DRule) (hr' : r ∈ l) w' => rabbr_spec e.format r.letter 0 0 w' hfs (hlt r hr') ⟨by decide, by decide⟩ ⟨by decide, by decide⟩
 unfold fmtChk
 dsimp only
 have hfb := bytes_iff (expandN e l).1 e.format
 generalize expandN e l = X at *
 obtain ⟨xs, xe⟩ := X
 have hFE : ∀ F : List UInt8, firstErr F [[]] = (abbrF F 0 0 []).2 := fun F => by
  unfold firstErr firstErr
  split
  ·rename_i h; exact h.symm
  ·rfl
 rw [show (if e.kind = 2 then l.map (fun r => r.letter.data.toList) else [[]]) = (if e.kind = 2 then l.map (fun r => r.letter.data.toList) else [[]]) from rfl]
 obtain ⟨off, kind, save, set, format, ⟨tis, year, month, ⟨dk, dw, dd⟩, ⟨us, ub⟩⟩⟩ := e
 dsimp only at hk hbd hab0 habs hfb hfs ⊢
 replace hex : ∀ w', Bel w.heap.size w w' → Does Tryz.prog 149 [.agg #[.int .i64 off, .int .i64 kind, .int .i64 save, .string set, .string format, .bool tis, .int .i64 year, .int .i64 month, .int .i64 dk, .int .i64 dw, .int .i64 dd, .int .i64 us, .int .i64 ub], .slice A l.length c] w' (fun v O => v = .tuple #[.string ⟨xs.toArray⟩, .int .i64 xe] ∧ O = []) := hex
 generalize hK : kindF format.data.toList = K at *
 show Does _ _ [.agg #[.int .i64 off, .int .i64 kind, .int .i64 save, .string set, .string format, .bool tis, .int .i64 year, .int .i64 month, .int .i64 dk, .int .i64 dw, .int .i64 dd, .int .i64 us, .int .i64 ub], .slice A l.length c] w _
 refine Does_of_W Tryz.func109 rfl rfl rfl rfl ?_
 by_cases hK0 : K = 0
 ·have k0 : decide (K = 0) = true := decide_eq_true hK0
  rw [if_pos hK0]
  repeat (first | refine und ?_ | (apply RL_pu; rfl; exact PuRfY0) | (apply RD_Q; rfl; rfl; decide +kernel; rfl; rfl; exact QyRfY0) | refine walk1 ?_ | (refine jg ?_; (try intro F); (first | (refine callE (fun w' _ => hk w') ?_) | (refine bx ?_; intro bk)); first | refine ⟨_, EndsA, QFRfY0, ?_⟩ | refine fin ?_) | (refine jn ?_; (try intro F); (first | (refine bx ?_; intro bk) | (apply Stp_pu; first | exact PuRfY0 | exact PuA)); first | refine ⟨_, EndsA, QFRfY0, ?_⟩ | refine fin ?_))
  exact rtA
 have k0 : decide (K = 0) = false := decide_eq_false hK0
 rw [if_neg hK0]
 by_cases hK3 : K = 3
 ·rw [if_pos hK3]
  clear k0
  subst hK3
  by_cases hk2 : kind = 2
  ·subst hk2
   rw [if_pos rfl]
   repeat (first | refine und ?_ | refine walk ?_ | (refine jg ?_; (try intro F); (first | (refine callE (fun w' _ => hk w') ?_) | (refine bx ?_; intro bk)); refine fin ?_) | (refine jn ?_; (try intro F); (first | (refine bx ?_; intro bk) | (apply Stp_pu; exact PuA)); refine fin ?_))
   obtain ⟨R, hR⟩ : ∃ R, firstErr format.data.toList (l.map fun r => r.letter.data.toList) = R := ⟨_, rfl⟩
   rw [hR]
   refine W_loopF [(1, .slice A l.length c), (2, .pointer (some ⟨bk, 0, none⟩)), (5, .int .i64 3)] [.blk bk [.int .i64 off, .int .i64 2, .int .i64 save, .string set, .string format, .bool tis, .int .i64 year, .int .i64 month, .int .i64 dk, .int .i64 dw, .int .i64 dd, .int .i64 us, .int .i64 ub] 56] (fun k : Nat => [(8, .int .i64 k)]) (fun _ => [])
    (fun k => k ≤ l.length ∧ firstErr format.data.toList ((l.drop k).map fun r => r.letter.data.toList) = R) (fun k => l.length - k) 0 SFA SOA ⟨Nat.zero_le _, hR⟩ ?_
   clear hR
   rintro k ⟨hk1, hi⟩
   by_cases hkl : k < l.length
   ·have k4 : decide ((k : Int) < (l.length : Int)) = true := decide_eq_true (by omega)
    obtain ⟨hna, hca⟩ := hA.rd k _ (List.getElem?_eq_getElem hkl)
    have hab := habs l[k] (List.getElem_mem hkl)
    rw [drop_cons hkl, List.map_cons, firstErr] at hi
    generalize l[k] = r at *
    simp only [DRule.enc] at hca
    generalize abbrF format.data.toList 0 0 r.letter.data.toList = ax at *
    obtain ⟨az, ae⟩ := ax
    dsimp only at hi
    by_cases ha0 : ae = 0
    ·have e0 : (!decide (ae = 0)) = false := by rw [decide_eq_true ha0]; rfl
     rw [if_pos ha0] at hi
     repeat (first | refine und ?_ | (apply RL_pu; rfl; exact PuRfY1) | (apply RD_Q; rfl; rfl; decide +kernel; rfl; rfl; exact QyRfY1) | refine walk1 ?_ | (refine jg ?_; (try intro F); (first | (refine callE (fun w' _ => hab w') ?_) | (refine bx ?_; intro bk)); first | refine ⟨_, EndsA, QFRfY1, ?_⟩ | refine fin ?_) | (refine jn ?_; (try intro F); (first | (refine bx ?_; intro bk) | (apply Stp_pu; first | exact PuRfY1 | exact PuA)); first | refine ⟨_, EndsA, QFRfY1, ?_⟩ | refine fin ?_))
     exact ⟨k + 1, OA, ⟨OA, hi⟩, SFA, SOA⟩
    ·have e0 : (!decide (ae = 0)) = true := by rw [decide_eq_false ha0]; rfl
     rw [if_neg ha0] at hi
     subst hi
     repeat (first | refine und ?_ | (apply RL_pu; rfl; exact PuRfY1) | (apply RD_Q; rfl; rfl; decide +kernel; rfl; rfl; exact QyRfY1) | refine walk1 ?_ | (refine jg ?_; (try intro F); (first | (refine callE (fun w' _ => hab w') ?_) | (refine bx ?_; intro bk)); first | refine ⟨_, EndsA, QFRfY1, ?_⟩ | refine fin ?_) | (refine jn ?_; (try intro F); (first | (refine bx ?_; intro bk) | (apply Stp_pu; first | exact PuRfY1 | exact PuA)); first | refine ⟨_, EndsA, QFRfY1, ?_⟩ | refine fin ?_))
     exact rtA
   ·have k4 : decide ((k : Int) < (l.length : Int)) = false := decide_eq_false (by omega)
    rw [List.drop_eq_nil_of_le (by omega), List.map_nil, firstErr] at hi
    subst hi
    repeat (first | refine und ?_ | (apply RL_pu; rfl; exact PuRfY0) | (apply RD_Q; rfl; rfl; decide +kernel; rfl; rfl; exact QyRfY0) | refine walk1 ?_ | (refine jn ?_; (try intro F); (first | (refine bx ?_; intro bk) | (apply Stp_pu; first | exact PuRfY0 | exact PuA)); first | refine ⟨_, EndsA, QFRfY0, ?_⟩ | refine fin ?_))
    exact rtA
  ·have n2 : (!decide (kind = 2)) = true := by rw [decide_eq_false hk2]; rfl
   rw [if_neg hk2, hFE]
   have hab := hab0
   generalize abbrF format.data.toList 0 0 [] = ax at *
   obtain ⟨az, ae⟩ := ax
   repeat (first | refine und ?_ | (apply RL_pu; rfl; exact PuRfY2) | (apply RD_Q; rfl; rfl; decide +kernel; rfl; rfl; exact QyRfY2) | refine walk1 ?_ | (refine jg ?_; (try intro F); (first | (refine callE (fun w' _ => hk w') ?_) | (refine callE (fun w' _ => hab w') ?_) | (refine bx ?_; intro bk)); first | refine ⟨_, EndsA, QFRfY2, ?_⟩ | refine fin ?_) | (refine jn ?_; (try intro F); (first | (refine bx ?_; intro bk) | (apply Stp_pu; first | exact PuRfY2 | exact PuA)); first | refine ⟨_, EndsA, QFRfY2, ?_⟩ | refine fin ?_))
   exact rtA
 have k3 : decide (K = 3) = false := decide_eq_false hK3
 rw [if_neg hK3]
 by_cases hK4 : K = 4 ∨ K = 5
 ·rw [if_pos hK4]
  have k4 : decide (K < 4) = false := decide_eq_false (by omega)
  repeat (first | refine und ?_ | (apply RL_pu; rfl; exact PuRfY3) | (apply RD_Q; rfl; rfl; decide +kernel; rfl; rfl; exact QyRfY3) | refine walk1 ?_ | (refine jg ?_; (try intro F); (first | (refine callE (fun w' _ => hk w') ?_) | (refine bx ?_; intro bk)); first | refine ⟨_, EndsA, QFRfY3, ?_⟩ | refine fin ?_) | (refine jn ?_; (try intro F); (first | (refine bx ?_; intro bk) | (apply Stp_pu; first | exact PuRfY3 | exact PuA)); first | refine ⟨_, EndsA, QFRfY3, ?_⟩ | refine fin ?_))
  refine W_loopF [(1, .slice A l.length c), (2, .pointer (some ⟨bk, 0, none⟩)), (5, .int .i64 K)] [.blk bk [.int .i64 off, .int .i64 kind, .int .i64 save, .string set, .string format, .bool tis, .int .i64 year, .int .i64 month, .int .i64 dk, .int .i64 dw, .int .i64 dd, .int .i64 us, .int .i64 ub] 56] (fun k : Nat => [(8, .int .i64 k)]) (fun _ => [])
   (fun k => k = 0) (fun k => k) 0 SFA SOA rfl ?_
  rintro k rfl
  by_cases hx : xe = 0
  ·have x0 : (!decide (xe = 0)) = false := by rw [decide_eq_true hx]; rfl
   by_cases hK5 : K = 5
   ·have k5 : decide (K = 5) = true := decide_eq_true hK5
    by_cases hf : xs = format.data.toList
    ·have f0 : (!decide ((⟨xs.toArray⟩ : ByteArray) = format)) = false := by rw [decide_eq_true (hfb.2 hf)]; rfl
     rw [if_neg (by rintro (h | h); exact h hx; exact h.2 hf)]
     repeat (first | refine wkRfY0 ?_ | (refine jg ?_; (try intro F); (refine bx ?_; intro bk); first | refine ⟨_, EndsA, QFRfY0, ?_⟩ | refine fin ?_) | (refine jn ?_; (try intro F); (refine bx ?_; intro bk); first | refine ⟨_, EndsA, QFRfY0, ?_⟩ | refine fin ?_))
     exact rtA
    ·have f0 : (!decide ((⟨xs.toArray⟩ : ByteArray) = format)) = true := by rw [decide_eq_false (fun h => hf (hfb.1 h))]; rfl
     rw [if_pos (.inr ⟨hK5, hf⟩)]
     repeat (first | refine wkRfY0 ?_ | (refine jg ?_; (try intro F); (refine bx ?_; intro bk); first | refine ⟨_, EndsA, QFRfY0, ?_⟩ | refine fin ?_) | (refine jn ?_; (try intro F); (refine bx ?_; intro bk); first | refine ⟨_, EndsA, QFRfY0, ?_⟩ | refine fin ?_))
     exact rtA
   ·have k5 : decide (K = 5) = false := decide_eq_false hK5
    rw [if_neg (by rintro (h | h); exact h hx; exact hK5 h.1)]
    repeat (first | refine wkRfY0 ?_ | (refine jg ?_; (try intro F); (refine bx ?_; intro bk); first | refine ⟨_, EndsA, QFRfY0, ?_⟩ | refine fin ?_) | (refine jn ?_; (try intro F); (refine bx ?_; intro bk); first | refine ⟨_, EndsA, QFRfY0, ?_⟩ | refine fin ?_))
    exact rtA
  ·have x0 : (!decide (xe = 0)) = true := by rw [decide_eq_false hx]; rfl
   rw [if_pos (.inl hx)]
   repeat (first | refine wkRfY0 ?_ | (refine jg ?_; (try intro F); (refine bx ?_; intro bk); first | refine ⟨_, EndsA, QFRfY0, ?_⟩ | refine fin ?_) | (refine jn ?_; (try intro F); (refine bx ?_; intro bk); first | refine ⟨_, EndsA, QFRfY0, ?_⟩ | refine fin ?_))
   exact rtA
 ·rw [if_neg hK4]
  have k4 : decide (K < 4) = true := decide_eq_true (by omega)
  repeat (first | refine und ?_ | (apply RL_pu; rfl; exact PuRfY3) | (apply RD_Q; rfl; rfl; decide +kernel; rfl; rfl; exact QyRfY3) | refine walk1 ?_ | (refine jg ?_; (try intro F); (first | (refine callE (fun w' _ => hk w') ?_) | (refine bx ?_; intro bk)); first | refine ⟨_, EndsA, QFRfY3, ?_⟩ | refine fin ?_) | (refine jn ?_; (try intro F); (first | (refine bx ?_; intro bk) | (apply Stp_pu; first | exact PuRfY3 | exact PuA)); first | refine ⟨_, EndsA, QFRfY3, ?_⟩ | refine fin ?_))
  refine W_loopF [(1, .slice A l.length c), (2, .pointer (some ⟨bk, 0, none⟩)), (5, .int .i64 K)] [.blk bk [.int .i64 off, .int .i64 kind, .int .i64 save, .string set, .string format, .bool tis, .int .i64 year, .int .i64 month, .int .i64 dk, .int .i64 dw, .int .i64 dd, .int .i64 us, .int .i64 ub] 56] (fun k : Nat => [(8, .int .i64 k)]) (fun _ => [])
   (fun k => k = 0) (fun k => k) 0 SFA SOA rfl ?_
  rintro k rfl
  repeat (first | refine und ?_ | (apply RL_pu; rfl; exact PuRfY0) | (apply RD_Q; rfl; rfl; decide +kernel; rfl; rfl; exact QyRfY0) | refine walk1 ?_ | (refine jn ?_; (try intro F); (first | (refine bx ?_; intro bk) | (apply Stp_pu; first | exact PuRfY0 | exact PuA)); first | refine ⟨_, EndsA, QFRfY0, ?_⟩ | refine fin ?_))
  exact rtA
end Go.Proofs.YtceekohkjgiabaaGreatDoor
