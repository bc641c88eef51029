/- Contracts: the reference of layer 21: Parts, Abbr. -/
import Derived.Test.YtceekohkjgiabaaGreatDoorQ38
import Derived.Test.YtceekohkjgiabaaGreatDoorQ24
set_option maxHeartbeats 4000000
set_option linter.unusedVariables false
set_option linter.unusedSimpArgs false
namespace Go.Wk
open Go Go.RowKit
theorem cut47_mem : ∀ (l acc : List UInt8) (r : List UInt8 × List UInt8), cutAt [47] l acc = some r → (47 : UInt8) ∈ l
 | [], acc, r, h => by cases h
 | c :: l, acc, r, h => by
  rw [cut47] at h
  by_cases hc : c = 47
  ·rw [hc]; exact List.mem_cons_self
  ·rw [if_neg hc] at h
   exact List.mem_cons_of_mem _ (cut47_mem l _ r h)
theorem cut115_app : ∀ (l acc a b : List UInt8), cutAt [37, 115] l acc = some (a, b) → acc ++ l = a ++ [37, 115] ++ b
 | [], acc, a, b, h => by cases h
 | [c], acc, a, b, h => by rw [cut115_one [c] acc (Nat.le_refl 1)] at h; cases h
 | c :: d :: l, acc, a, b, h => by
  rw [cut115_two] at h
  by_cases hc : c = 37 ∧ d = 115
  ·rw [if_pos hc] at h
   simp only [Option.some.injEq, Prod.mk.injEq] at h
   rw [← h.1, ← h.2, hc.1, hc.2]
   simp
  ·rw [if_neg hc] at h
   have := cut115_app (d :: l) (acc ++ [c]) a b h
   rw [← this]
   simp
def partsR (l : List UInt8) : List UInt8 × List UInt8 × Bool := if kindF l = 0 ∨ (slashR l).2.2 = false then ([], [], false) else ((slashR l).1, (slashR l).2.1, true)
end Go.Wk
namespace Go.Proofs.YtceekohkjgiabaaGreatDoor
open Go Go.RowKit Go.Wk
attribute [local irreducible] W RL Does thenQ blockQ retQ Calls Pu Stp RD Qy Ay DoesIn
theorem kindF_bd (l : List UInt8) : kindF l = 0 ∨ kindF l = 1 ∨ kindF l = 2 ∨ kindF l = 3 ∨ kindF l = 4 ∨ kindF l = 5 := by
 unfold kindF
 dsimp only
 repeat' split
 all_goals simp
theorem kind47 {l : List UInt8} (hm : (47 : UInt8) ∈ l) : kindF l ≠ 1 ∧ kindF l ≠ 3 ∧ kindF l ≠ 4 := by
 refine ⟨fun h => ?_, fun h => ?_, fun h => ?_⟩
 ·have h1 := kind1 h
  unfold abbrL nameB okBytes at h1
  simp only [Bool.and_eq_true, List.all_eq_true] at h1
  have := h1.2 _ hm
  revert this
  decide
 ·have h3 := kindF_ne l h
  unfold aroundF at h3
  cases hc : cutAt [37, 115] l [] with
  | none => rw [hc] at h3; cases h3
  | some ab =>
   obtain ⟨a, b⟩ := ab
   rw [hc] at h3
   dsimp only at h3
   split at h3
   ·rename_i hl
    have happ := cut115_app l [] a b hc
    rw [List.nil_append] at happ
    rw [happ] at hm
    have hl1 := hl.1
    rw [letterL_eq, List.all_eq_true] at hl1
    rcases List.mem_append.1 hm with hm | hm
    ·rcases List.mem_append.1 hm with hm | hm
     ·have := hl1 _ (List.mem_append_left _ hm); revert this; decide
     ·revert hm; decide
    ·have := hl1 _ (List.mem_append_right _ hm); revert this; decide
   ·cases h3
 ·have h4 : l = [37, 122] := by
   unfold kindF at h
   dsimp only at h
   repeat' split at h
   all_goals first | (cases h; done) | assumption
  rw [h4] at hm
  revert hm
  decide
theorem partsR_eq (l : List UInt8) : partsR l = match partsF l with | some (a, b) => (a, b, true) | none => ([], [], false) := by
 rw [partsF_eq]
 unfold partsR slashR cutV
 cases hc : cutAt [47] l [] with
 | none => simp
 | some ab =>
  obtain ⟨a, b⟩ := ab
  dsimp only
  have h47 := kind47 (cut47_mem l [] (a, b) hc)
  have hb := kindF_bd l
  by_cases h0 : kindF l = 0
  ·rw [if_pos (.inl h0), if_neg (by omega)]
  ·rw [if_neg (by simp [h0]), if_pos ⟨rfl, by omega⟩]
theorem partsF_two {l : List UInt8} (h : kindF l = 2) : (partsF l).isSome = true := by
 rw [partsF_eq]
 have hk := h
 rw [kindF_eq] at hk
 cases hb : (cutV l [47]).2.2 with
 | true => rw [if_pos ⟨rfl, .inl h⟩]; rfl
 | false =>
  exfalso
  rw [hb] at hk
  unfold kindV at hk
  revert hk
  cases abbrL l <;> cases (aroundF l).isSome <;> cases decide (l = [37, 122]) <;> cases (parseN l).isSome <;> simp
theorem PuRfP0 {G : Prop} (h : G := by (apply Pu_eqlB; rfl; rfl; exact b0)) : G := h
theorem wkRfP0 {G G' : Prop} (k : G') (h : Hold G' → G := by intro k9; (first | refine und ?_ | (apply RL_pu; rfl; exact PuRfP0) | (refine js ?_; (first | (refine callE (fun w' _ => hsl w') ?_) | (refine callE (fun w' _ => hk w') ?_))) | refine walk1 ?_); exact k9.out) : G := h ⟨k⟩
theorem rparts_spec (f : ByteArray) (hs : f.size ≤ 1000000000) (w : World) : Does Tryz.prog 153 [.string f] w (fun v O => v = slV (partsR f.data.toList) ∧ O = []) := by
 have hsl := fun w' => rslash_spec f (by omega) w'
 have hk := fun w' => rkind_spec f hs w'
 unfold partsR
 generalize kindF f.data.toList = K at *
 generalize slashR f.data.toList = ab at *
 obtain ⟨a, b, ok⟩ := ab
 simp only [slV] at hsl ⊢
 refine Does_of_W Tryz.func153 rfl rfl rfl rfl ?_
 by_cases h0 : K = 0
 ·have b0 : decide (K = 0) = true := decide_eq_true h0
  rw [if_pos (.inl h0)]
  repeat refine wkRfP0 ?_
  exact ret_3 _ _ _ [] (.tmp rfl) (.tmp rfl) (.tmp rfl) .nil ⟨rfl, rfl⟩
 ·have b0 : decide (K = 0) = false := decide_eq_false h0
  cases ok with
  | false =>
   rw [if_pos (.inr rfl)]
   repeat refine wkRfP0 ?_
   exact ret_3 _ _ _ [] (.tmp rfl) (.tmp rfl) (.tmp rfl) .nil ⟨rfl, rfl⟩
  | true =>
   rw [if_neg (fun h => h.elim h0 (fun h => by cases h))]
   repeat refine wkRfP0 ?_
   exact ret_3 _ _ _ [] (.tmp rfl) (.tmp rfl) (.tmp rfl) .nil ⟨rfl, rfl⟩
theorem PuRfP1 {G : Prop} (h : G := by (first | (apply Pu_eqlB; rfl; rfl; first | exact k0 | exact k3 | exact s0) | (apply Pu_neqB'; rfl; rfl; exact k4))) : G := h
theorem wkRfP1 {G G' : Prop} (k : G') (h : Hold G' → G := by intro k9; (first | refine und ?_ | (apply RL_pu; rfl; exact PuRfP1) | (refine js ?_; (first | (refine callE (fun w' _ => hk w') ?_) | (refine callE (fun w' _ => hp w') ?_))) | refine walk1 ?_); exact k9.out) : G := h ⟨k⟩
theorem PuRfP2 {G : Prop} (h : G := by (first | (apply Pu_eqlB; rfl; rfl; first | exact k0 | exact k3) | (apply Pu_addS; rfl; rfl; exact q1) | (apply Pu_addS; rfl; rfl; exact q2))) : G := h
theorem PuRfP3 {G : Prop} (h : G := by (first | (apply Pu_eqlB; rfl; rfl; first | exact k0 | exact k3) | (apply Pu_neqB'; rfl; rfl; exact k4) | (apply Pu_addWE; rfl; rfl; exact hW) | (apply Pu_gtrB; rfl; rfl; first | exact g1 | exact g3 | exact g5 | exact g6) | (apply Pu_lssB; rfl; rfl; first | exact g2 | exact g4) | (apply Pu_eqlSB; rfl; rfl; exact s1))) : G := h
theorem wkRfP2 {G G' : Prop} (k : G') (h : Hold G' → G := by intro k9; (first | refine und ?_ | (apply RL_pu; rfl; exact PuRfP3) | (refine js ?_; (first | (refine callE (fun w' _ => hk w') ?_) | (refine callE (fun w' _ => hp w') ?_) | (refine callE (fun w' _ => htx w') ?_))) | refine walk1 ?_); exact k9.out) : G := h ⟨k⟩
set_option maxHeartbeats 4000000 in
theorem rabbr_spec (f letter : ByteArray) (off save : Int) (w : World) (hs : f.size ≤ 1000000000) (hl : letter.size ≤ 1000000000) (ho : I64 off) (hv : I64 save) :
  Does Tryz.prog 113 [.string f, .int .i64 off, .agg #[.int .i64 save, .string letter]] w (fun v O => v = xpV (abbrF f.data.toList off save letter.data.toList) ∧ O = []) := by
 have hk := fun w' => rkind_spec f hs w'
 have hp := fun w' => rparts_spec f hs w'
 have hlt := fun w' => rlet21_spec f (by omega) w'
 have hfb := bytes_back f
 unfold LetR at hlt
 rw [partsR_eq] at hp
 have h3 := kindF_ne f.data.toList
 have h2 := @partsF_two f.data.toList
 have hbd := kindF_bd f.data.toList
 have hpn := partsF_eq f.data.toList
 unfold abbrF
 cases hP : partsF f.data.toList with
 | some ab =>
  obtain ⟨a, b⟩ := ab
  rw [hP] at hp
  simp only [slV] at hp hlt
  dsimp only
  have hK0 : kindF f.data.toList ≠ 0 := by
   intro h0
   rw [hpn, if_neg (by omega)] at hP
   cases hP
  generalize kindF f.data.toList = K at *
  have k0 : decide (K = 0) = false := decide_eq_false hK0
  refine Does_of_W Tryz.func113 rfl rfl rfl rfl ?_
  by_cases h0 : save = 0
  ·have s0 : decide (save = 0) = true := decide_eq_true h0
   rw [if_pos h0]
   repeat (first | refine wkRfP1 ?_ | (refine js ?_; (first | (apply Stp_call (h := fun w' _ _ => hlt w'); rfl; rintro v O' ⟨⟨lx, ly, rfl, hxy⟩, rfl⟩) | (refine bx ?_; intro bk))))
   exact rtB
  ·have s0 : decide (save = 0) = false := decide_eq_false h0
   rw [if_neg h0]
   repeat (first | refine wkRfP1 ?_ | (refine js ?_; (first | (apply Stp_call (h := fun w' _ _ => hlt w'); rfl; rintro v O' ⟨⟨lx, ly, rfl, hxy⟩, rfl⟩) | (refine bx ?_; intro bk))))
   exact rtB
 | none =>
 rw [hP] at hp h2
 clear hpn
 simp only [slV] at hp hlt
 dsimp only
 generalize kindF f.data.toList = K at *
 have hK2 : K ≠ 2 := fun h => by have := h2 h; cases this
 refine Does_of_W Tryz.func113 rfl rfl rfl rfl ?_
 by_cases hK0 : K = 0
 ·have k0 : decide (K = 0) = true := decide_eq_true hK0
  rw [if_neg (by omega), if_neg (by omega), if_neg (by omega)]
  repeat (first | refine wkRfP1 ?_ | (refine js ?_; (first | (apply Stp_call (h := fun w' _ _ => hlt w'); rfl; rintro v O' ⟨⟨lx, ly, rfl, hxy⟩, rfl⟩) | (refine bx ?_; intro bk))))
  exact rtB
 have k0 : decide (K = 0) = false := decide_eq_false hK0
 by_cases hK3 : K = 3
 ·have k3 : decide (K = 3) = true := decide_eq_true hK3
  have har := h3 hK3
  have hcl := cutV_len f.data.toList [37, 115]
  rw [show f.data.toList.length = f.size from rfl] at hcl
  rw [if_pos hK3]
  generalize (cutV f.data.toList [37, 115]).1 = a at *
  generalize (cutV f.data.toList [37, 115]).2.1 = b at *
  rw [har] at hlt ⊢
  dsimp only
  have hlt2 : ∀ w', Does Tryz.prog 119 [.string f] w' (fun v O => v = .tuple #[.string ⟨a.toArray⟩, .string ⟨b.toArray⟩, .bool true] ∧ O = []) := fun w' => (hlt w').mono fun v O h => by
   obtain ⟨⟨x, y, hv, hxy⟩, hO⟩ := h
   obtain ⟨rfl, rfl⟩ := hxy a b rfl
   exact ⟨hv, hO⟩
  have hs1 : (⟨a.toArray⟩ : ByteArray).size = a.length := by show a.toArray.size = a.length; simp
  have hs2 : (⟨b.toArray⟩ : ByteArray).size = b.length := by show b.toArray.size = b.length; simp
  have q1 : (⟨a.toArray⟩ : ByteArray).size + letter.size ≤ 9223372036854775807 := by omega
  have q2 : ((⟨a.toArray⟩ : ByteArray) ++ letter).size + (⟨b.toArray⟩ : ByteArray).size ≤ 9223372036854775807 := by rw [ByteArray.size_append]; omega
  have q3 : (((⟨a.toArray⟩ : ByteArray) ++ letter ++ ⟨b.toArray⟩).size : Int) ≤ 9223372036854775807 := by rw [ByteArray.size_append, ByteArray.size_append]; omega
  have hx : ((⟨a.toArray⟩ : ByteArray) ++ letter ++ ⟨b.toArray⟩).data.toList = a ++ letter.data.toList ++ b := by simp
  have hXb := bytes_back ((⟨a.toArray⟩ : ByteArray) ++ letter ++ ⟨b.toArray⟩)
  have hab := fun w' => rAbbr_spec ((⟨a.toArray⟩ : ByteArray) ++ letter ++ ⟨b.toArray⟩) q3 w'
  rw [show abbrB ((⟨a.toArray⟩ : ByteArray) ++ letter ++ ⟨b.toArray⟩) = abbrL (a ++ letter.data.toList ++ b) from by unfold abbrB abbrL; rw [hx]] at hab
  rw [hx] at hXb
  cases hok : abbrL (a ++ letter.data.toList ++ b) with
  | false =>
   rw [hok] at hab
   rw [if_neg (by decide)]
   repeat (first | refine und ?_ | (apply RL_pu; rfl; exact PuRfP2) | (refine js ?_; (first | (refine callE (fun w' _ => hk w') ?_) | (refine callE (fun w' _ => hp w') ?_) | (refine callE (fun w' _ => hlt2 w') ?_) | (refine callE (fun w' _ => hab w') ?_) | (refine bx ?_; intro bk))) | refine walk1 ?_)
   exact rtB
  | true =>
   rw [hok] at hab
   rw [if_pos rfl]
   unfold xpV
   dsimp only
   rw [hXb]
   repeat (first | refine und ?_ | (apply RL_pu; rfl; exact PuRfP2) | (refine js ?_; (first | (refine callE (fun w' _ => hk w') ?_) | (refine callE (fun w' _ => hp w') ?_) | (refine callE (fun w' _ => hlt2 w') ?_) | (refine callE (fun w' _ => hab w') ?_) | (refine bx ?_; intro bk))) | refine walk1 ?_)
   exact rtB
 have k3 : decide (K = 3) = false := decide_eq_false hK3
 rw [if_neg hK3]
 by_cases hK4 : K = 4
 ·have k4 : (!decide (K = 4)) = false := by rw [decide_eq_true hK4]; rfl
  rw [if_pos hK4]
  obtain ⟨W0, hW⟩ : ∃ W0, IntKind.i64.wrap (off + save) = W0 := ⟨_, rfl⟩
  have hwr : IntKind.i64.wrap (off + save) = if off + save < -9223372036854775808 then off + save + 18446744073709551616 else if 9223372036854775807 < off + save then off + save - 18446744073709551616 else off + save := by
   unfold I64 at ho hv
   rw [IntKind.wrap_i64]
   repeat' split
   all_goals omega
  have hfin : (if i64ok (off + save) = true ∧ textN (off + save) ≠ [] then (textN (off + save), (0 : Int)) else ([], 15)) = if textN (off + save) = [] then ([], 15) else (textN (off + save), 0) := by
   by_cases ht : textN (off + save) = []
   ·rw [if_neg (fun h => h.2 ht), if_pos ht]
   ·rw [if_pos ⟨by cases hh : i64ok (off + save) with | true => rfl | false => exact absurd (textN_ok hh) ht, ht⟩, if_neg ht]
  rw [hfin]
  obtain ⟨e1, g1⟩ : ∃ e, decide (100000 < off) = e := ⟨_, rfl⟩
  obtain ⟨e2, g2⟩ : ∃ e, decide (off < -100000) = e := ⟨_, rfl⟩
  obtain ⟨e3, g3⟩ : ∃ e, decide (100000 < save) = e := ⟨_, rfl⟩
  obtain ⟨e4, g4⟩ : ∃ e, decide (save < -100000) = e := ⟨_, rfl⟩
  obtain ⟨p1, g5⟩ : ∃ e, decide (0 < off) = e := ⟨_, rfl⟩
  obtain ⟨p2, g6⟩ : ∃ e, decide (0 < save) = e := ⟨_, rfl⟩
  by_cases hbig : (e1 || (e2 || (e3 || e4))) = false
  ·have hb : ¬ 100000 < off ∧ ¬ off < -100000 ∧ ¬ 100000 < save ∧ ¬ save < -100000 := by
    rw [← g1, ← g2, ← g3, ← g4] at hbig
    simp only [Bool.or_eq_false_iff, decide_eq_false_iff_not] at hbig
    exact hbig
   have hW1 : W0 = off + save := by rw [← hW, hwr, if_neg (by omega), if_neg (by omega)]
   subst hW1
   have htx := fun w' => rtext_spec (off + save) w'
   obtain ⟨rfl, rfl, rfl, rfl⟩ : e1 = false ∧ e2 = false ∧ e3 = false ∧ e4 = false := by simpa using hbig
   generalize textN (off + save) = t at *
   obtain ⟨q, s1⟩ : ∃ q, decide ((⟨t.toArray⟩ : ByteArray) = ⟨#[]⟩) = q := ⟨_, rfl⟩
   cases q with
   | true =>
    rw [if_pos (oneV s1)]
    repeat (first | refine wkRfP2 ?_ | (refine js ?_; (first | (apply Stp_call (h := fun w' _ _ => hlt w'); rfl; rintro v O' ⟨⟨lx, ly, rfl, hxy⟩, rfl⟩) | (refine bx ?_; intro bk))))
    exact rtB
   | false =>
    rw [if_neg (oneF s1)]
    repeat (first | refine wkRfP2 ?_ | (refine js ?_; (first | (apply Stp_call (h := fun w' _ _ => hlt w'); rfl; rintro v O' ⟨⟨lx, ly, rfl, hxy⟩, rfl⟩) | (refine bx ?_; intro bk))))
    exact rtB
  ·have hb4 : e1 = true ∨ (e1 = false ∧ e2 = true) ∨ (e1 = false ∧ e2 = false ∧ e3 = true) ∨ (e1 = false ∧ e2 = false ∧ e3 = false ∧ e4 = true) := by
    clear g1 g2 g3 g4
    revert hbig
    cases e1 <;> cases e2 <;> cases e3 <;> cases e4 <;> simp
   by_cases hsame : p1 = p2
   ·have hout : textN (off + save) = [] := by
     refine textN_out ?_
     rw [← g5, ← g6, decide_eq_decide] at hsame
     rw [← g1, ← g2, ← g3, ← g4] at hbig
     simp only [Bool.or_eq_false_iff, decide_eq_false_iff_not] at hbig
     omega
    rw [hout, if_pos rfl]
    subst hsame
    clear hbig
    rcases hb4 with rfl | ⟨rfl, rfl⟩ | ⟨rfl, rfl, rfl⟩ | ⟨rfl, rfl, rfl, rfl⟩ <;> cases p1
    all_goals
     repeat (first | refine wkRfP2 ?_ | (refine js ?_; (first | (apply Stp_call (h := fun w' _ _ => hlt w'); rfl; rintro v O' ⟨⟨lx, ly, rfl, hxy⟩, rfl⟩) | (refine bx ?_; intro bk))))
     exact rtB
   ·have hW1 : W0 = off + save := by
     have hs2 : ¬ ((0 < off) ↔ (0 < save)) := fun h => hsame (by rw [← g5, ← g6, decide_eq_decide]; exact h)
     unfold I64 at ho hv
     rw [← hW, hwr, if_neg (by omega), if_neg (by omega)]
    subst hW1
    have htx := fun w' => rtext_spec (off + save) w'
    generalize textN (off + save) = t at *
    obtain ⟨q, s1⟩ : ∃ q, decide ((⟨t.toArray⟩ : ByteArray) = ⟨#[]⟩) = q := ⟨_, rfl⟩
    have hp12 : p2 = !p1 := by
     revert hsame
     clear g5 g6
     cases p1 <;> cases p2 <;> simp
    subst hp12
    cases q with
    | true =>
     rw [if_pos (oneV s1)]
     clear hbig
     rcases hb4 with rfl | ⟨rfl, rfl⟩ | ⟨rfl, rfl, rfl⟩ | ⟨rfl, rfl, rfl, rfl⟩ <;> cases p1
     all_goals
      repeat (first | refine wkRfP2 ?_ | (refine js ?_; (first | (apply Stp_call (h := fun w' _ _ => hlt w'); rfl; rintro v O' ⟨⟨lx, ly, rfl, hxy⟩, rfl⟩) | (refine bx ?_; intro bk))))
      exact rtB
    | false =>
     rw [if_neg (oneF s1)]
     clear hbig
     rcases hb4 with rfl | ⟨rfl, rfl⟩ | ⟨rfl, rfl, rfl⟩ | ⟨rfl, rfl, rfl, rfl⟩ <;> cases p1
     all_goals
      repeat (first | refine wkRfP2 ?_ | (refine js ?_; (first | (apply Stp_call (h := fun w' _ _ => hlt w'); rfl; rintro v O' ⟨⟨lx, ly, rfl, hxy⟩, rfl⟩) | (refine bx ?_; intro bk))))
      exact rtB
 ·have k4 : (!decide (K = 4)) = true := by rw [decide_eq_false hK4]; rfl
  rw [if_neg hK4, if_pos (by omega)]
  repeat (first | refine wkRfP1 ?_ | (refine js ?_; (first | (apply Stp_call (h := fun w' _ _ => hlt w'); rfl; rintro v O' ⟨⟨lx, ly, rfl, hxy⟩, rfl⟩) | (refine bx ?_; intro bk))))
  exact ret_2 _ _ [] (.tmp rfl) (.tmp rfl) .nil ⟨by first | rfl | (unfold xpV; dsimp only; rw [hfb]), rfl⟩
end Go.Proofs.YtceekohkjgiabaaGreatDoor
