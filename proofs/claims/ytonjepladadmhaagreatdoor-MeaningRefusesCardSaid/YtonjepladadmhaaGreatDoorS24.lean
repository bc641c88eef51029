/- Contracts: format.Parts, Abbr. -/
import Derived.Test.YtonjepladadmhaaGreatDoorS23
set_option maxHeartbeats 4000000
set_option linter.unusedVariables false
set_option linter.unusedSimpArgs false
namespace Go.Wk
open Go Go.RowKit
end Go.Wk
namespace Go.Proofs.YtonjepladadmhaaGreatDoor
open Go Go.RowKit Go.Wk Go.Lib
attribute [local irreducible] W RL Does thenQ blockQ retQ Calls Pu Stp RD Qy Ay DoesIn RW
def ptsV : Option (List UInt8 × List UInt8) → Value
 | none => .tuple #[.string ByteArray.empty, .string ByteArray.empty, .bool false]
 | some (a, b) => .tuple #[.string ⟨a.toArray⟩, .string ⟨b.toArray⟩, .bool true]
theorem partsF_eq (l : List UInt8) : partsF l = if (cutV l [47]).2.2 = true ∧ (kindF l = 2 ∨ kindF l = 5) then some ((cutV l [47]).1, (cutV l [47]).2.1) else none := by
 unfold partsF cutV
 cases cutAt [47] l [] with
 | none => simp
 | some ab => simp
theorem kindF_ne (l : List UInt8) (h : kindF l = 3) : aroundF l = some ((cutV l [37, 115]).1, (cutV l [37, 115]).2.1) := by
 have hs : (aroundF l).isSome = true := by
  rw [kindF_eq] at h
  unfold kindV at h
  cases hx : (aroundF l).isSome with
  | true => rfl
  | false =>
   rw [hx] at h
   exfalso
   revert h
   repeat' split
   all_goals first | decide | (intro h; omega) | simp_all
 unfold aroundF cutV at *
 cases hc : cutAt [37, 115] l [] with
 | none => rw [hc] at hs; cases hs
 | some ab =>
  rw [hc] at hs
  dsimp only at hs ⊢
  split at hs
  ·rename_i h1; rw [if_pos h1]
  ·cases hs
theorem PuFmtC0 {G : Prop} (h : G := by (first | (apply Pu_addWE; rfl; rfl; exact hw) | (apply Pu_gtrB; rfl; rfl; exact b1) | (apply Pu_gtrB; rfl; rfl; exact b2) | (apply Pu_neqB'; rfl; rfl; exact b3))) : G := h
theorem PuFmtC1 {G : Prop} (h : G := by (first | (apply Pu_addWE; rfl; rfl; exact hw) | (apply Pu_gtrB; rfl; rfl; exact b1) | (apply Pu_gtrB; rfl; rfl; exact b2))) : G := h
theorem addAny_spec (a b : Int) (ha : I64 a) (hb : I64 b) (w : World) : Does Tryz.prog 135 [.int .i64 a, .int .i64 b] w (fun v O => v = .tuple #[.int .i64 (if i64ok (a + b) then a + b else 0), .bool (i64ok (a + b))] ∧ O = []) := by
 unfold I64 at ha hb
 have hw : IntKind.i64.wrap (a + b) = if a + b < -9223372036854775808 then a + b + 18446744073709551616 else if 9223372036854775807 < a + b then a + b - 18446744073709551616 else a + b := by
  rw [IntKind.wrap_i64]
  repeat' split
  all_goals omega
 refine Does_of_W Tryz.func135 rfl rfl rfl rfl ?_
 by_cases hlo : a + b < -9223372036854775808
 ·rw [if_pos hlo] at hw
  have hok : i64ok (a + b) = false := by unfold i64ok; rw [decide_eq_false (by omega)]; rfl
  have b1 : decide (a < a + b + 18446744073709551616) = true := decide_eq_true (by omega)
  have b2 : decide (0 < b) = false := decide_eq_false (by omega)
  have b3 : (!decide (b = 0)) = true := by rw [decide_eq_false (by omega)]; rfl
  rw [hok]
  repeat (first | (apply RL_pu; rfl; exact PuFmtC0) | refine walk1 ?_)
  exact rtB
 rw [if_neg hlo] at hw
 by_cases hhi : 9223372036854775807 < a + b
 ·rw [if_pos hhi] at hw
  have hok : i64ok (a + b) = false := by unfold i64ok; rw [decide_eq_false (show ¬ a + b ≤ 9223372036854775807 by omega), Bool.and_false]
  have b1 : decide (a < a + b - 18446744073709551616) = false := decide_eq_false (by omega)
  have b2 : decide (0 < b) = true := decide_eq_true (by omega)
  have b3 : (!decide (b = 0)) = true := by rw [decide_eq_false (by omega)]; rfl
  rw [hok]
  repeat (first | (apply RL_pu; rfl; exact PuFmtC0) | refine walk1 ?_)
  exact rtB
 rw [if_neg hhi] at hw
 have hok : i64ok (a + b) = true := by unfold i64ok; rw [decide_eq_true (by omega), decide_eq_true (by omega)]; rfl
 rw [hok, if_pos rfl]
 by_cases hp : 0 < b
 ·have b1 : decide (a < a + b) = true := decide_eq_true (by omega)
  have b2 : decide (0 < b) = true := decide_eq_true hp
  repeat (first | (apply RL_pu; rfl; exact PuFmtC1) | refine walk1 ?_)
  exact rtB
 ·have b1 : decide (a < a + b) = false := decide_eq_false (by omega)
  have b2 : decide (0 < b) = false := decide_eq_false hp
  repeat (first | (apply RL_pu; rfl; exact PuFmtC1) | refine walk1 ?_)
  exact rtB
theorem PuFmtC2 {G : Prop} (h : G := by (apply Pu_neqB'; rfl; rfl; exact b2)) : G := h
theorem parts_spec (f : ByteArray) (w : World) (hL : LibW w) (hs : f.size ≤ 1000000000) : Does Tryz.prog 130 [.string f] w (fun v O => v = ptsV (partsF f.data.toList) ∧ O = []) := by
 have hc := fun w' (hw : Bel w.heap.size w w') => cut_spec f ⟨#[47]⟩ w' (hL.up hw) (by omega)
 rw [show (⟨#[47]⟩ : ByteArray).data.toList = [47] from rfl] at hc
 have hk := fun w' (hw : Bel w.heap.size w w') => kind_spec f w' (hL.up hw) hs
 rw [partsF_eq]
 generalize kindF f.data.toList = K at *
 generalize cutV f.data.toList [47] = ab at *
 obtain ⟨a, b, ok⟩ := ab
 dsimp only at hc ⊢
 refine Does_of_W Tryz.func130 rfl rfl rfl rfl ?_
 cases ok with
 | false =>
  rw [if_neg (by rintro ⟨h, _⟩; cases h)]
  repeat (first | refine und ?_ | (refine js ?_; (first | (refine callE hc ?_) | (refine callE hk ?_))) | refine walk ?_)
  exact ret_3 _ _ _ [] (.tmp rfl) (.tmp rfl) (.tmp rfl) .nil ⟨rfl, rfl⟩
 | true =>
  by_cases h2 : K = 2
  ·subst h2
   rw [if_pos ⟨rfl, .inl rfl⟩]
   repeat (first | (refine js ?_; (first | (refine callE hc ?_) | (refine callE hk ?_))) | refine walk ?_)
   exact ret_3 _ _ _ [] (.tmp rfl) (.tmp rfl) (.tmp rfl) .nil ⟨rfl, rfl⟩
  ·have b2 : (!decide (K = 2)) = true := by rw [decide_eq_false h2]; rfl
   by_cases h5 : K = 5
   ·subst h5
    rw [if_pos ⟨rfl, .inr rfl⟩]
    repeat (first | (apply RL_pu; rfl; exact PuFmtC2) | (refine js ?_; (first | (refine callE hc ?_) | (refine callE hk ?_))) | refine walk1 ?_)
    exact ret_3 _ _ _ [] (.tmp rfl) (.tmp rfl) (.tmp rfl) .nil ⟨rfl, rfl⟩
   ·have b5 : (!decide (K = 5)) = true := by rw [decide_eq_false h5]; rfl
    rw [if_neg (by rintro ⟨_, h | h⟩; exact h2 h; exact h5 h)]
    repeat (first | (apply RL_pu; rfl; (first | exact PuFmtC2 | (apply Pu_neqB'; rfl; rfl; exact b5))) | (refine js ?_; (first | (refine callE hc ?_) | (refine callE hk ?_))) | refine walk1 ?_)
    exact ret_3 _ _ _ [] (.tmp rfl) (.tmp rfl) (.tmp rfl) .nil ⟨rfl, rfl⟩
theorem bytes_back (s : ByteArray) : (⟨s.data.toList.toArray⟩ : ByteArray) = s := by
 apply ByteArray.ext
 simp
theorem PuFmtC4 {G : Prop} (h : G := by (apply Pu_eqlB; rfl; rfl; exact hb0)) : G := h
theorem QyFmtC4 {G : Prop} (h : G := by first | (apply Qy_y; rfl; exact PuFmtC4) | exact QyA) : G := h
theorem QFFmtC4 {G : Prop} (h : G := by repeat (first | exact QF.nil | (apply QF.mk; rfl; rfl; decide +kernel; exact QyFmtC4))) : G := h
theorem PuFmtC5 {G : Prop} (h : G := by (first | (apply Pu_addS; rfl; rfl; exact q1) | (apply Pu_addS; rfl; rfl; exact q2))) : G := h
theorem QyFmtC5 {G : Prop} (h : G := by first | (apply Qy_y; rfl; exact PuFmtC5) | exact QyA) : G := h
theorem QFFmtC5 {G : Prop} (h : G := by repeat (first | exact QF.nil | (apply QF.mk; rfl; rfl; decide +kernel; exact QyFmtC5))) : G := h
theorem PuFmtC6 {G : Prop} (h : G := by (apply Pu_neqSB; rfl; rfl; exact hb)) : G := h
theorem QyFmtC6 {G : Prop} (h : G := by first | (apply Qy_y; rfl; exact PuFmtC6) | exact QyA) : G := h
theorem QFFmtC6 {G : Prop} (h : G := by repeat (first | exact QF.nil | (apply QF.mk; rfl; rfl; decide +kernel; exact QyFmtC6))) : G := h
theorem PuFmtC7 {G : Prop} (h : G := by (first | (apply Pu_eqlB; rfl; rfl; exact hb3) | (apply Pu_eqlB; rfl; rfl; exact hb4) | (apply Pu_eqlB; rfl; rfl; exact hb1) | (apply Pu_eqlB; rfl; rfl; exact hb5))) : G := h
theorem QyFmtC7 {G : Prop} (h : G := by first | (apply Qy_y; rfl; exact PuFmtC7) | exact QyA) : G := h
theorem QFFmtC7 {G : Prop} (h : G := by repeat (first | exact QF.nil | (apply QF.mk; rfl; rfl; decide +kernel; exact QyFmtC7))) : G := h
theorem fabbr_spec (f letter : ByteArray) (off save : Int) (w : World) (hL : LibW w) (hs : f.size ≤ 1000000000) (hl : letter.size ≤ 1000000000) (ho : I64 off) (hv : I64 save) :
  Does Tryz.prog 78 [.string f, .int .i64 off, .agg #[.int .i64 save, .string letter]] w (fun v O => v = xpV (abbrF f.data.toList off save letter.data.toList) ∧ O = []) := by
 have hp := fun w' (hw : Bel w.heap.size w w') => parts_spec f w' (hL.up hw) hs
 have hk := fun w' (hw : Bel w.heap.size w w') => kind_spec f w' (hL.up hw) hs
 have har := fun w' (hw : Bel w.heap.size w w') => around_spec f w' (hL.up hw) hs
 have hsm := fun w' => addAny_spec off save ho hv w'
 have h3 := kindF_ne f.data.toList
 have hcl := cutV_len f.data.toList [37, 115]
 have hfs : f.data.toList.length = f.size := by simp
 rw [hfs] at hcl
 have hfb := bytes_back f
 unfold arV at har
 unfold abbrF
 refine Does_of_W Tryz.func78 rfl rfl rfl rfl ?_
 cases hP : partsF f.data.toList with
 | some ab =>
  obtain ⟨a, b⟩ := ab
  rw [hP] at hp
  simp only [ptsV] at hp
  dsimp only
  by_cases h0 : save = 0
  ·subst h0
   rw [if_pos rfl]
   repeat (first | refine walk ?_ | (refine jg ?_; (try intro F); (first | (refine callE hp ?_) | (refine bx ?_; intro bk)); refine fin ?_) | (refine jn ?_; (try intro F); (first | (refine bx ?_; intro bk) | (apply Stp_pu; exact PuA)); refine fin ?_))
   exact rtB
  ·rw [if_neg h0]
   have hb0 : decide (save = 0) = false := decide_eq_false h0
   repeat (first | (apply RL_pu; rfl; exact PuFmtC4) | (apply RD_Q; rfl; rfl; decide +kernel; rfl; rfl; exact QyFmtC4) | refine walk1 ?_ | (refine jg ?_; (try intro F); (first | (refine callE hp ?_) | (refine bx ?_; intro bk)); first | refine ⟨_, EndsA, QFFmtC4, ?_⟩ | refine fin ?_) | (refine jn ?_; (try intro F); (first | (refine bx ?_; intro bk) | (apply Stp_pu; first | exact PuFmtC4 | exact PuA)); first | refine ⟨_, EndsA, QFFmtC4, ?_⟩ | refine fin ?_))
   exact rtB
 | none =>
 rw [hP] at hp
 simp only [ptsV] at hp
 dsimp only
 generalize kindF f.data.toList = K at *
 by_cases hK3 : K = 3
 ·subst hK3
  rw [if_pos rfl, h3 rfl]
  dsimp only
  generalize (cutV f.data.toList [37, 115]).1 = a at *
  generalize (cutV f.data.toList [37, 115]).2.1 = b at *
  have hs1 : (⟨a.toArray⟩ : ByteArray).size = a.length := by show a.toArray.size = a.length; simp
  have hs2 : (⟨b.toArray⟩ : ByteArray).size = b.length := by show b.toArray.size = b.length; simp
  have q1 : (⟨a.toArray⟩ : ByteArray).size + letter.size ≤ 9223372036854775807 := by omega
  have q2 : ((⟨a.toArray⟩ : ByteArray) ++ letter).size + (⟨b.toArray⟩ : ByteArray).size ≤ 9223372036854775807 := by rw [ByteArray.size_append]; omega
  have q3 : (((⟨a.toArray⟩ : ByteArray) ++ letter ++ ⟨b.toArray⟩).size : Int) ≤ 9223372036854775807 := by rw [ByteArray.size_append, ByteArray.size_append]; omega
  have hx : ((⟨a.toArray⟩ : ByteArray) ++ letter ++ ⟨b.toArray⟩).data.toList = a ++ letter.data.toList ++ b := by simp
  have hXb := bytes_back ((⟨a.toArray⟩ : ByteArray) ++ letter ++ ⟨b.toArray⟩)
  have hab := fun w' => abbr_spec ((⟨a.toArray⟩ : ByteArray) ++ letter ++ ⟨b.toArray⟩) q3 w'
  rw [show abbrB ((⟨a.toArray⟩ : ByteArray) ++ letter ++ ⟨b.toArray⟩) = abbrL (a ++ letter.data.toList ++ b) from by unfold abbrB abbrL; rw [hx]] at hab
  rw [hx] at hXb
  have hri := fun w' => right_spec ((⟨a.toArray⟩ : ByteArray) ++ letter ++ ⟨b.toArray⟩) (abbrL (a ++ letter.data.toList ++ b)) w'
  cases hok : abbrL (a ++ letter.data.toList ++ b) with
  | false =>
   rw [hok] at hab hri
   rw [if_neg (by decide)]
   repeat (first | (apply RL_pu; rfl; exact PuFmtC5) | (apply RD_Q; rfl; rfl; decide +kernel; rfl; rfl; exact QyFmtC5) | refine walk1 ?_ | (refine jg ?_; (try intro F); (first | (refine callE hp ?_) | (refine callE hk ?_) | (refine callE har ?_) | (refine callE (fun w' hw => hab w') ?_) | (refine callE (fun w' hw => hri w') ?_) | (refine bx ?_; intro bk)); first | refine ⟨_, EndsA, QFFmtC5, ?_⟩ | refine fin ?_) | (refine jn ?_; (try intro F); (first | (refine bx ?_; intro bk) | (apply Stp_pu; first | exact PuFmtC5 | exact PuA)); first | refine ⟨_, EndsA, QFFmtC5, ?_⟩ | refine fin ?_))
   exact rtB
  | true =>
   rw [hok] at hab hri
   rw [if_pos rfl]
   unfold xpV
   dsimp only
   rw [hXb]
   repeat (first | (apply RL_pu; rfl; exact PuFmtC5) | (apply RD_Q; rfl; rfl; decide +kernel; rfl; rfl; exact QyFmtC5) | refine walk1 ?_ | (refine jg ?_; (try intro F); (first | (refine callE hp ?_) | (refine callE hk ?_) | (refine callE har ?_) | (refine callE (fun w' hw => hab w') ?_) | (refine callE (fun w' hw => hri w') ?_) | (refine bx ?_; intro bk)); first | refine ⟨_, EndsA, QFFmtC5, ?_⟩ | refine fin ?_) | (refine jn ?_; (try intro F); (first | (refine bx ?_; intro bk) | (apply Stp_pu; first | exact PuFmtC5 | exact PuA)); first | refine ⟨_, EndsA, QFFmtC5, ?_⟩ | refine fin ?_))
   exact rtB
 have hb3 : decide (K = 3) = false := decide_eq_false hK3
 rw [if_neg hK3]
 by_cases hK4 : K = 4
 ·subst hK4
  rw [if_pos rfl]
  cases hok : i64ok (off + save) with
  | false =>
   rw [hok] at hsm
   rw [if_neg (by rintro ⟨h, _⟩; cases h)]
   have htx := fun w' => text_spec 0 w'
   have hr2 := fun w' => right_spec ⟨(textN 0).toArray⟩ false w'
   rw [if_neg (by decide)] at hsm
   repeat (first | refine walk ?_ | (refine jg ?_; (try intro F); (first | (refine callE hp ?_) | (refine callE hk ?_) | (refine callE (fun w' hw => hsm w') ?_) | (refine callE (fun w' hw => htx w') ?_) | (refine callE (fun w' hw => hr2 w') ?_) | (refine bx ?_; intro bk)); refine fin ?_) | (refine jn ?_; (try intro F); (first | (refine bx ?_; intro bk) | (apply Stp_pu; exact PuA)); refine fin ?_))
   exact rtB
  | true =>
   rw [hok, if_pos rfl] at hsm
   have htx := fun w' => text_spec (off + save) w'
   have hri := fun ok w' => right_spec ⟨(textN (off + save)).toArray⟩ ok w'
   by_cases he : textN (off + save) = []
   ·rw [if_neg (by rintro ⟨_, h⟩; exact h he)]
    have hr2 := hri false
    have hb : (!decide ((⟨(textN (off + save)).toArray⟩ : ByteArray) = ByteArray.empty)) = false := by rw [he]; decide
    repeat (first | (apply RL_pu; rfl; exact PuFmtC6) | (apply RD_Q; rfl; rfl; decide +kernel; rfl; rfl; exact QyFmtC6) | refine walk1 ?_ | (refine jg ?_; (try intro F); (first | (refine callE hp ?_) | (refine callE hk ?_) | (refine callE (fun w' hw => hsm w') ?_) | (refine callE (fun w' hw => htx w') ?_) | (refine callE (fun w' hw => hr2 w') ?_) | (refine bx ?_; intro bk)); first | refine ⟨_, EndsA, QFFmtC6, ?_⟩ | refine fin ?_) | (refine jn ?_; (try intro F); (first | (refine bx ?_; intro bk) | (apply Stp_pu; first | exact PuFmtC6 | exact PuA)); first | refine ⟨_, EndsA, QFFmtC6, ?_⟩ | refine fin ?_))
    exact rtB
   ·rw [if_pos ⟨rfl, he⟩]
    have hr2 := hri true
    have hb : (!decide ((⟨(textN (off + save)).toArray⟩ : ByteArray) = ByteArray.empty)) = true := by
     rw [decide_eq_false (fun h => he (by simpa using congrArg (fun b : ByteArray => b.data.toList) h))]; rfl
    repeat (first | (apply RL_pu; rfl; exact PuFmtC6) | (apply RD_Q; rfl; rfl; decide +kernel; rfl; rfl; exact QyFmtC6) | refine walk1 ?_ | (refine jg ?_; (try intro F); (first | (refine callE hp ?_) | (refine callE hk ?_) | (refine callE (fun w' hw => hsm w') ?_) | (refine callE (fun w' hw => htx w') ?_) | (refine callE (fun w' hw => hr2 w') ?_) | (refine bx ?_; intro bk)); first | refine ⟨_, EndsA, QFFmtC6, ?_⟩ | refine fin ?_) | (refine jn ?_; (try intro F); (first | (refine bx ?_; intro bk) | (apply Stp_pu; first | exact PuFmtC6 | exact PuA)); first | refine ⟨_, EndsA, QFFmtC6, ?_⟩ | refine fin ?_))
    exact rtB
 have hb4 : decide (K = 4) = false := decide_eq_false hK4
 rw [if_neg hK4]
 by_cases hK1 : K = 1
 ·subst hK1
  rw [if_pos (.inl rfl)]
  unfold xpV
  dsimp only
  rw [hfb]
  repeat (first | refine walk ?_ | (refine jg ?_; (try intro F); (first | (refine callE hp ?_) | (refine callE hk ?_) | (refine bx ?_; intro bk)); refine fin ?_) | (refine jn ?_; (try intro F); (first | (refine bx ?_; intro bk) | (apply Stp_pu; exact PuA)); refine fin ?_))
  exact rtB
 have hb1 : decide (K = 1) = false := decide_eq_false hK1
 by_cases hK5 : K = 5
 ·subst hK5
  rw [if_pos (.inr rfl)]
  unfold xpV
  dsimp only
  rw [hfb]
  repeat (first | refine walk ?_ | (refine jg ?_; (try intro F); (first | (refine callE hp ?_) | (refine callE hk ?_) | (refine bx ?_; intro bk)); refine fin ?_) | (refine jn ?_; (try intro F); (first | (refine bx ?_; intro bk) | (apply Stp_pu; exact PuA)); refine fin ?_))
  exact rtB
 have hb5 : decide (K = 5) = false := decide_eq_false hK5
 rw [if_neg (by rintro (h | h); exact hK1 h; exact hK5 h)]
 repeat (first | (apply RL_pu; rfl; exact PuFmtC7) | (apply RD_Q; rfl; rfl; decide +kernel; rfl; rfl; exact QyFmtC7) | refine walk1 ?_ | (refine jg ?_; (try intro F); (first | (refine callE hp ?_) | (refine callE hk ?_) | (refine bx ?_; intro bk)); first | refine ⟨_, EndsA, QFFmtC7, ?_⟩ | refine fin ?_) | (refine jn ?_; (try intro F); (first | (refine bx ?_; intro bk) | (apply Stp_pu; first | exact PuFmtC7 | exact PuA)); first | refine ⟨_, EndsA, QFFmtC7, ?_⟩ | refine fin ?_))
 exact rtB
end Go.Proofs.YtonjepladadmhaaGreatDoor
