/- Parts of the proof. -/
import Derived.Test.YtpcpmndldgejiaaGreatDoorW15
import Derived.Test.YtpcpmndldgejiaaGreatDoorW07
import Derived.Test.YtpcpmndldgejiaaGreatDoorW13
import Derived.Test.YtpcpmndldgejiaaGreatDoorW10
import Derived.Test.YtpcpmndldgejiaaGreatDoorW06
import Derived.Test.YtpcpmndldgejiaaGreatDoorW01
set_option maxHeartbeats 4000000
set_option linter.unusedVariables false
set_option linter.unusedSimpArgs false
namespace Go.Wk
open Go Go.RowKit
end Go.Wk
namespace Go.Proofs.YtpcpmndldgejiaaGreatDoor
open Go Go.RowKit Go.Wk Go.Lib
attribute [local irreducible] W RL Does Zay Zam retQ Calls Pu Stp RD Qy Ay Zan RW
def ptsV : Option (List UInt8 × List UInt8) -> Value
 | none => .tuple #[.string ByteArray.empty, .string ByteArray.empty, .bool false]
 | some (a, b) => .tuple #[.string ⟨a.toArray⟩, .string ⟨b.toArray⟩, .bool true]
theorem Ztb (l : List UInt8) : Zda l = if (cutV l [47]).2.2 = true /\ (ZbZ l = 2 \/ ZbZ l = 5) then some ((cutV l [47]).1, (cutV l [47]).2.1) else none := by
 unfold Zda cutV
 cases ZdP [47] l [] with
 | none => simp
 | some ab => simp
theorem Zwn (l : List UInt8) (h : ZbZ l = 3) : Zcg l = some ((cutV l [37, 115]).1, (cutV l [37, 115]).2.1) := by
 have hs : (Zcg l).isSome = true := by
  rw [Zqt] at h
  unfold Zna at h
  cases hx : (Zcg l).isSome with
  | true => rfl
  | false =>
   rw [hx] at h
   exfalso
   revert h
   repeat' split
   all_goals first | decide | (intro h; omega) | simp_all
 unfold Zcg cutV at *
 cases hc : ZdP [37, 115] l [] with
 | none => rw [hc] at hs; cases hs
 | some ab =>
  rw [hc] at hs
  dsimp only at hs ⊢
  split at hs
  ·rename_i h1; rw [if_pos h1]
  ·cases hs
theorem Zvz {G : Prop} (h : G := by (first | (apply Zmc; rfl; rfl; exact hw) | (apply ZaN; rfl; rfl; exact b1) | (apply ZaN; rfl; rfl; exact b2) | (apply ZaE; rfl; rfl; exact b3))) : G := h
theorem Zvy {G : Prop} (h : G := by (first | (apply Zmc; rfl; rfl; exact hw) | (apply ZaN; rfl; rfl; exact b1) | (apply ZaN; rfl; rfl; exact b2))) : G := h
theorem ZjN (a b : Int) (ha : I64 a) (hb : I64 b) (w : World) : Does Tryz.prog 118 [.int .i64 a, .int .i64 b] w (fun v O => v = .tuple #[.int .i64 (if ZdN (a + b) then a + b else 0), .bool (ZdN (a + b))] /\ O = []) := by
 unfold I64 at ha hb
 have hw : IntKind.i64.wrap (a + b) = if a + b < -9223372036854775808 then a + b + 18446744073709551616 else if 9223372036854775807 < a + b then a + b - 18446744073709551616 else a + b := by
  rw [IntKind.wrap_i64]
  repeat' split
  all_goals omega
 refine Zab Tryz.func118 rfl rfl rfl rfl ?_
 by_cases hlo : a + b < -9223372036854775808
 ·rw [if_pos hlo] at hw
  have hok : ZdN (a + b) = false := by unfold ZdN; rw [decide_eq_false (by omega)]; rfl
  have b1 : decide (a < a + b + 18446744073709551616) = true := decide_eq_true (by omega)
  have b2 : decide (0 < b) = false := decide_eq_false (by omega)
  have b3 : (!decide (b = 0)) = true := by rw [decide_eq_false (by omega)]; rfl
  rw [hok]
  repeat (first | (apply RL_pu; rfl; exact Zvz) | refine walk1 ?_)
  exact rtB
 rw [if_neg hlo] at hw
 by_cases hhi : 9223372036854775807 < a + b
 ·rw [if_pos hhi] at hw
  have hok : ZdN (a + b) = false := by unfold ZdN; rw [decide_eq_false (show ¬ a + b <= 9223372036854775807 by omega), Bool.and_false]
  have b1 : decide (a < a + b - 18446744073709551616) = false := decide_eq_false (by omega)
  have b2 : decide (0 < b) = true := decide_eq_true (by omega)
  have b3 : (!decide (b = 0)) = true := by rw [decide_eq_false (by omega)]; rfl
  rw [hok]
  repeat (first | (apply RL_pu; rfl; exact Zvz) | refine walk1 ?_)
  exact rtB
 rw [if_neg hhi] at hw
 have hok : ZdN (a + b) = true := by unfold ZdN; rw [decide_eq_true (by omega), decide_eq_true (by omega)]; rfl
 rw [hok, if_pos rfl]
 by_cases hp : 0 < b
 ·have b1 : decide (a < a + b) = true := decide_eq_true (by omega)
  have b2 : decide (0 < b) = true := decide_eq_true hp
  repeat (first | (apply RL_pu; rfl; exact Zvy) | refine walk1 ?_)
  exact rtB
 ·have b1 : decide (a < a + b) = false := decide_eq_false (by omega)
  have b2 : decide (0 < b) = false := decide_eq_false hp
  repeat (first | (apply RL_pu; rfl; exact Zvy) | refine walk1 ?_)
  exact rtB
theorem Zvx {G : Prop} (h : G := by (apply ZaE; rfl; rfl; exact b2)) : G := h
theorem Zry (f : ByteArray) (w : World) (hL : LibW w) (hs : f.size <= 1000000000) : Does Tryz.prog 113 [.string f] w (fun v O => v = ptsV (Zda f.data.toList) /\ O = []) := by
 have hc := fun w' (hw : Bel w.heap.size w w') => ZlN f ⟨#[47]⟩ w' (hL.up hw) (by omega)
 rw [show (⟨#[47]⟩ : ByteArray).data.toList = [47] from rfl] at hc
 have hk := fun w' (hw : Bel w.heap.size w w') => Zi3 f w' (hL.up hw) hs
 rw [Ztb]
 generalize ZbZ f.data.toList = K at *
 generalize cutV f.data.toList [47] = ab at *
 obtain ⟨a, b, ok⟩ := ab
 dsimp only at hc ⊢
 refine Zab Tryz.func113 rfl rfl rfl rfl ?_
 cases ok with
 | false =>
  rw [if_neg (by rintro ⟨h, _⟩; cases h)]
  repeat (first | refine und ?_ | (refine js ?_; (first | (refine Zac hc ?_) | (refine Zac hk ?_))) | refine walk ?_)
  exact ZfD _ _ _ [] (.tmp rfl) (.tmp rfl) (.tmp rfl) .nil ⟨rfl, rfl⟩
 | true =>
  by_cases h2 : K = 2
  ·subst h2
   rw [if_pos ⟨rfl, .inl rfl⟩]
   repeat (first | (refine js ?_; (first | (refine Zac hc ?_) | (refine Zac hk ?_))) | refine walk ?_)
   exact ZfD _ _ _ [] (.tmp rfl) (.tmp rfl) (.tmp rfl) .nil ⟨rfl, rfl⟩
  ·have b2 : (!decide (K = 2)) = true := by rw [decide_eq_false h2]; rfl
   by_cases h5 : K = 5
   ·subst h5
    rw [if_pos ⟨rfl, .inr rfl⟩]
    repeat (first | (apply RL_pu; rfl; exact Zvx) | (refine js ?_; (first | (refine Zac hc ?_) | (refine Zac hk ?_))) | refine walk1 ?_)
    exact ZfD _ _ _ [] (.tmp rfl) (.tmp rfl) (.tmp rfl) .nil ⟨rfl, rfl⟩
   ·have b5 : (!decide (K = 5)) = true := by rw [decide_eq_false h5]; rfl
    rw [if_neg (by rintro ⟨_, h | h⟩; exact h2 h; exact h5 h)]
    repeat (first | (apply RL_pu; rfl; (first | exact Zvx | (apply ZaE; rfl; rfl; exact b5))) | (refine js ?_; (first | (refine Zac hc ?_) | (refine Zac hk ?_))) | refine walk1 ?_)
    exact ZfD _ _ _ [] (.tmp rfl) (.tmp rfl) (.tmp rfl) .nil ⟨rfl, rfl⟩
theorem ZkW (s : ByteArray) : (⟨s.data.toList.toArray⟩ : ByteArray) = s := by
 apply ByteArray.ext
 simp
theorem Zvw {G : Prop} (h : G := by (apply ZaG; rfl; rfl; exact hb0)) : G := h
theorem ZjT {G : Prop} (h : G := by (first | (apply Zgm; rfl; rfl; exact q1) | (apply Zgm; rfl; rfl; exact q2))) : G := h
theorem Zpw {G : Prop} (h : G := by first | (apply Qy_y; rfl; exact ZjT) | exact QyA) : G := h
theorem Zl6 {G : Prop} (h : G := by repeat (first | exact QF.nil | (apply QF.mk; rfl; rfl; decide +kernel; exact Zpw))) : G := h
theorem Zmg {G : Prop} (h : G := by (apply Zg1; rfl; rfl; exact hb)) : G := h
theorem Zvv {G : Prop} (h : G := by (first | (apply ZaG; rfl; rfl; exact hb3) | (apply ZaG; rfl; rfl; exact hb4) | (apply ZaG; rfl; rfl; exact hb1) | (apply ZaG; rfl; rfl; exact hb5))) : G := h
theorem Zfl (f letter : ByteArray) (off save : Int) (w : World) (hL : LibW w) (hs : f.size <= 1000000000) (hl : letter.size <= 1000000000) (ho : I64 off) (hv : I64 save) :
  Does Tryz.prog 74 [.string f, .int .i64 off, .agg #[.int .i64 save, .string letter]] w (fun v O => v = xpV (Zcl f.data.toList off save letter.data.toList) /\ O = []) := by
 have hp := fun w' (hw : Bel w.heap.size w w') => Zry f w' (hL.up hw) hs
 have hk := fun w' (hw : Bel w.heap.size w w') => Zi3 f w' (hL.up hw) hs
 have har := fun w' (hw : Bel w.heap.size w w') => ZjH f w' (hL.up hw) hs
 have hsm := fun w' => ZjN off save ho hv w'
 have h3 := Zwn f.data.toList
 have hcl := ZlO f.data.toList [37, 115]
 have hfs : f.data.toList.length = f.size := by simp
 rw [hfs] at hcl
 have hfb := ZkW f
 unfold arV at har
 unfold Zcl
 refine Zab Tryz.func74 rfl rfl rfl rfl ?_
 cases hP : Zda f.data.toList with
 | some ab =>
  obtain ⟨a, b⟩ := ab
  rw [hP] at hp
  simp only [ptsV] at hp
  dsimp only
  by_cases h0 : save = 0
  ·subst h0
   rw [if_pos rfl]
   repeat (first | refine walk ?_ | (refine jg ?_; (try intro F); (first | (refine Zac hp ?_) | (refine bx ?_; intro bk)); refine fin ?_) | (refine jn ?_; (try intro F); (first | (refine bx ?_; intro bk) | (apply Zae; exact PuA)); refine fin ?_))
   exact rtB
  ·rw [if_neg h0]
   have hb0 : decide (save = 0) = false := decide_eq_false h0
   repeat (first | (apply RL_pu; rfl; exact Zvw) | (apply RD_Q; rfl; rfl; decide +kernel; rfl; rfl; exact QyFmtC4) | refine walk1 ?_ | (refine jg ?_; (try intro F); (first | (refine Zac hp ?_) | (refine bx ?_; intro bk)); first | refine ⟨_, EndsA, QFFmtC4, ?_⟩ | refine fin ?_) | (refine jn ?_; (try intro F); (first | (refine bx ?_; intro bk) | (apply Zae; first | exact Zvw | exact PuA)); first | refine ⟨_, EndsA, QFFmtC4, ?_⟩ | refine fin ?_))
   exact rtB
 | none =>
 rw [hP] at hp
 simp only [ptsV] at hp
 dsimp only
 generalize ZbZ f.data.toList = K at *
 by_cases hK3 : K = 3
 ·subst hK3
  rw [if_pos rfl, h3 rfl]
  dsimp only
  generalize (cutV f.data.toList [37, 115]).1 = a at *
  generalize (cutV f.data.toList [37, 115]).2.1 = b at *
  have hs1 : (⟨a.toArray⟩ : ByteArray).size = a.length := by show a.toArray.size = a.length; simp
  have hs2 : (⟨b.toArray⟩ : ByteArray).size = b.length := by show b.toArray.size = b.length; simp
  have q1 : (⟨a.toArray⟩ : ByteArray).size + letter.size <= 9223372036854775807 := by omega
  have q2 : ((⟨a.toArray⟩ : ByteArray) ++ letter).size + (⟨b.toArray⟩ : ByteArray).size <= 9223372036854775807 := by rw [ByteArray.size_append]; omega
  have q3 : (((⟨a.toArray⟩ : ByteArray) ++ letter ++ ⟨b.toArray⟩).size : Int) <= 9223372036854775807 := by rw [ByteArray.size_append, ByteArray.size_append]; omega
  have hx : ((⟨a.toArray⟩ : ByteArray) ++ letter ++ ⟨b.toArray⟩).data.toList = a ++ letter.data.toList ++ b := by simp
  have hXb := ZkW ((⟨a.toArray⟩ : ByteArray) ++ letter ++ ⟨b.toArray⟩)
  have hab := fun w' => ZgW ((⟨a.toArray⟩ : ByteArray) ++ letter ++ ⟨b.toArray⟩) q3 w'
  rw [show Zsh ((⟨a.toArray⟩ : ByteArray) ++ letter ++ ⟨b.toArray⟩) = ZcY (a ++ letter.data.toList ++ b) from by unfold Zsh ZcY; rw [hx]] at hab
  rw [hx] at hXb
  have hri := fun w' => Zhd ((⟨a.toArray⟩ : ByteArray) ++ letter ++ ⟨b.toArray⟩) (ZcY (a ++ letter.data.toList ++ b)) w'
  cases hok : ZcY (a ++ letter.data.toList ++ b) with
  | false =>
   rw [hok] at hab hri
   rw [if_neg (by decide)]
   repeat (first | (apply RL_pu; rfl; exact ZjT) | (apply RD_Q; rfl; rfl; decide +kernel; rfl; rfl; exact Zpw) | refine walk1 ?_ | (refine jg ?_; (try intro F); (first | (refine Zac hp ?_) | (refine Zac hk ?_) | (refine Zac har ?_) | (refine Zac (fun w' hw => hab w') ?_) | (refine Zac (fun w' hw => hri w') ?_) | (refine bx ?_; intro bk)); first | refine ⟨_, EndsA, Zl6, ?_⟩ | refine fin ?_) | (refine jn ?_; (try intro F); (first | (refine bx ?_; intro bk) | (apply Zae; first | exact ZjT | exact PuA)); first | refine ⟨_, EndsA, Zl6, ?_⟩ | refine fin ?_))
   exact rtB
  | true =>
   rw [hok] at hab hri
   rw [if_pos rfl]
   unfold xpV
   dsimp only
   rw [hXb]
   repeat (first | (apply RL_pu; rfl; exact ZjT) | (apply RD_Q; rfl; rfl; decide +kernel; rfl; rfl; exact Zpw) | refine walk1 ?_ | (refine jg ?_; (try intro F); (first | (refine Zac hp ?_) | (refine Zac hk ?_) | (refine Zac har ?_) | (refine Zac (fun w' hw => hab w') ?_) | (refine Zac (fun w' hw => hri w') ?_) | (refine bx ?_; intro bk)); first | refine ⟨_, EndsA, Zl6, ?_⟩ | refine fin ?_) | (refine jn ?_; (try intro F); (first | (refine bx ?_; intro bk) | (apply Zae; first | exact ZjT | exact PuA)); first | refine ⟨_, EndsA, Zl6, ?_⟩ | refine fin ?_))
   exact rtB
 have hb3 : decide (K = 3) = false := decide_eq_false hK3
 rw [if_neg hK3]
 by_cases hK4 : K = 4
 ·subst hK4
  rw [if_pos rfl]
  cases hok : ZdN (off + save) with
  | false =>
   rw [hok] at hsm
   rw [if_neg (by rintro ⟨h, _⟩; cases h)]
   have htx := fun w' => ZeH 0 w'
   have hr2 := fun w' => Zhd ⟨(Zcc 0).toArray⟩ false w'
   rw [if_neg (by decide)] at hsm
   repeat (first | refine walk ?_ | (refine jg ?_; (try intro F); (first | (refine Zac hp ?_) | (refine Zac hk ?_) | (refine Zac (fun w' hw => hsm w') ?_) | (refine Zac (fun w' hw => htx w') ?_) | (refine Zac (fun w' hw => hr2 w') ?_) | (refine bx ?_; intro bk)); refine fin ?_) | (refine jn ?_; (try intro F); (first | (refine bx ?_; intro bk) | (apply Zae; exact PuA)); refine fin ?_))
   exact rtB
  | true =>
   rw [hok, if_pos rfl] at hsm
   have htx := fun w' => ZeH (off + save) w'
   have hri := fun ok w' => Zhd ⟨(Zcc (off + save)).toArray⟩ ok w'
   by_cases he : Zcc (off + save) = []
   ·rw [if_neg (by rintro ⟨_, h⟩; exact h he)]
    have hr2 := hri false
    have hb : (!decide ((⟨(Zcc (off + save)).toArray⟩ : ByteArray) = ByteArray.empty)) = false := by rw [he]; decide
    repeat (first | (apply RL_pu; rfl; exact Zmg) | (apply RD_Q; rfl; rfl; decide +kernel; rfl; rfl; exact QyFmtC6) | refine walk1 ?_ | (refine jg ?_; (try intro F); (first | (refine Zac hp ?_) | (refine Zac hk ?_) | (refine Zac (fun w' hw => hsm w') ?_) | (refine Zac (fun w' hw => htx w') ?_) | (refine Zac (fun w' hw => hr2 w') ?_) | (refine bx ?_; intro bk)); first | refine ⟨_, EndsA, QFFmtC6, ?_⟩ | refine fin ?_) | (refine jn ?_; (try intro F); (first | (refine bx ?_; intro bk) | (apply Zae; first | exact Zmg | exact PuA)); first | refine ⟨_, EndsA, QFFmtC6, ?_⟩ | refine fin ?_))
    exact rtB
   ·rw [if_pos ⟨rfl, he⟩]
    have hr2 := hri true
    have hb : (!decide ((⟨(Zcc (off + save)).toArray⟩ : ByteArray) = ByteArray.empty)) = true := by
     rw [decide_eq_false (fun h => he (by simpa using congrArg (fun b : ByteArray => b.data.toList) h))]; rfl
    repeat (first | (apply RL_pu; rfl; exact Zmg) | (apply RD_Q; rfl; rfl; decide +kernel; rfl; rfl; exact QyFmtC6) | refine walk1 ?_ | (refine jg ?_; (try intro F); (first | (refine Zac hp ?_) | (refine Zac hk ?_) | (refine Zac (fun w' hw => hsm w') ?_) | (refine Zac (fun w' hw => htx w') ?_) | (refine Zac (fun w' hw => hr2 w') ?_) | (refine bx ?_; intro bk)); first | refine ⟨_, EndsA, QFFmtC6, ?_⟩ | refine fin ?_) | (refine jn ?_; (try intro F); (first | (refine bx ?_; intro bk) | (apply Zae; first | exact Zmg | exact PuA)); first | refine ⟨_, EndsA, QFFmtC6, ?_⟩ | refine fin ?_))
    exact rtB
 have hb4 : decide (K = 4) = false := decide_eq_false hK4
 rw [if_neg hK4]
 by_cases hK1 : K = 1
 ·subst hK1
  rw [if_pos (.inl rfl)]
  unfold xpV
  dsimp only
  rw [hfb]
  repeat (first | refine walk ?_ | (refine jg ?_; (try intro F); (first | (refine Zac hp ?_) | (refine Zac hk ?_) | (refine bx ?_; intro bk)); refine fin ?_) | (refine jn ?_; (try intro F); (first | (refine bx ?_; intro bk) | (apply Zae; exact PuA)); refine fin ?_))
  exact rtB
 have hb1 : decide (K = 1) = false := decide_eq_false hK1
 by_cases hK5 : K = 5
 ·subst hK5
  rw [if_pos (.inr rfl)]
  unfold xpV
  dsimp only
  rw [hfb]
  repeat (first | refine walk ?_ | (refine jg ?_; (try intro F); (first | (refine Zac hp ?_) | (refine Zac hk ?_) | (refine bx ?_; intro bk)); refine fin ?_) | (refine jn ?_; (try intro F); (first | (refine bx ?_; intro bk) | (apply Zae; exact PuA)); refine fin ?_))
  exact rtB
 have hb5 : decide (K = 5) = false := decide_eq_false hK5
 rw [if_neg (by rintro (h | h); exact hK1 h; exact hK5 h)]
 repeat (first | (apply RL_pu; rfl; exact Zvv) | (apply RD_Q; rfl; rfl; decide +kernel; rfl; rfl; exact QyFmtC7) | refine walk1 ?_ | (refine jg ?_; (try intro F); (first | (refine Zac hp ?_) | (refine Zac hk ?_) | (refine bx ?_; intro bk)); first | refine ⟨_, EndsA, QFFmtC7, ?_⟩ | refine fin ?_) | (refine jn ?_; (try intro F); (first | (refine bx ?_; intro bk) | (apply Zae; first | exact Zvv | exact PuA)); first | refine ⟨_, EndsA, QFFmtC7, ?_⟩ | refine fin ?_))
 exact rtB
end Go.Proofs.YtpcpmndldgejiaaGreatDoor
namespace Go.Proofs.YtpcpmndldgejiaaGreatDoor
open Go Go.RowKit Go.Wk
attribute [local irreducible] W RL Does Zay Zam retQ Calls Pu Stp RD Qy Ay Zan
end Go.Proofs.YtpcpmndldgejiaaGreatDoor
namespace Go.Wk
open Go Go.RowKit
def jan1 (y : Int) : Int := 365 * y + (y + 3) / 4 - (y + 99) / 100 + (y + 399) / 400 - 719528
def ZsT (y : Int) : Int := if Zj4 y then 366 else 365
theorem Zm9 (y : Int) : Zj4 y = true ↔ y % 4 = 0 /\ (y % 100 ≠ 0 \/ y % 400 = 0) := by
 unfold Zj4
 simp
theorem ZgF (y : Int) : jan1 (y + 1) = jan1 y + ZsT y := by
 unfold ZsT
 have h := Zm9 y
 by_cases hl : Zj4 y = true
 ·rw [if_pos hl]
  have := h.1 hl
  unfold jan1
  omega
 ·rw [if_neg hl]
  have : ¬ (y % 4 = 0 /\ (y % 100 ≠ 0 \/ y % 400 = 0)) := fun e => hl (h.2 e)
  unfold jan1
  omega
theorem Zic (y : Int) : 365 <= ZsT y /\ ZsT y <= 366 := by unfold ZsT; split <;> omega
theorem ZrO (y : Int) : jan1 y = Zbd y 1 1 := by
 unfold Zbd Zcf jan1
 rw [if_pos (by decide), show ((1 : Int) + 12 - 3).toNat = 10 by decide, show ZaM.getD 10 0 = 306 by decide]
 omega
theorem Zr3 (y : Int) (m : Nat) (h0 : 1 <= m) (h1 : m <= 11) : Zbd y ((m : Int) + 1) 1 = Zbd y m 1 + lenM y m := by
 have h := Zm9 y
 have hm : m = 1 \/ m = 2 \/ m = 3 \/ m = 4 \/ m = 5 \/ m = 6 \/ m = 7 \/ m = 8 \/ m = 9 \/ m = 10 \/ m = 11 := by omega
 rcases hm with rfl | rfl | rfl | rfl | rfl | rfl | rfl | rfl | rfl | rfl | rfl
 ·show Zcf (y - 1) 14 1 = Zcf (y - 1) 13 1 + 31
  unfold Zcf
  rw [show ((14 : Int) - 3).toNat = 11 by decide, show ((13 : Int) - 3).toNat = 10 by decide, show ZaM.getD 11 0 = 337 by decide, show ZaM.getD 10 0 = 306 by decide]
  omega
 ·show Zcf y 3 1 = Zcf (y - 1) 14 1 + (if Zj4 y then 29 else 28)
  unfold Zcf
  rw [show ((14 : Int) - 3).toNat = 11 by decide, show ((3 : Int) - 3).toNat = 0 by decide, show ZaM.getD 11 0 = 337 by decide, show ZaM.getD 0 0 = 0 by decide]
  by_cases hl : Zj4 y = true
  ·rw [if_pos hl]
   have := h.1 hl
   omega
  ·rw [if_neg hl]
   have : ¬ (y % 4 = 0 /\ (y % 100 ≠ 0 \/ y % 400 = 0)) := fun e => hl (h.2 e)
   omega
 all_goals
  show Zcf y _ 1 = Zcf y _ 1 + _
  unfold Zcf
 ·show y / 400 * 146097 + y % 400 * 365 + y % 400 / 4 - y % 400 / 100 + 31 + 1 - 1 - 719468 = y / 400 * 146097 + y % 400 * 365 + y % 400 / 4 - y % 400 / 100 + 0 + 1 - 1 - 719468 + 31
  omega
 ·show y / 400 * 146097 + y % 400 * 365 + y % 400 / 4 - y % 400 / 100 + 61 + 1 - 1 - 719468 = y / 400 * 146097 + y % 400 * 365 + y % 400 / 4 - y % 400 / 100 + 31 + 1 - 1 - 719468 + 30
  omega
 ·show y / 400 * 146097 + y % 400 * 365 + y % 400 / 4 - y % 400 / 100 + 92 + 1 - 1 - 719468 = y / 400 * 146097 + y % 400 * 365 + y % 400 / 4 - y % 400 / 100 + 61 + 1 - 1 - 719468 + 31
  omega
 ·show y / 400 * 146097 + y % 400 * 365 + y % 400 / 4 - y % 400 / 100 + 122 + 1 - 1 - 719468 = y / 400 * 146097 + y % 400 * 365 + y % 400 / 4 - y % 400 / 100 + 92 + 1 - 1 - 719468 + 30
  omega
 ·show y / 400 * 146097 + y % 400 * 365 + y % 400 / 4 - y % 400 / 100 + 153 + 1 - 1 - 719468 = y / 400 * 146097 + y % 400 * 365 + y % 400 / 4 - y % 400 / 100 + 122 + 1 - 1 - 719468 + 31
  omega
 ·show y / 400 * 146097 + y % 400 * 365 + y % 400 / 4 - y % 400 / 100 + 184 + 1 - 1 - 719468 = y / 400 * 146097 + y % 400 * 365 + y % 400 / 4 - y % 400 / 100 + 153 + 1 - 1 - 719468 + 31
  omega
 ·show y / 400 * 146097 + y % 400 * 365 + y % 400 / 4 - y % 400 / 100 + 214 + 1 - 1 - 719468 = y / 400 * 146097 + y % 400 * 365 + y % 400 / 4 - y % 400 / 100 + 184 + 1 - 1 - 719468 + 30
  omega
 ·show y / 400 * 146097 + y % 400 * 365 + y % 400 / 4 - y % 400 / 100 + 245 + 1 - 1 - 719468 = y / 400 * 146097 + y % 400 * 365 + y % 400 / 4 - y % 400 / 100 + 214 + 1 - 1 - 719468 + 31
  omega
 ·show y / 400 * 146097 + y % 400 * 365 + y % 400 / 4 - y % 400 / 100 + 275 + 1 - 1 - 719468 = y / 400 * 146097 + y % 400 * 365 + y % 400 / 4 - y % 400 / 100 + 245 + 1 - 1 - 719468 + 30
  omega
theorem Zwh (q : Int) (h0 : 0 <= q) : 10 <= monN q 11 ↔ 306 <= q := by
 have b11 : ZaM.getD 11 0 = 337 := by decide
 have b10 : ZaM.getD 10 0 = 306 := by decide
 have hle : ∀ m, monN q m <= m := by
  intro m
  induction m with
  | zero => exact Nat.le_refl _
  | succ m ih => rw [monN]; split <;> omega
 rw [monN, monN]
 simp only [b11, show ZaM.getD (9 + 1) 0 = 306 from b10, show ZaM.getD (10 + 1) 0 = 337 from b11]
 have h9 := hle 9
 split
 ·constructor <;> intro <;> omega
 ·split
  ·constructor <;> intro <;> omega
  ·constructor <;> intro <;> omega
theorem Zwq (c y : Int) (h0 : 0 <= y) (h1 : y <= 399) : jan1 (c * 400 + y + 1) = c * 146097 + (y * 365 + y / 4 - y / 100) + 306 - 719468 := by
 have e1 : (c * 400 + y + 1 + 3) / 4 = 100 * c + y / 4 + 1 := by omega
 have e2 : (c * 400 + y + 1 + 99) / 100 = 4 * c + y / 100 + 1 := by omega
 have e3 : (c * 400 + y + 1 + 399) / 400 = c + 1 := by omega
 unfold jan1
 rw [e1, e2, e3]
 omega
theorem Zuc (n : Int) : jan1 (Zj8 n) <= n /\ n < jan1 (Zj8 n + 1) := by
 have hD : Zj8 n = if 10 <= monN ((n + 719468) % 146097 - (ZcT ((n + 719468) % 146097) * 365 + ZcT ((n + 719468) % 146097) / 4 - ZcT ((n + 719468) % 146097) / 100)) 11 then (n + 719468) / 146097 * 400 + ZcT ((n + 719468) % 146097) + 1 else (n + 719468) / 146097 * 400 + ZcT ((n + 719468) % 146097) := rfl
 have c3 : 0 <= (n + 719468) % 146097 /\ (n + 719468) % 146097 < 146097 := by omega
 have hn : n = (n + 719468) / 146097 * 146097 + (n + 719468) % 146097 - 719468 := by omega
 have hb := ZpW _ c3.1 c3.2
 generalize (n + 719468) % 146097 = r at *
 generalize (n + 719468) / 146097 = c at *
 generalize ZcT r = y at *
 obtain ⟨y1, y2, y3, y4⟩ := hb
 have ht := Zwh _ y3
 have hm := Zwq c y y1 y2
 by_cases h : 10 <= monN (r - (y * 365 + y / 4 - y / 100)) 11
 ·rw [if_pos h] at hD
  have hq := ht.1 h
  have h2 := ZgF (c * 400 + y + 1)
  have h3 := Zic (c * 400 + y + 1)
  rw [hD, h2, hm]
  omega
 ·rw [if_neg h] at hD
  have hq : ¬ 306 <= r - (y * 365 + y / 4 - y / 100) := fun e => h (ht.2 e)
  have h2 := ZgF (c * 400 + y)
  have h3 := Zic (c * 400 + y)
  rw [hD]
  omega
theorem ZtJ (a : Int) (k : Nat) : jan1 a + 365 * k <= jan1 (a + k) := by
 induction k with
 | zero => simp
 | succ k ih =>
  have := ZgF (a + k)
  have h2 := Zic (a + k)
  rw [show a + ((k + 1 : Nat) : Int) = a + k + 1 by omega, this]
  omega
theorem Zr2 (y m : Int) : Zbd y m 1 + 365 <= Zbd (y + 1) m 1 := by
 unfold Zbd Zcf
 split <;> omega
theorem Zr4 (y m : Int) (k : Nat) : Zbd y m 1 + 365 * k <= Zbd (y + k) m 1 := by
 induction k with
 | zero => simp
 | succ k ih =>
  have := Zr2 (y + k) m
  rw [show y + ((k + 1 : Nat) : Int) = y + k + 1 by omega]
  omega
theorem ZkP (y : Int) : ∀ (m : Nat), m <= 11 -> jan1 y <= Zbd y ((m : Int) + 1) 1 /\ Zbd y ((m : Int) + 1) 1 <= jan1 y + 31 * m
 | 0, _ => by rw [ZrO]; simp
 | m + 1, h => by
  have ih := ZkP y m (by omega)
  have h1 := Zr3 y (m + 1) (by omega) (by omega)
  have h2 := Zhl y ((m + 1 : Nat) : Int)
  rw [h1]
  rw [show ((m + 1 : Nat) : Int) = (m : Int) + 1 by omega] at *
  omega
theorem Zt8 (y m : Int) (h0 : 1 <= m) (h1 : m <= 12) : jan1 y <= Zbd y m 1 /\ Zbd y m 1 <= jan1 y + 341 := by
 have h := ZkP y (m - 1).toNat (by omega)
 rw [show (((m - 1).toNat : Nat) : Int) + 1 = m by omega] at h
 omega
theorem Ztg {y m : Int} {d : DDay} (h : (onD y m d).2 = 0) : 1 <= m /\ m <= 12 /\ Zbd y m 1 - 6 <= (onD y m d).1 /\ (onD y m d).1 <= Zbd y m 1 + 36 := by
 unfold onD at h ⊢
 by_cases h1 : ZbL y m 1 = false
 ·rw [if_pos h1] at h; simp at h
 rw [if_neg h1] at h ⊢
 by_cases h2 : Zco d = false
 ·rw [if_pos h2] at h; simp at h
 rw [if_neg h2] at h ⊢
 by_cases h3 : lenM y m < d.day
 ·rw [if_pos h3] at h; simp at h
 rw [if_neg h3]
 have hl := Zhl y m
 have hm : 1 <= m /\ m <= 12 := by
  simp only [ZbL, Bool.not_eq_false, Bool.and_eq_true, decide_eq_true_eq] at h1
  have h4 := h1.2
  unfold lenM at h4
  by_cases hb : m < 1 \/ 12 < m
  ·rw [if_pos hb] at h4; omega
  ·omega
 have hd : Zco d = true := by simpa using h2
 refine ⟨hm.1, hm.2, ?_⟩
 simp only [Zco, dayK, Zmq, Bool.and_eq_true, Bool.or_eq_false_iff, Bool.not_eq_true', decide_eq_true_eq, decide_eq_false_iff_not] at hd
 simp only [ZbL, Bool.not_eq_false, Bool.and_eq_true, decide_eq_true_eq] at h1
 obtain ⟨⟨k1, k2⟩, hk⟩ := hd
 have hdd : d.kind ≠ 2 -> 1 <= d.day := by
  intro h5
  have e1 : (!decide (d.kind = 2)) = true := by simpa using h5
  obtain ⟨⟨⟨⟨⟨_, _⟩, _⟩, h7⟩, h8⟩, _⟩ := hk
  rw [e1] at h7
  simp at h7
  omega
 unfold Ze3 Zen Ze8
 dsimp only
 split
 ·omega
 ·split
  ·omega
  ·split <;> omega
theorem ZdA {least : Int} {r : Zaa} {i y : Int} {e : Zad} (h : onR least r i y = some e) : e.year = y /\ e.rule = i /\ max r.from_ (-2000000000) <= y /\ y <= 2000000000 /\ -604799 <= r.at_.sec /\ r.at_.sec <= 604799 /\ (onD y r.month r.day).2 = 0 /\ e.nominal = 86400 * (onD y r.month r.day).1 + (r.at_.sec + (if r.at_.base = 1 then max least (-10800) else 0)) := by
 unfold onR at h
 split at h
 ·cases h
 rename_i h1
 split at h
 ·cases h
 rename_i h2
 cases h
 have hc : Zbb r.at_ = true := by
  cases hc : Zbb r.at_
  ·exact absurd (.inr (.inr hc)) h1
  ·rfl
 simp only [Zbb, Bool.and_eq_true, decide_eq_true_eq] at hc
 have hl : ¬ lastY r < y := fun h => h1 (.inr (.inl h))
 have hl2 : lastY r <= 2000000000 := by unfold lastY; split <;> omega
 refine ⟨rfl, rfl, ?_, by omega, hc.1.1.1, hc.1.1.2, Decidable.not_not.1 h2, ?_⟩
 ·have : ¬ y < max r.from_ (-2000000000) := fun h => h1 (.inl h)
  omega
 ·dsimp only
  omega
theorem Zqj {least : Int} (hl : least <= 0) {r : Zaa} {i y : Int} {e : Zad} (h : onR least r i y = some e) : jan1 y * 86400 - 1700000 <= e.nominal /\ e.nominal <= jan1 (y + 1) * 86400 + 1700000 := by
 obtain ⟨_, _, _, _, h3, h4, h5, h6⟩ := ZdA h
 obtain ⟨m1, m2, d1, d2⟩ := Ztg h5
 have hj := Zt8 y r.month m1 m2
 have hs := ZgF y
 have hz := Zic y
 have hm : -10800 <= (if r.at_.base = 1 then max least (-10800) else 0) /\ (if r.at_.base = 1 then max least (-10800) else 0) <= 0 := by split <;> omega
 generalize (if r.at_.base = 1 then max least (-10800) else 0) = mx at *
 generalize (onD y r.month r.day).1 = D at *
 omega
theorem Zif {least : Int} {r : Zaa} {i i' y y' : Int} {e e' : Zad} (h : onR least r i y = some e) (h' : onR least r i' y' = some e') (hy : y < y') : e.nominal < e'.nominal := by
 obtain ⟨_, _, _, _, h3, h4, h5, h6⟩ := ZdA h
 obtain ⟨_, _, _, _, g3, g4, g5, g6⟩ := ZdA h'
 obtain ⟨m1, m2, d1, d2⟩ := Ztg h5
 obtain ⟨n1, n2, e1, e2⟩ := Ztg g5
 have hk := Zr4 y r.month (y' - y).toNat
 rw [show y + ((y' - y).toNat : Int) = y' by omega] at hk
 rw [h6, g6]
 generalize r.at_.sec + (if r.at_.base = 1 then max least (-10800) else 0) = s at *
 generalize (onD y r.month r.day).1 = D at *
 generalize (onD y' r.month r.day).1 = D' at *
 omega
theorem Zgo {y y' : Int} (h : jan1 y * 86400 - 2100000 < jan1 (y' + 1) * 86400 + 2100000) : y <= y' + 1 := by
 by_cases hc : y <= y' + 1
 ·exact hc
 ·have := ZtJ (y' + 1) (y - (y' + 1)).toNat
  rw [show y' + 1 + ((y - (y' + 1)).toNat : Int) = y by omega] at this
  omega
theorem Zkf {t : Int} (h0 : -4000000000000 <= t) (h1 : t <= 4000000000000) : jan1 (Za2 t) * 86400 <= t /\ t < jan1 (Za2 t + 1) * 86400 := by
 have h := Zuc (t / 86400)
 have hb : -1000000000 <= Zj8 (t / 86400) /\ Zj8 (t / 86400) <= 1000000000 := by
  unfold jan1 at h
  omega
 have e : Za2 t = Zj8 (t / 86400) := by unfold Za2; omega
 rw [e]
 omega
def mar1 (y : Int) : Int := y / 400 * 146097 + y % 400 * 365 + y % 400 / 4 - y % 400 / 100 - 719468
theorem ZiS (y : Int) : mar1 y + 365 <= mar1 (y + 1) /\ mar1 (y + 1) <= mar1 y + 366 := by unfold mar1; omega
theorem ZmZ (y : Int) : ∀ k : Nat, mar1 y + 365 * k <= mar1 (y + k)
 | 0 => by simp
 | k + 1 => by
  have h1 := ZmZ y k
  have h2 := ZiS (y + k)
  rw [show y + ((k + 1 : Nat) : Int) = y + k + 1 by omega]
  omega
theorem ZeS {y z : Int} (h : y < z) : mar1 y + 365 <= mar1 z := by
 have h1 := ZmZ y (z - y).toNat
 rw [show y + ((z - y).toNat : Int) = z by omega] at h1
 omega
theorem Zhj {y z : Int} (h : y <= z) : mar1 y <= mar1 z := by
 by_cases he : y = z
 ·subst he; exact Int.le_refl _
 ·have := ZeS (y := y) (z := z) (by omega)
  omega
theorem ZnC (y m d : Int) (h : 3 <= m) : Zbd y m d = mar1 y + ZaM.getD (m - 3).toNat 0 + d - 1 := by
 unfold Zbd Zcf mar1
 rw [if_neg (by omega)]
 omega
theorem Zt9 (y : Int) : mar1 y - 29 <= Zbd y 2 1 /\ Zbd y 2 1 <= mar1 y - 28 := by
 have h := ZiS (y - 1)
 rw [show y - 1 + 1 = y by omega] at h
 unfold Zbd Zcf
 rw [if_pos (by omega), show ZaM.getD ((2 : Int) + 12 - 3).toNat 0 = 337 by decide]
 unfold mar1 at *
 omega
theorem ZlD (y m : Int) (h0 : 1 <= m) (h1 : m <= 12) : 28 <= lenM y m := by
 unfold lenM
 rw [if_neg (by omega)]
 split
 ·split <;> omega
 ·split <;> omega
def ZfH (d : DDay) : Prop := (d.kind = 2 /\ 0 <= d.week /\ d.week <= 6 /\ d.day = 0) \/ (d.kind = 3 /\ 0 <= d.week /\ d.week <= 6 /\ 1 <= d.day /\ d.day <= 22 /\ d.day.tmod 7 = 1) \/ (d.kind = 1 /\ d.week = 0 /\ 1 <= d.day /\ d.day <= 28)
theorem ZfH.chk {d : DDay} (h : ZfH d) : Zco d = true := by
 obtain ⟨k, w, n⟩ := d
 simp only [ZfH] at h
 rcases h with ⟨rfl, h1, h2, rfl⟩ | ⟨rfl, h1, h2, h3, h4, _⟩ | ⟨rfl, rfl, h3, h4⟩
 ·simp [Zco, dayK, Zmq]; omega
 ·simp [Zco, dayK, Zmq]; omega
 ·simp [Zco, dayK, Zmq]; omega
theorem ZfH.le28 {d : DDay} (h : ZfH d) : d.day <= 28 := by
 unfold ZfH at h
 omega
theorem ZfH.on {d : DDay} (h : ZfH d) {y m : Int} (hy : inY y = true) (h0 : 1 <= m) (h1 : m <= 12) : (onD y m d).2 = 0 /\ Zbd y m 1 <= (onD y m d).1 /\ (onD y m d).1 <= Zbd y m 1 + 30 := by
 have hl := ZlD y m h0 h1
 have hl2 := Zhl y m
 have h28 := h.le28
 have hd : ZbL y m 1 = true := by
  unfold ZbL
  rw [hy]
  simp
  omega
 unfold onD
 rw [if_neg (by rw [hd]; decide), if_neg (by rw [h.chk]; decide), if_neg (by omega)]
 refine ⟨rfl, ?_⟩
 dsimp only
 generalize Zbd y m 1 = D
 generalize lenM y m = L at *
 obtain ⟨k, w, n⟩ := d
 simp only [ZfH] at h
 unfold Ze3 Zen Ze8
 dsimp only at h28 ⊢
 rcases h with ⟨rfl, h1, h2, rfl⟩ | ⟨rfl, h1, h2, h3, h4, _⟩ | ⟨rfl, rfl, h3, h4⟩
 ·rw [if_neg (by decide), if_pos rfl]; omega
 ·rw [if_neg (by decide), if_neg (by decide), if_pos rfl]; omega
 ·rw [if_pos rfl]; omega
structure DrRule (r : Zaa) : Prop where
 f0 : 1900 <= r.from_
 f1 : r.from_ <= 2149
 ft : r.from_ <= r.to
 t1 : r.to <= 2149 \/ r.to = 1048576
 mon : (2 <= r.month /\ r.month <= 4) \/ r.month = 6 \/ (8 <= r.month /\ r.month <= 10)
 day : ZfH r.day
 clk : 0 <= r.at_.sec /\ r.at_.sec <= 86400 /\ 0 <= r.at_.base /\ r.at_.base <= 2
 save : -3600 <= r.save /\ r.save <= 7200
 letter : r.letter ∈ [ByteArray.empty, ⟨#[83]⟩, ⟨#[68]⟩, ⟨#[68, 84]⟩]
def sea (m : Int) : Int := if m <= 4 then 0 else if m <= 7 then 1 else 2
def loS (m : Int) : Int := if m <= 4 then -29 else if m <= 7 then 92 else 153
def hiS (m : Int) : Int := if m <= 4 then 62 else if m <= 7 then 123 else 245
theorem DrRule.mon12 {r : Zaa} (h : DrRule r) : 1 <= r.month /\ r.month <= 12 := by have := h.mon; omega
theorem ZzY {m : Int} (h : (2 <= m /\ m <= 4) \/ m = 6 \/ (8 <= m /\ m <= 10)) (y : Int) : mar1 y + loS m <= Zbd y m 1 /\ Zbd y m 1 + 31 <= mar1 y + hiS m := by
 have hc : m = 2 \/ m = 3 \/ m = 4 \/ m = 6 \/ m = 8 \/ m = 9 \/ m = 10 := by omega
 have hf := Zt9 y
 rcases hc with rfl | rfl | rfl | rfl | rfl | rfl | rfl
 ·simp only [loS, hiS]
  omega
 all_goals
  rw [ZnC _ _ _ (by decide)]
  simp only [loS, hiS, ZaM]
  simp
  omega
theorem DrRule.ev {r : Zaa} (h : DrRule r) {least i y : Int} {e : Zad} (hl : -3600 <= least /\ least <= 0) (he : onR least r i y = some e) :
  e.year = y /\ e.rule = i /\ r.from_ <= y /\ (r.to <= 2149 -> y <= r.to) /\ 86400 * (mar1 y + loS r.month) - 3600 <= e.nominal /\ e.nominal <= 86400 * (mar1 y + hiS r.month) := by
 have hf0 := h.f0
 have hc := h.clk
 obtain ⟨m0, m1⟩ := h.mon12
 obtain ⟨b1, b2⟩ := ZzY h.mon y
 unfold onR at he
 split at he
 ·cases he
 rename_i hy
 split at he
 ·cases he
 cases he
 have hyr : ¬ y < max r.from_ (-2000000000) := fun hh => hy (.inl hh)
 have hyl : ¬ lastY r < y := fun hh => hy (.inr (.inl hh))
 have hl2 : lastY r <= 2000000000 := by unfold lastY; split <;> omega
 have hyt : r.to <= 2149 -> y <= r.to := fun hh => by
  have : lastY r = r.to := by unfold lastY; rw [if_neg (by omega)]; omega
  omega
 have hin : inY y = true := by
  unfold inY
  simp
  omega
 obtain ⟨_, o1, o2⟩ := h.day.on hin m0 m1
 refine ⟨rfl, rfl, by omega, hyt, ?_⟩
 dsimp only
 have hm : -3600 <= (if r.at_.base = 1 then max least (-10800) else 0) /\ (if r.at_.base = 1 then max least (-10800) else 0) <= 0 := by split <;> omega
 generalize (if r.at_.base = 1 then max least (-10800) else 0) = mx at *
 generalize (onD y r.month r.day).1 = D at *
 omega
def Dist (a b : Zaa) : Prop := a.to < b.from_ \/ sea a.month ≠ sea b.month
theorem ZsX {a b : Int} (ha : (2 <= a /\ a <= 4) \/ a = 6 \/ (8 <= a /\ a <= 10)) (hb : (2 <= b /\ b <= 4) \/ b = 6 \/ (8 <= b /\ b <= 10)) (h : sea a ≠ sea b) : hiS a + 30 <= loS b \/ hiS b + 30 <= loS a := by
 unfold sea at h
 unfold hiS loS
 split at h <;> split at h <;> (try split at h) <;> (try split at h) <;> omega
theorem ZiY (m : Int) : -29 <= loS m /\ hiS m <= 245 := by
 unfold loS hiS
 split
 ·omega
 ·split <;> omega
theorem DrRule.far {a b : Zaa} (ha : DrRule a) (hb : DrRule b) {least i j y z : Int} {e f : Zad} (hl : -3600 <= least /\ least <= 0) (he : onR least a i y = some e) (hf : onR least b j z = some f) (hd : y = z -> Dist a b \/ Dist b a) :
  259200 <= e.nominal - f.nominal \/ 259200 <= f.nominal - e.nominal := by
 obtain ⟨_, _, a1, a2, a3, a4⟩ := ha.ev hl he
 obtain ⟨_, _, b1, b2, b3, b4⟩ := hb.ev hl hf
 have la := ZiY a.month
 have lb := ZiY b.month
 rcases Int.lt_trichotomy y z with h | h | h
 ·have := ZeS h
  omega
 ·subst h
  have hs : sea a.month ≠ sea b.month := by
   have af := ha.f1
   have bf := hb.f1
   rcases hd rfl with (h | h) | (h | h)
   ·have := a2 (by omega); omega
   ·exact h
   ·have := b2 (by omega); omega
   ·exact fun hh => h hh.symm
  have := ZsX ha.mon hb.mon hs
  omega
 ·have := ZeS h
  omega
end Go.Wk
namespace Go.Proofs.YtpcpmndldgejiaaGreatDoor
open Go Go.RowKit Go.Wk
def atB (l : List Int) (i n : Int) : Int := if l.length = 0 then 0 else l.getD (i % (l.length : Int)).toNat 0 % n
theorem Zaw (l : List Int) (i n : Int) (hn : 0 < n) : 0 <= atB l i n /\ atB l i n < n := by
 unfold atB
 split
 ·exact ⟨Int.le_refl 0, hn⟩
 ·exact ⟨Int.emod_nonneg _ (by omega), Int.emod_lt_of_pos _ hn⟩
def ZeA (l : List Int) (i : Int) : Zfe := ⟨atB l i 49 * 1800, atB l (i + 1) 3⟩
def dayB (l : List Int) (i : Int) : List DDay := [⟨2, atB l i 7, 0⟩, ⟨3, atB l i 7, 1 + 7 * atB l (i + 1) 4⟩, ⟨1, 0, 1 + atB l (i + 1) 28⟩]
def Zh9 (l : List Int) (i : Int) : DDay := (dayB l i).getD (atB l (i + 2) 3).toNat ⟨0, 0, 0⟩
def letA : List ByteArray := [⟨#[83]⟩, ⟨#[68]⟩, ⟨#[68, 84]⟩]
def letB : List ByteArray := [⟨#[]⟩, ⟨#[83]⟩]
def ZoC (l : List Int) (i a b save : Int) : Zaa := ⟨ByteArray.empty, a, b, 2 + atB l i 3, Zh9 l (i + 3), ZeA l (i + 6), save, letA.getD (atB l (i + 8) 3).toNat ByteArray.empty⟩
def Zrw (l : List Int) (i a b save : Int) : Zaa := ⟨ByteArray.empty, a, b, 8 + atB l (i + 1) 3, Zh9 l (i + 9), ZeA l (i + 12), save, letB.getD (atB l (i + 14) 2).toNat ByteArray.empty⟩
def Zgz (l : List Int) (i a b save : Int) : List Zaa := if atB l (i + 2) 4 = 0 then [ZoC l i a b 0, Zrw l i a b save] else [ZoC l i a b save, Zrw l i a b 0]
theorem Zdb (l : List Int) (i a b save : Int) : (Zgz l i a b save).length = 2 := by
 unfold Zgz
 split <;> rfl
def Zhb : List Int := [3600, 3600, 1800, 7200, -3600]
def ZbO (l : List Int) : Int := Zhb.getD (atB l 0 5).toNat 0
def ZyM (l : List Int) (f : Int) : Zaa := ⟨⟨#[]⟩, f, f, 6, ⟨1, 0, 1 + atB l 3 28⟩, ZeA l 4, 0, ⟨#[83]⟩⟩
def m1 (l : List Int) : List Zaa × Int := if atB l 2 3 = 0 then ([ZyM l (1900 + atB l 1 80)], 1900 + atB l 1 80 + 1) else ([], 1900 + atB l 1 80)
def m2 (l : List Int) (o : List Zaa) (f : Int) : List Zaa × Int := if atB l 5 2 = 0 then (o ++ Zgz l 7 f (f + atB l 6 12) (ZbO l), f + atB l 6 12 + 1 + atB l 8 5) else (o, f)
def to17 (l : List Int) (f : Int) : Int := if 0 < atB l 10 3 then 1048576 else f + atB l 9 6
def m3 (l : List Int) (o : List Zaa) (f : Int) : List Zaa := o ++ Zgz l 11 f (to17 l f) (ZbO l)
def ZcL (x : ByteArray) (r : Zaa) : Zaa := { r with name := x }
def Zce (l : List Int) (x : ByteArray) : List Zaa := (m3 l (m2 l (m1 l).1 (m1 l).2).1 (m2 l (m1 l).1 (m1 l).2).2).map (ZcL x)
theorem Zm1 (l : List Int) : (m1 l).1.length <= 1 /\ 1900 <= (m1 l).2 /\ (m1 l).2 <= 1980 := by
 have h1 := Zaw l 1 80 (by decide)
 unfold m1
 split <;> refine ⟨by simp, ?_, ?_⟩ <;> dsimp only <;> omega
theorem Zqq (l : List Int) (o : List Zaa) (f : Int) (ho : o.length <= 1) (h1 : 1900 <= f) (h2 : f <= 1980) : (m2 l o f).1.length <= 3 /\ 1900 <= (m2 l o f).2 /\ (m2 l o f).2 <= 2000 := by
 have h3 := Zaw l 6 12 (by decide)
 have h4 := Zaw l 8 5 (by decide)
 unfold m2
 split <;> refine ⟨?_, ?_, ?_⟩ <;> dsimp only <;> first | omega | (rw [List.length_append, Zdb]; omega)
def ZyS : Zbj := ⟨false, 0, 0, ⟨0, 0, 0⟩, ⟨0, 0⟩⟩
structure DDr where
 sets : List (List Int)
 zones : Int
 links : Int
 L : List Int
def DDr.nz (d : DDr) : Nat := (d.zones % 4).toNat
def DDr.nl (d : DDr) : Nat := (d.links % 4).toNat
theorem ZrH (l : List Int) (x : ByteArray) : (Zce l x).length <= 5 := by
 obtain ⟨q1, q2, q3⟩ := Zm1 l
 obtain ⟨q4, q5, q6⟩ := Zqq l (m1 l).1 (m1 l).2 q1 q2 q3
 rw [Zce, List.length_map, m3, List.length_append, Zdb]
 omega
def ZzF (P : Zad -> Prop) : Option Zad -> Prop
 | none => ∀ e, ¬ P e
 | some e => P e /\ ∀ e', P e' -> ltE e' e = false
def Zri (M : List Zad) (e : Zad) : Prop := ∃ x ∈ M, ltE x e = true /\ e.nominal - x.nominal < 259200
theorem ZgO : ∀ (M : List Zad), Zss M -> M.Nodup -> ZzF (fun e => e ∈ M /\ Zri M e) (ZhV M)
 | [], _, _ => fun e he => by simp at he
 | [a], _, _ => fun e he => by
  obtain ⟨h1, x, h2, h3, _⟩ := he
  rw [List.mem_singleton] at h1 h2
  subst h1 h2
  rw [swoE.irrefl] at h3
  cases h3
 | a :: b :: l, hd, hn => by
  obtain ⟨d1, d2⟩ := List.pairwise_cons.1 hd
  obtain ⟨n1, n2⟩ := List.nodup_cons.1 hn
  obtain ⟨d3, _⟩ := List.pairwise_cons.1 d2
  have ih := ZgO (b :: l) d2 n2
  have hlt : ∀ x ∈ b :: l, ltE x a = true := fun x hx => by
   cases h : ltE x a
   ·have := totE a x (d1 x hx) h
    subst this
    exact absurd hx n1
   ·rfl
  have hrest : ∀ e ∈ b :: l, Zri (a :: b :: l) e ↔ Zri (b :: l) e := fun e he => by
   constructor
   ·rintro ⟨x, hx, h1, h2⟩
    rcases List.mem_cons.1 hx with rfl | hx
    ·rw [d1 e he] at h1; cases h1
    ·exact ⟨x, hx, h1, h2⟩
   ·rintro ⟨x, hx, h1, h2⟩
    exact ⟨x, List.mem_cons_of_mem _ hx, h1, h2⟩
  have ha : Zri (a :: b :: l) a ↔ a.nominal - b.nominal < 259200 := by
   constructor
   ·rintro ⟨x, hx, h1, h2⟩
    rcases List.mem_cons.1 hx with rfl | hx
    ·rw [swoE.irrefl] at h1; cases h1
    ·have hxb : x.nominal <= b.nominal := by
      rcases List.mem_cons.1 hx with rfl | hx
      ·exact Int.le_refl _
      ·have h3 := d3 x hx
       simp only [ltE, Zhf, decide_eq_false_iff_not] at h3
       omega
     omega
   ·intro h
    exact ⟨b, List.mem_cons_of_mem _ List.mem_cons_self, hlt b List.mem_cons_self, h⟩
  rw [ZhV]
  cases hc : ZhV (b :: l) with
  | none =>
   rw [hc] at ih
   rw [Option.none_or]
   by_cases hab : a.nominal - b.nominal < 259200
   ·rw [if_pos hab]
    refine ⟨⟨List.mem_cons_self, ha.2 hab⟩, fun e he => ?_⟩
    rcases List.mem_cons.1 he.1 with rfl | h
    ·exact swoE.irrefl _
    ·exact absurd ⟨h, (hrest e h).1 he.2⟩ (ih e)
   ·rw [if_neg hab]
    intro e he
    rcases List.mem_cons.1 he.1 with rfl | h
    ·exact hab (ha.1 he.2)
    ·exact ih e ⟨h, (hrest e h).1 he.2⟩
  | some c =>
   rw [hc] at ih
   rw [Option.some_or]
   obtain ⟨⟨c1, c2⟩, c3⟩ := ih
   refine ⟨⟨List.mem_cons_of_mem _ c1, (hrest c c1).2 c2⟩, fun e he => ?_⟩
   rcases List.mem_cons.1 he.1 with rfl | h
   ·exact d1 c c1
   ·exact c3 e ⟨h, (hrest e h).1 he.2⟩
theorem Zd0 (L y : Int) : ∀ (l : List Zaa) (i : Nat) (e : Zad), e ∈ Zea L y l i ↔ ∃ (j : Nat) (r : Zaa), l[j]? = some r /\ onR L r ((i + j : Nat) : Int) y = some e
 | [], i, e => by simp [Zea]
 | r :: l, i, e => by
  rw [Zea, List.mem_append, Zd0 L y l (i + 1) e, Option.mem_toList]
  constructor
  ·rintro (h | ⟨j, r', h1, h2⟩)
   ·exact ⟨0, r, rfl, h⟩
   ·exact ⟨j + 1, r', by simpa using h1, by rw [show i + (j + 1) = i + 1 + j by omega]; exact h2⟩
  ·rintro ⟨j, r', h1, h2⟩
   cases j with
   | zero => simp only [List.getElem?_cons_zero, Option.some.injEq] at h1; subst h1; exact .inl h2
   | succ j => exact .inr ⟨j, r', by simpa using h1, by rw [show i + 1 + j = i + (j + 1) by omega]; exact h2⟩
theorem ZiR (l : List Zaa) (L f : Int) : ∀ (k : Nat) (e : Zad), e ∈ allC l L f k ↔ ∃ q : Nat, q < k /\ e ∈ Zea L (f + q) l 0
 | 0, e => by simp [allC]
 | k + 1, e => by
  rw [allC, List.mem_append, ZiR l L f k e]
  constructor
  ·rintro (⟨q, h1, h2⟩ | h)
   ·exact ⟨q, by omega, h2⟩
   ·exact ⟨k, by omega, h⟩
  ·rintro ⟨q, h1, h2⟩
   by_cases hq : q = k
   ·subst hq; exact .inr h2
   ·exact .inl ⟨q, by omega, h2⟩
theorem ZhH (L y : Int) : ∀ (l : List Zaa) (i : Nat), (Zea L y l i).Nodup
 | [], _ => List.nodup_nil
 | r :: l, i => by
  rw [Zea]
  refine List.nodup_append.2 ⟨?_, ZhH L y l (i + 1), ?_⟩
  ·cases onR L r i y <;> simp
  ·intro a ha b hb hab
   subst hab
   obtain ⟨j, r', _, h2⟩ := (Zd0 L y l (i + 1) a).1 hb
   have e1 := (ZdA (Option.mem_toList.1 ha)).2.1
   have e2 := (ZdA h2).2.1
   omega
theorem ZjL (l : List Zaa) (L f : Int) : ∀ k, (allC l L f k).Nodup
 | 0 => List.nodup_nil
 | k + 1 => by
  rw [allC]
  refine List.nodup_append.2 ⟨ZjL l L f k, ZhH _ _ _ _, ?_⟩
  intro a ha b hb hab
  subst hab
  obtain ⟨q, h1, h2⟩ := (ZiR l L f k a).1 ha
  obtain ⟨j, r, _, h3⟩ := (Zd0 _ _ _ _ _).1 h2
  obtain ⟨j', r', _, h4⟩ := (Zd0 _ _ _ _ _).1 hb
  have e1 := (ZdA h3).1
  have e2 := (ZdA h4).1
  omega
theorem Zgc (least nominal : Int) (r : Zaa) (i : Int) : ∀ (k : Nat) (y : Int) (e : Zad), evIn least nominal r i y k = some e -> ∃ q : Nat, onR least r i (y + q) = some e /\ nominal < e.nominal
 | 0, _, _, h => by cases h
 | k + 1, y, e, h => by
  rw [evIn] at h
  have ih := Zgc least nominal r i k (y + 1) e
  have lift : (∃ q : Nat, onR least r i (y + 1 + q) = some e /\ nominal < e.nominal) -> ∃ q : Nat, onR least r i (y + q) = some e /\ nominal < e.nominal := by
   rintro ⟨q, hq⟩
   exact ⟨q + 1, by rw [show y + ((q + 1 : Nat) : Int) = y + 1 + q by omega]; exact hq⟩
  cases he : onR least r i y with
  | none => rw [he] at h; exact lift (ih h)
  | some e' =>
   rw [he] at h
   dsimp only at h
   by_cases hc : nominal < e'.nominal
   ·rw [if_pos hc] at h
    cases h
    exact ⟨0, by simpa using he, hc⟩
   ·rw [if_neg hc] at h
    exact lift (ih h)
theorem Zho (least nominal : Int) (r : Zaa) (i : Int) : ∀ (k : Nat) (y : Int) (q : Nat) (e : Zad), q < k -> onR least r i (y + q) = some e -> nominal < e.nominal -> ∃ e', evIn least nominal r i y k = some e' /\ e'.nominal <= e.nominal
 | 0, _, _, _, h, _, _ => absurd h (by omega)
 | k + 1, y, q, e, h, h1, h2 => by
  rw [evIn]
  cases he : onR least r i y with
  | none =>
   cases q with
   | zero => rw [show y + ((0 : Nat) : Int) = y by omega, he] at h1; cases h1
   | succ q => exact Zho least nominal r i k (y + 1) q e (by omega) (by rw [show y + 1 + (q : Int) = y + ((q + 1 : Nat) : Int) by omega]; exact h1) h2
  | some e' =>
   dsimp only
   by_cases hc : nominal < e'.nominal
   ·rw [if_pos hc]
    refine ⟨e', rfl, ?_⟩
    cases q with
    | zero => rw [show y + ((0 : Nat) : Int) = y by omega, he] at h1; cases h1; exact Int.le_refl _
    | succ q => exact Int.le_of_lt (Zif he h1 (by omega))
   ·rw [if_neg hc]
    cases q with
    | zero => rw [show y + ((0 : Nat) : Int) = y by omega, he] at h1; cases h1; exact absurd h2 hc
    | succ q => exact Zho least nominal r i k (y + 1) q e (by omega) (by rw [show y + 1 + (q : Int) = y + ((q + 1 : Nat) : Int) by omega]; exact h1) h2
theorem ZdQ (least nominal yr : Int) : ∀ (l : List Zaa) (i : Nat) (b : Option Zad) (e : Zad), ZbQ least nominal yr l i b = some e -> b = some e \/ ∃ (j : Nat) (r : Zaa), l[j]? = some r /\ evIn least nominal r ((i + j : Nat) : Int) (max (max r.from_ (-2000000000)) (yr - 2)) 20 = some e
 | [], _, _, _, h => .inl h
 | r :: l, i, b, e, h => by
  rw [ZbQ] at h
  rcases ZdQ least nominal yr l (i + 1) _ e h with h1 | ⟨j, r', h1, h2⟩
  ·cases he : evIn least nominal r i (max (max r.from_ (-2000000000)) (yr - 2)) 20 with
   | none => rw [he] at h1; exact .inl h1
   | some e' =>
    rw [he] at h1
    have hr : ∀ x, e' = x -> ∃ (j : Nat) (r' : Zaa), (r :: l)[j]? = some r' /\ evIn least nominal r' ((i + j : Nat) : Int) (max (max r'.from_ (-2000000000)) (yr - 2)) 20 = some x := fun x hx => ⟨0, r, rfl, by rw [<- hx]; exact he⟩
    cases b with
    | none => cases h1; exact .inr (hr _ rfl)
    | some b =>
     dsimp only at h1
     split at h1
     ·cases h1; exact .inr (hr _ rfl)
     ·exact .inl h1
  ·exact .inr ⟨j + 1, r', by simpa using h1, by rw [show i + (j + 1) = i + 1 + j by omega]; exact h2⟩
theorem Zcu (least nominal yr : Int) : ∀ (l : List Zaa) (i : Nat) (b : Zad), ∃ e, ZbQ least nominal yr l i (some b) = some e /\ e.nominal <= b.nominal
 | [], _, b => ⟨b, rfl, Int.le_refl _⟩
 | r :: l, i, b => by
  rw [ZbQ]
  cases he : evIn least nominal r i (max (max r.from_ (-2000000000)) (yr - 2)) 20 with
  | none => exact Zcu least nominal yr l (i + 1) b
  | some e' =>
   dsimp only
   split
   ·rename_i hlt
    obtain ⟨e, h1, h2⟩ := Zcu least nominal yr l (i + 1) e'
    have : e'.nominal <= b.nominal := by
     unfold ordE at hlt
     split at hlt
     ·omega
     ·split at hlt
      ·omega
      ·omega
    exact ⟨e, h1, by omega⟩
   ·exact Zcu least nominal yr l (i + 1) b
theorem ZgU (least nominal yr : Int) : ∀ (l : List Zaa) (i : Nat) (b : Option Zad) (j : Nat) (r : Zaa) (e' : Zad), l[j]? = some r -> evIn least nominal r ((i + j : Nat) : Int) (max (max r.from_ (-2000000000)) (yr - 2)) 20 = some e' -> ∃ e, ZbQ least nominal yr l i b = some e /\ e.nominal <= e'.nominal
 | [], _, _, _, _, _, h, _ => by simp at h
 | r0 :: l, i, b, 0, r, e', h, h2 => by
  simp only [List.getElem?_cons_zero, Option.some.injEq] at h
  subst h
  rw [ZbQ, show evIn least nominal r0 (i : Int) (max (max r0.from_ (-2000000000)) (yr - 2)) 20 = some e' from h2]
  cases b with
  | none => exact Zcu least nominal yr l (i + 1) e'
  | some b =>
   dsimp only
   split
   ·exact Zcu least nominal yr l (i + 1) e'
   ·rename_i hlt
    obtain ⟨e, g1, g2⟩ := Zcu least nominal yr l (i + 1) b
    refine ⟨e, g1, ?_⟩
    unfold ordE at hlt
    split at hlt
    ·omega
    ·split at hlt <;> omega
 | r0 :: l, i, b, j + 1, r, e', h, h2 => by
  rw [ZbQ]
  exact ZgU least nominal yr l (i + 1) _ j r e' (by simpa using h) (by rw [show i + 1 + j = i + (j + 1) by omega]; exact h2)
end Go.Proofs.YtpcpmndldgejiaaGreatDoor
