/- Contracts: the reference of layers 4 and 20: numbers as texts. Contracts: the reference of layer 20: Parse, sum, Expansion. -/
import Derived.Test.YtceekohkjgiabaaGreatDoorQ28
import Derived.Test.YtceekohkjgiabaaGreatDoorQ32
import Derived.Test.YtceekohkjgiabaaGreatDoorQ18
set_option maxHeartbeats 4000000
set_option linter.unusedVariables false
set_option linter.unusedSimpArgs false
namespace Go.Wk
open Go Go.RowKit
section
variable {P : Program} {n : Nat} {wr : World} {fr : Fr} {O : List It} {ty : TypeId}
theorem Pu_sub8 {t t' : TypeId} {x y : Operand} {i j : Int} (hx : ev fr x = some (.int .u8 i)) (hy : ev fr y = some (.int .u8 j)) (h : 0 ≤ i - j ∧ i - j ≤ 255) : Pu P n wr fr O (.binOp .sub t x y t') ty (.int .u8 (i - j)) := by
 have := Pu_subW (P := P) (n := n) (wr := wr) (O := O) (ty := ty) (t := t) (t' := t') hx hy
 rwa [IntWalk.u8_in _ h] at this
theorem catB (a b : List UInt8) : (⟨a.toArray⟩ ++ ⟨b.toArray⟩ : ByteArray) = ⟨(a ++ b).toArray⟩ := by
 apply ByteArray.ext
 simp
theorem Pu_catB {t t' : TypeId} {x y : Operand} {a b : List UInt8} (hx : ev fr x = some (.string ⟨a.toArray⟩)) (hy : ev fr y = some (.string ⟨b.toArray⟩)) (h : a.length + b.length ≤ 9223372036854775807) : Pu P n wr fr O (.binOp .add t x y t') ty (.string ⟨(a ++ b).toArray⟩) := by
 have := Pu_addS (P := P) (n := n) (wr := wr) (O := O) (ty := ty) (t := t) (t' := t') hx hy h
 rwa [catB] at this
end
theorem dig2_len (n : Int) : (dig2 n).length = 2 := rfl
def twoR (l : List UInt8) (i : Nat) : Option Int :=
 match l[i]?, l[i + 1]? with
 | some c, some d => if digC c.toNat && digC d.toNat then some (10 * ((c.toNat : Int) - 48) + ((d.toNat : Int) - 48)) else none
 | _, _ => none
def parseRGo (l : List UInt8) : List Int → Nat → Int → Option Int
 | [], _, off => some off
 | u :: us, i, off => if l.length ≤ 1 + 2 * i then some off else match twoR l (1 + 2 * i) with | none => none | some n => parseRGo l us (i + 1) (off + n * u)
def endR (l : List UInt8) : Option Int → Option Int
 | none => none
 | some o => if l.isEmpty ∨ textN (if l.head? = some 45 then -o else o) ≠ l then none else some (if l.head? = some 45 then -o else o)
def parseR (l : List UInt8) : Option Int := endR l (parseRGo l [3600, 60, 1] 0 0)
theorem textN_odd (off : Int) : textN off = [] ∨ (textN off).length % 2 = 1 := by
 unfold textN
 split
 ·exact .inl rfl
 ·right
  dsimp only
  simp only [List.length_cons, List.length_append, dig2_len]
  repeat' split
  all_goals simp [dig2_len]
theorem numU_two (c d : UInt8) : numU [c, d] = if digC c.toNat && digC d.toNat then some (10 * ((c.toNat : Int) - 48) + ((d.toNat : Int) - 48)) else none := by
 unfold numU
 rw [if_neg (by simp)]
 have h : ∀ c : UInt8, (decide (48 ≤ c) && decide (c ≤ 57)) = digC c.toNat := fun c => by
  unfold digC
  rw [Bool.eq_iff_iff]
  simp only [Bool.and_eq_true, decide_eq_true_eq, UInt8.le_iff_toNat_le]
  constructor
  ·intro ⟨h1, h2⟩
   have e1 : (48 : UInt8).toNat = 48 := rfl
   have e2 : (57 : UInt8).toNat = 57 := rfl
   omega
  ·intro ⟨h1, h2⟩
   have e1 : (48 : UInt8).toNat = 48 := rfl
   have e2 : (57 : UInt8).toNat = 57 := rfl
   omega
 simp only [List.all_cons, List.all_nil, Bool.and_true, h, List.foldl_cons, List.foldl_nil]
 split
 ·congr 1; omega
 ·rfl
theorem parseGo_odd (l : List UInt8) (ho : l.length % 2 = 1) : ∀ (us : List Int) (i : Nat) (off : Int), parseGo l us i off = parseRGo l us i off
 | [], _, _ => rfl
 | u :: us, i, off => by
  rw [parseGo, parseRGo]
  by_cases h : l.length ≤ 1 + 2 * i
  ·rw [if_pos h, if_pos h]
  ·rw [if_neg h, if_neg h]
   have h1 : 1 + 2 * i < l.length := by omega
   have h2 : 1 + 2 * i + 1 < l.length := by omega
   have e : (l.drop (1 + 2 * i)).take 2 = [l[1 + 2 * i], l[1 + 2 * i + 1]] := by
    rw [List.drop_eq_getElem_cons h1, List.take_succ_cons, List.drop_eq_getElem_cons h2, List.take_succ_cons, List.take_zero]
   rw [e, numU_two]
   unfold twoR
   rw [List.getElem?_eq_getElem h1, List.getElem?_eq_getElem h2]
   dsimp only
   generalize (if (digC l[1 + 2 * i].toNat && digC l[1 + 2 * i + 1].toNat) = true then some (10 * ((l[1 + 2 * i].toNat : Int) - 48) + ((l[1 + 2 * i + 1].toNat : Int) - 48)) else none) = q
   cases q with
   | none => rfl
   | some n => exact parseGo_odd l ho us (i + 1) _
theorem endR_even {l : List UInt8} (he : l.length % 2 = 0) (o : Option Int) : endR l o = none := by
 cases o with
 | none => rfl
 | some o =>
  unfold endR
  dsimp only
  rw [if_pos]
  by_cases hl : l = []
  ·left; rw [hl]; rfl
  ·right
   intro e
   rcases textN_odd (if l.head? = some 45 then -o else o) with h | h
   ·rw [h] at e; exact hl e.symm
   ·rw [e] at h; omega
theorem parseN_end (l : List UInt8) : parseN l = endR l (parseGo l [3600, 60, 1] 0 0) := by
 unfold parseN endR
 cases parseGo l [3600, 60, 1] 0 0 <;> rfl
theorem parseR_eq (l : List UInt8) : parseR l = parseN l := by
 rw [parseN_end, parseR]
 by_cases h : l.length % 2 = 1
 ·rw [parseGo_odd l h]
 ·rw [endR_even (by omega), endR_even (by omega)]
theorem textN_out {n : Int} (h : n ≤ -86400 ∨ 86400 ≤ n) : textN n = [] := by unfold textN; rw [if_pos h]
end Go.Wk
namespace Go.Proofs.YtceekohkjgiabaaGreatDoor
open Go Go.RowKit Go.Wk
attribute [local irreducible] W RL Does thenQ blockQ retQ Calls Pu Stp RD Qy Ay DoesIn
theorem rdec_spec (n : Int) (h : 0 ≤ n ∧ n ≤ 9) (w : World) : Does Tryz.prog 219 [.int .i64 n] w (fun v O => v = .string ⟨[UInt8.ofNat (48 + n.toNat)].toArray⟩ ∧ O = []) := by
 have hx : (⟨#[48, 49, 50, 51, 52, 53, 54, 55, 56, 57]⟩ : ByteArray).extract n.toNat (n + 1).toNat = ⟨[UInt8.ofNat (48 + n.toNat)].toArray⟩ := by
  have hn : n = 0 ∨ n = 1 ∨ n = 2 ∨ n = 3 ∨ n = 4 ∨ n = 5 ∨ n = 6 ∨ n = 7 ∨ n = 8 ∨ n = 9 := by omega
  rcases hn with rfl | rfl | rfl | rfl | rfl | rfl | rfl | rfl | rfl | rfl <;> decide +kernel
 have b1 : decide (n < 10) = true := decide_eq_true (by omega)
 refine Does_of_W Tryz.func219 rfl rfl rfl rfl ?_
 repeat (first | (apply RL_pu; rfl; (first | (apply Pu_mul; rfl; rfl; (constructor <;> omega)) | (apply Pu_lssB; rfl; rfl; exact b1) | (apply Pu_sliceSS; rfl; rfl; rfl; omega; omega; (show n + 1 ≤ 10; omega); exact hx))) | refine walk1 ?_)
 exact rtA
theorem rtwo_spec (n : Int) (h : 0 ≤ n ∧ n ≤ 99) (w : World) : Does Tryz.prog 188 [.int .i64 n] w (fun v O => v = .string ⟨(dig2 n).toArray⟩ ∧ O = []) := by
 have h1 := fun w' => rdec_spec (n / 10) ⟨by omega, by omega⟩ w'
 have h2 := fun w' => rdec_spec (n % 10) ⟨by omega, by omega⟩ w'
 refine Does_of_W Tryz.func188 rfl rfl rfl rfl ?_
 repeat (first | (apply RL_pu; rfl; (first | (apply Pu_quo64; rfl; rfl; omega; omega; decide) | (apply Pu_remE; rfl; rfl; omega; decide) | (apply Pu_catB; rfl; rfl; (simp only [List.length_cons, List.length_nil]; omega)))) | (refine js ?_; (first | (refine callE (fun w' _ => h1 w') ?_) | (refine callE (fun w' _ => h2 w') ?_))) | refine walk1 ?_)
 exact rtA
theorem PuRfK2 {G : Prop} (h : G := by (apply Pu_lssB; rfl; rfl; exact b1)) : G := h
theorem PuRfK4 {G : Prop} (h : G := by (first | (apply Pu_quo64; rfl; rfl; omega; omega; decide) | (apply Pu_remE; rfl; rfl; omega; decide) | (apply Pu_catB; rfl; rfl; (simp only [List.length_cons, List.length_append, List.length_nil, dig2_len]; omega)) | (apply Pu_lssB; rfl; rfl; first | exact b1 | exact b3) | (apply Pu_gtrB; rfl; rfl; exact b2) | (apply Pu_neg64; rfl; (constructor <;> omega)) | (apply Pu_neqB'; rfl; rfl; first | exact c1 | exact c2))) : G := h
theorem wkRfK0 {G G' : Prop} (k : G') (h : Hold G' → G := by intro k9; (first | refine und ?_ | (apply RL_pu; rfl; exact PuRfK4) | (refine js ?_; (first | (refine callE (fun w' _ => h1 w') ?_) | (refine callE (fun w' _ => h2 w') ?_) | (refine callE (fun w' _ => h3 w') ?_))) | refine walk1 ?_); exact k9.out) : G := h ⟨k⟩
theorem rtext_spec (off : Int) (w : World) : Does Tryz.prog 154 [.int .i64 off] w (fun v O => v = .string ⟨(textN off).toArray⟩ ∧ O = []) := by
 refine Does_of_W Tryz.func154 rfl rfl rfl rfl ?_
 by_cases hlo : off < -86399
 ·have b1 : decide (off < -86399) = true := decide_eq_true hlo
  rw [textN_out (.inl (by omega))]
  repeat (first | refine und ?_ | (apply RL_pu; rfl; exact PuRfK2) | refine walk1 ?_)
  exact rtA
 have b1 : decide (off < -86399) = false := decide_eq_false hlo
 by_cases hhi : 86399 < off
 ·have b2 : decide (86399 < off) = true := decide_eq_true hhi
  rw [textN_out (.inr (by omega))]
  repeat (first | refine und ?_ | (apply RL_pu; rfl; (first | exact PuRfK2 | (apply Pu_gtrB; rfl; rfl; exact b2))) | refine walk1 ?_)
  exact rtA
 have b2 : decide (86399 < off) = false := decide_eq_false hhi
 have hT : textN off = (if off < 0 then (45 : UInt8) else 43) :: (dig2 ((if off < 0 then -off else off) / 3600) ++ (if (if off < 0 then -off else off) % 3600 = 0 then [] else dig2 ((if off < 0 then -off else off) / 60 % 60)) ++ (if (if off < 0 then -off else off) % 60 = 0 then [] else dig2 ((if off < 0 then -off else off) % 60))) := by
  unfold textN
  rw [if_neg (by omega)]
 rw [hT]
 by_cases hs : off < 0
 ·have b3 : decide (off < 0) = true := decide_eq_true hs
  simp only [if_pos hs]
  obtain ⟨x, hx⟩ : ∃ x, -off = x := ⟨_, rfl⟩
  rw [hx]
  have h1 := fun w' => rtwo_spec (x / 3600) ⟨by omega, by omega⟩ w'
  have h2 := fun w' => rtwo_spec (x / 60 % 60) ⟨by omega, by omega⟩ w'
  have h3 := fun w' => rtwo_spec (x % 60) ⟨by omega, by omega⟩ w'
  by_cases e1 : x % 3600 = 0
  ·have c1 : (!decide (x % 3600 = 0)) = false := by rw [decide_eq_true e1]; rfl
   have e2 : x % 60 = 0 := by omega
   have c2 : (!decide (x % 60 = 0)) = false := by rw [decide_eq_true e2]; rfl
   rw [if_pos e1, if_pos e2]
   subst hx
   repeat refine wkRfK0 ?_
   exact ret_1 _ [] (.tmp rfl) .nil ⟨by simp, rfl⟩
  ·have c1 : (!decide (x % 3600 = 0)) = true := by rw [decide_eq_false e1]; rfl
   rw [if_neg e1]
   by_cases e2 : x % 60 = 0
   ·have c2 : (!decide (x % 60 = 0)) = false := by rw [decide_eq_true e2]; rfl
    rw [if_pos e2]
    subst hx
    repeat refine wkRfK0 ?_
    exact ret_1 _ [] (.tmp rfl) .nil ⟨by simp, rfl⟩
   ·have c2 : (!decide (x % 60 = 0)) = true := by rw [decide_eq_false e2]; rfl
    rw [if_neg e2]
    subst hx
    repeat refine wkRfK0 ?_
    exact ret_1 _ [] (.tmp rfl) .nil ⟨by simp, rfl⟩
 ·have b3 : decide (off < 0) = false := decide_eq_false hs
  simp only [if_neg hs]
  have h1 := fun w' => rtwo_spec (off / 3600) ⟨by omega, by omega⟩ w'
  have h2 := fun w' => rtwo_spec (off / 60 % 60) ⟨by omega, by omega⟩ w'
  have h3 := fun w' => rtwo_spec (off % 60) ⟨by omega, by omega⟩ w'
  by_cases e1 : off % 3600 = 0
  ·have c1 : (!decide (off % 3600 = 0)) = false := by rw [decide_eq_true e1]; rfl
   have e2 : off % 60 = 0 := by omega
   have c2 : (!decide (off % 60 = 0)) = false := by rw [decide_eq_true e2]; rfl
   rw [if_pos e1, if_pos e2]
   repeat refine wkRfK0 ?_
   exact ret_1 _ [] (.tmp rfl) .nil ⟨by simp, rfl⟩
  ·have c1 : (!decide (off % 3600 = 0)) = true := by rw [decide_eq_false e1]; rfl
   rw [if_neg e1]
   by_cases e2 : off % 60 = 0
   ·have c2 : (!decide (off % 60 = 0)) = false := by rw [decide_eq_true e2]; rfl
    rw [if_pos e2]
    repeat refine wkRfK0 ?_
    exact ret_1 _ [] (.tmp rfl) .nil ⟨by simp, rfl⟩
   ·have c2 : (!decide (off % 60 = 0)) = true := by rw [decide_eq_false e2]; rfl
    rw [if_neg e2]
    repeat refine wkRfK0 ?_
    exact ret_1 _ [] (.tmp rfl) .nil ⟨by simp, rfl⟩
def optN : Option Int → Int
 | some n => n
 | none => -1
theorem PuRfK5 {G : Prop} (h : G := by (first | (apply Pu_mul; rfl; rfl; (constructor <;> omega)) | (apply Pu_indexC; rfl; rfl; omega; omega; first | exact hg1 | exact hg2) | (apply Pu_lssB; rfl; rfl; first | exact b1 | exact b3) | (apply Pu_gtrB; rfl; rfl; first | exact b0 | exact b2 | exact b4) | (apply Pu_sub8; rfl; rfl; (constructor <;> omega)) | (apply Pu_conv64; rfl; (constructor <;> omega)))) : G := h
theorem QyRfK5 {G : Prop} (h : G := by first | (apply Qy_y; rfl; exact PuRfK5) | exact QyA) : G := h
theorem QFRfK5 {G : Prop} (h : G := by repeat (first | exact QF.nil | (apply QF.mk; rfl; rfl; decide +kernel; exact QyRfK5))) : G := h
theorem wkRfK1 {G G' : Prop} (k : G') (h : Hold G' → G := by intro k9; (first | refine und ?_ | (apply RL_pu; rfl; exact PuRfK5) | (apply RD_Q; rfl; rfl; decide +kernel; rfl; rfl; exact QyRfK5) | refine walk1 ?_ | (refine jn ?_; (try intro F); (apply Stp_pu; first | exact PuRfK5 | exact PuA); first | refine ⟨_, EndsA, QFRfK5, ?_⟩ | refine fin ?_)); exact k9.out) : G := h ⟨k⟩
theorem rtwoN_spec (s : ByteArray) (i : Nat) (hs : (s.size : Int) ≤ 9223372036854775000) (hi : (i : Int) ≤ 9223372036854775000) (w : World) : Does Tryz.prog 193 [.string s, .int .i64 i] w (fun v O => v = .int .i64 (optN (twoR s.data.toList i)) ∧ O = []) := by
 have hL : s.data.toList.length = s.size := rfl
 unfold twoR
 refine Does_of_W Tryz.func193 rfl rfl rfl rfl ?_
 by_cases h0 : s.size < i + 2
 ·have b0 : decide ((s.size : Int) < (i : Int) + 2) = true := decide_eq_true (by omega)
  have hno : s.data.toList[i + 1]? = none := List.getElem?_eq_none (by omega)
  rw [hno]
  rw [show (match s.data.toList[i]?, (none : Option UInt8) with
   | some c, some d => if digC c.toNat && digC d.toNat then some (10 * ((c.toNat : Int) - 48) + ((d.toNat : Int) - 48)) else none
   | _, _ => none) = none by cases s.data.toList[i]? <;> rfl]
  repeat refine wkRfK1 ?_
  exact rtA
 have b0 : decide ((s.size : Int) < (i : Int) + 2) = false := decide_eq_false (by omega)
 have hg1 : s.data.toList.getD ((i : Int)).toNat 0 = s.data.toList[i] := getD_at (by omega)
 have hg2 : s.data.toList.getD ((i : Int) + 1).toNat 0 = s.data.toList[i + 1] := by rw [show ((i : Int) + 1).toNat = i + 1 by omega]; exact getD_at (by omega)
 rw [List.getElem?_eq_getElem (show i < s.data.toList.length by omega), List.getElem?_eq_getElem (show i + 1 < s.data.toList.length by omega)]
 dsimp only
 generalize s.data.toList[i] = c at *
 generalize s.data.toList[i + 1] = d at *
 have hc := c.toNat_lt
 have hd := d.toNat_lt
 unfold digC
 by_cases h1 : c.toNat < 48
 ·have b1 : decide ((c.toNat : Int) < 48) = true := decide_eq_true (by omega)
  rw [decide_eq_false (show ¬ (48 : Int) ≤ (c.toNat : Int) by omega)]
  repeat refine wkRfK1 ?_
  exact rtA
 have b1 : decide ((c.toNat : Int) < 48) = false := decide_eq_false (by omega)
 by_cases h2 : 57 < c.toNat
 ·have b2 : decide (57 < (c.toNat : Int)) = true := decide_eq_true (by omega)
  rw [decide_eq_false (show ¬ (c.toNat : Int) ≤ 57 by omega), Bool.and_false]
  repeat refine wkRfK1 ?_
  exact rtA
 have b2 : decide (57 < (c.toNat : Int)) = false := decide_eq_false (by omega)
 by_cases h3 : d.toNat < 48
 ·have b3 : decide ((d.toNat : Int) < 48) = true := decide_eq_true (by omega)
  rw [decide_eq_false (show ¬ (48 : Int) ≤ (d.toNat : Int) by omega), Bool.false_and, Bool.and_false]
  repeat refine wkRfK1 ?_
  exact rtA
 have b3 : decide ((d.toNat : Int) < 48) = false := decide_eq_false (by omega)
 by_cases h4 : 57 < d.toNat
 ·have b4 : decide (57 < (d.toNat : Int)) = true := decide_eq_true (by omega)
  rw [decide_eq_false (show ¬ (d.toNat : Int) ≤ 57 by omega), Bool.and_false, Bool.and_false]
  repeat refine wkRfK1 ?_
  exact rtA
 have b4 : decide (57 < (d.toNat : Int)) = false := decide_eq_false (by omega)
 rw [decide_eq_true (show (48 : Int) ≤ (c.toNat : Int) by omega), decide_eq_true (show (c.toNat : Int) ≤ 57 by omega), decide_eq_true (show (48 : Int) ≤ (d.toNat : Int) by omega), decide_eq_true (show (d.toNat : Int) ≤ 57 by omega)]
 rw [show optN (if (true && true && (true && true)) = true then some (10 * ((c.toNat : Int) - 48) + ((d.toNat : Int) - 48)) else none) = 10 * ((c.toNat : Int) - 48) + ((d.toNat : Int) - 48) from rfl]
 repeat (first | (apply RL_pu; rfl; exact PuRfK5) | (apply RD_Q; rfl; rfl; decide +kernel; rfl; rfl; exact QyRfK5) | refine walk1 ?_ | (refine jn ?_; (try intro F); (apply Stp_pu; first | exact PuRfK5 | exact PuA); first | refine ⟨_, EndsA, QFRfK5, ?_⟩ | refine fin ?_))
 exact rtA
end Go.Proofs.YtceekohkjgiabaaGreatDoor
namespace Go.Wk
open Go Go.RowKit
def unitN : Nat → Int
 | 0 => 3600
 | 1 => 60
 | 2 => 1
 | _ => 0
theorem unitN_lt {i : Nat} (h : i < 3) : ∃ us, ([3600, 60, 1] : List Int).drop i = unitN i :: us ∧ us = ([3600, 60, 1] : List Int).drop (i + 1) ∧ unitN (i + 1) = unitN i / 60 ∧ 1 ≤ unitN i ∧ unitN i ≤ 3600 := by
 have : i = 0 ∨ i = 1 ∨ i = 2 := by omega
 rcases this with rfl | rfl | rfl
 ·exact ⟨_, rfl, rfl, by decide, by decide, by decide⟩
 ·exact ⟨_, rfl, rfl, by decide, by decide, by decide⟩
 ·exact ⟨_, rfl, rfl, by decide, by decide, by decide⟩
theorem twoR_bd {l : List UInt8} {i : Nat} {n : Int} (h : twoR l i = some n) : 0 ≤ n ∧ n ≤ 99 := by
 unfold twoR at h
 split at h
 ·rename_i c d _ _
  split at h
  ·rename_i hd
   unfold digC at hd
   simp only [Bool.and_eq_true, decide_eq_true_eq] at hd
   simp only [Option.some.injEq] at h
   omega
  ·cases h
 ·cases h
theorem bytes_iff (l : List UInt8) (s : ByteArray) : (⟨l.toArray⟩ : ByteArray) = s ↔ l = s.data.toList := by
 constructor
 ·intro h; rw [← h]
 ·intro h; rw [h]
def oneX (t : List UInt8) : List UInt8 × Int := if t = [] then ([], 3) else (t, 0)
def twoX (t u : List UInt8) : List UInt8 × Int := if t = [] ∨ u = [] then ([], 3) else (t ++ 47 :: u, 0)
theorem textN_ok {n : Int} (h : i64ok n = false) : textN n = [] := textN_out (by
 unfold i64ok at h
 simp only [Bool.and_eq_false_iff, decide_eq_false_iff_not] at h
 omega)
def jN (off : Int) (s : List Int) : List UInt8 × Int := match joinN off s with | none => ([], 3) | some r => (slashed r, 0)
theorem jN_one (off s : Int) : jN off [s] = oneX (textN (off + s)) := by
 unfold jN oneX joinN joinN
 by_cases h : textN (off + s) = []
 ·rw [if_pos (.inr h), if_pos h]
 ·rw [if_neg (fun e => e.elim (fun e => h (textN_ok e)) h), if_neg h]
  rfl
theorem jN_two (off x : Int) : jN off [0, x] = twoX (textN off) (textN (off + x)) := by
 unfold jN twoX joinN joinN joinN
 rw [Int.add_zero]
 by_cases h : textN off = []
 ·rw [if_pos (.inr h), if_pos (.inl h)]
 ·rw [if_neg (fun e => e.elim (fun e => h (textN_ok e)) h)]
  by_cases h2 : textN (off + x) = []
  ·rw [if_pos (.inr h2), if_pos (.inr h2)]
  ·rw [if_neg (fun e => e.elim (fun e => h2 (textN_ok e)) h2), if_neg (fun e => e.elim h h2)]
   rfl
theorem expandN_eq (e : DEra) (l : List DRule) : expandN e l = if e.kind = 0 then oneX (textN e.off) else if e.kind = 1 then oneX (textN (e.off + e.save)) else if e.kind = 2 then (if (otherD l).2 then twoX (textN e.off) (textN (e.off + (otherD l).1)) else if (l.any fun r => !decide (r.save = 0)) then ([], 14) else oneX (textN e.off)) else ([], 2) := by
 have h1 := jN_one e.off 0
 rw [Int.add_zero] at h1
 rw [← h1, ← jN_one e.off e.save, ← jN_two e.off (otherD l).1]
 rfl
end Go.Wk
namespace Go.Proofs.YtceekohkjgiabaaGreatDoor
open Go Go.RowKit Go.Wk
attribute [local irreducible] W RL Does thenQ blockQ retQ Calls Pu Stp RD Qy Ay DoesIn
def parV (o : Option Int) : Value := .tuple #[.int .i64 (o.getD 0), .int .i64 (if o.isSome then 0 else 5)]
theorem PuRfL0 {G : Prop} (h : G := by (first | (apply Pu_mulE; rfl; rfl; exact hm; omega) | (apply Pu_quo64; rfl; rfl; omega; omega; decide) | (apply Pu_lssB; rfl; rfl; first | exact bl | exact bn) | (apply Pu_gtrB; rfl; rfl; first | exact bu | exact bs))) : G := h
theorem PuRfL2 {G : Prop} (h : G := by (first | exact PuRfL0 | (apply Pu_indexC; rfl; rfl; decide; omega; exact hgc) | (apply Pu_eqlB; rfl; rfl; exact bc) | (apply Pu_neg64; rfl; (constructor <;> omega)) | (apply Pu_eqlSB; rfl; rfl; exact be) | (apply Pu_neqSB; rfl; rfl; exact bt))) : G := h
theorem wkRfL0 {G G' : Prop} (k : G') (h : Hold G' → G := by intro k9; (first | refine und ?_ | (apply RL_pu; rfl; exact PuRfL2) | (refine js ?_; (refine callE (fun w' _ => ht w') ?_)) | refine walk1 ?_); exact k9.out) : G := h ⟨k⟩
set_option maxHeartbeats 1000000 in
theorem rparse_spec (s : ByteArray) (hs : s.size ≤ 1000000000000) (w : World) : Does Tryz.prog 160 [.string s] w (fun v O => v = parV (parseN s.data.toList) ∧ O = []) := by
 have hL : s.data.toList.length = s.size := rfl
 rw [← parseR_eq]
 unfold parseR
 obtain ⟨R, hR⟩ : ∃ R, parseRGo s.data.toList [3600, 60, 1] 0 0 = R := ⟨_, rfl⟩
 rw [hR]
 refine Does_of_W Tryz.func160 rfl rfl rfl rfl ?_
 repeat (first | refine walk ?_)
 refine W_loopF [(0, .string s)] [] (fun g : Nat × Int => [(4, .int .i64 g.2), (5, .int .i64 (unitN g.1)), (6, .int .i64 ((1 + 2 * g.1 : Nat) : Int))]) (fun _ => []) (fun g => g.1 ≤ 3 ∧ parseRGo s.data.toList (([3600, 60, 1] : List Int).drop g.1) g.1 g.2 = R ∧ 0 ≤ g.2 ∧ g.2 ≤ g.1 * 360000) (fun g => 3 - g.1) (0, 0) SFA SOA ⟨by omega, hR, Int.le_refl _, by decide⟩ ?_
 clear hR
 rintro ⟨i, off⟩ ⟨h1, hi, h3, h4⟩
 dsimp only at h1 hi h3 h4 ⊢
 by_cases hcond : 1 + 2 * i < s.size ∧ i < 3
 ·obtain ⟨hl, hi3⟩ := hcond
  obtain ⟨us, hu1, hu2, hu3, hu4, hu5⟩ := unitN_lt hi3
  rw [hu1, parseRGo, if_neg (by omega)] at hi
  have bl : decide (((1 + 2 * i : Nat) : Int) < (s.size : Int)) = true := decide_eq_true (by omega)
  have bu : decide (0 < unitN i) = true := decide_eq_true (by omega)
  have ht := fun w' => rtwoN_spec s (1 + 2 * i) (by omega) (by omega) w'
  have hbd := fun n => @twoR_bd s.data.toList (1 + 2 * i) n
  generalize twoR s.data.toList (1 + 2 * i) = o at *
  cases o with
  | none =>
   dsimp only at hi
   subst hi
   simp only [optN] at ht
   have bn : decide ((-1 : Int) < 0) = true := rfl
   repeat (first | (apply RL_pu; rfl; exact PuRfL0) | (refine js ?_; (refine callE (fun w' _ => ht w') ?_)) | refine walk1 ?_)
   exact rtB
  | some n =>
   have hnb := hbd n rfl
   dsimp only at hi
   simp only [optN] at ht
   have bn : decide (n < 0) = false := decide_eq_false (by omega)
   obtain ⟨m, hm⟩ : ∃ m, n * unitN i = m := ⟨_, rfl⟩
   have hmb : 0 ≤ m ∧ m ≤ 356400 := by
    rw [← hm]
    refine ⟨Int.mul_nonneg hnb.1 (by omega), ?_⟩
    have : n * unitN i ≤ 99 * 3600 := Int.mul_le_mul hnb.2 hu5 (by omega) (by decide)
    omega
   rw [hm, hu2] at hi
   generalize hun : unitN i = u at *
   repeat (first | (apply RL_pu; rfl; exact PuRfL0) | (refine js ?_; (refine callE (fun w' _ => ht w') ?_)) | refine walk1 ?_)
   refine ⟨(i + 1, off + m), OA, ⟨OA, hi, by dsimp only; omega, by dsimp only; omega⟩, ?_, SOA⟩
   dsimp only
   rw [hu3]
   exact SFA
 ·have hend : some off = R := by
   by_cases hi3 : i < 3
   ·obtain ⟨us, hu1, _⟩ := unitN_lt hi3
    rw [hu1, parseRGo, if_pos (by omega)] at hi
    exact hi
   ·obtain rfl : i = 3 := by omega
    exact hi
  clear hi
  subst hend
  have hd : (s.size : Int) ≤ ((1 + 2 * i : Nat) : Int) ∨ i = 3 := by omega
  obtain ⟨e1, bl⟩ : ∃ e, decide (((1 + 2 * i : Nat) : Int) < (s.size : Int)) = e := ⟨_, rfl⟩
  obtain ⟨e2, bu⟩ : ∃ e, decide (0 < unitN i) = e := ⟨_, rfl⟩
  have he : ¬ (e1 = true ∧ e2 = true) := by
   rintro ⟨rfl, rfl⟩
   have := of_decide_eq_true bl
   rcases hd with hd | rfl
   ·omega
   ·exact absurd (of_decide_eq_true bu) (by decide)
  have hd2 : e1 = false ∨ (e1 = true ∧ e2 = false) := by cases e1 <;> cases e2 <;> simp_all
  clear he hd hcond
  by_cases h0 : s.size = 0
  ·have bs : decide (0 < (s.size : Int)) = false := decide_eq_false (by omega)
   have hl0 : s.data.toList = [] := List.eq_nil_of_length_eq_zero (by omega)
   have be : decide (s = (⟨#[]⟩ : ByteArray)) = true := decide_eq_true ((bytes_iff [] s).2 hl0.symm).symm
   have hE : endR s.data.toList (some off) = none := by unfold endR; dsimp only; rw [if_pos (.inl (by rw [hl0]; rfl))]
   rw [hE]
   rcases hd2 with rfl | ⟨rfl, rfl⟩
   all_goals
    repeat (first | refine und ?_ | (apply RL_pu; rfl; (first | exact PuRfL0 | (apply Pu_eqlSB; rfl; rfl; exact be))) | (refine js ?_; (refine callE (fun w' _ => ht w') ?_)) | refine walk1 ?_)
    exact rtB
  have bs : decide (0 < (s.size : Int)) = true := decide_eq_true (by omega)
  have hne : s.data.toList ≠ [] := fun e => h0 (by rw [e] at hL; exact hL.symm)
  have be : decide (s = (⟨#[]⟩ : ByteArray)) = false := decide_eq_false (fun e => hne ((bytes_iff [] s).1 e.symm).symm)
  obtain ⟨c, hgc⟩ : ∃ c, s.data.toList.getD ((0 : Int)).toNat 0 = c := ⟨_, rfl⟩
  have hh : s.data.toList.head? = some c := by
   cases hd : s.data.toList with
   | nil => exact absurd hd hne
   | cons x l => rw [hd] at hgc; rw [← hgc]; rfl
  have hem : s.data.toList.isEmpty = false := by
   cases hd : s.data.toList with
   | nil => exact absurd hd hne
   | cons x l => rfl
  by_cases hc : c = 45
  ·have bc : decide ((c.toNat : Int) = 45) = true := by rw [hc]; rfl
   have ht := fun w' => rtext_spec (-off) w'
   by_cases hx : textN (-off) = s.data.toList
   ·have bt : (!decide ((⟨(textN (-off)).toArray⟩ : ByteArray) = s)) = false := by rw [decide_eq_true ((bytes_iff _ _).2 hx)]; rfl
    have hE : endR s.data.toList (some off) = some (-off) := by unfold endR; dsimp only; rw [hh, hc, if_pos rfl, if_neg (fun e => e.elim (fun e => by rw [hem] at e; cases e) (fun e => e hx))]
    rw [hE]
    rcases hd2 with rfl | ⟨rfl, rfl⟩
    all_goals
     repeat refine wkRfL0 ?_
     exact rtB
   ·have bt : (!decide ((⟨(textN (-off)).toArray⟩ : ByteArray) = s)) = true := by rw [decide_eq_false (fun e => hx ((bytes_iff _ _).1 e))]; rfl
    have hE : endR s.data.toList (some off) = none := by unfold endR; dsimp only; rw [hh, hc, if_pos rfl, if_pos (.inr hx)]
    rw [hE]
    rcases hd2 with rfl | ⟨rfl, rfl⟩
    all_goals
     repeat refine wkRfL0 ?_
     exact rtB
  ·have bc : decide ((c.toNat : Int) = 45) = false := decide_eq_false (fun e => hc (UInt8.toNat_inj.1 (by show c.toNat = 45; omega)))
   have ht := fun w' => rtext_spec off w'
   have hc' : ¬ (some c = some (45 : UInt8)) := fun e => hc (by injection e)
   by_cases hx : textN off = s.data.toList
   ·have bt : (!decide ((⟨(textN off).toArray⟩ : ByteArray) = s)) = false := by rw [decide_eq_true ((bytes_iff _ _).2 hx)]; rfl
    have hE : endR s.data.toList (some off) = some off := by unfold endR; dsimp only; rw [hh, if_neg hc', if_neg (fun e => e.elim (fun e => by rw [hem] at e; cases e) (fun e => e hx))]
    rw [hE]
    rcases hd2 with rfl | ⟨rfl, rfl⟩
    all_goals
     repeat refine wkRfL0 ?_
     exact rtB
   ·have bt : (!decide ((⟨(textN off).toArray⟩ : ByteArray) = s)) = true := by rw [decide_eq_false (fun e => hx ((bytes_iff _ _).1 e))]; rfl
    have hE : endR s.data.toList (some off) = none := by unfold endR; dsimp only; rw [hh, if_neg hc', if_pos (.inr hx)]
    rw [hE]
    rcases hd2 with rfl | ⟨rfl, rfl⟩
    all_goals
     repeat refine wkRfL0 ?_
     exact rtB
theorem PuRfL3 {G : Prop} (h : G := by (first | (apply Pu_gtrB; rfl; rfl; first | exact b1 | exact b2) | (apply Pu_lssB; rfl; rfl; first | exact b3 | exact b4))) : G := h
theorem wkRfL1 {G G' : Prop} (k : G') (h : Hold G' → G := by intro k9; (first | refine und ?_ | (apply RL_pu; rfl; exact PuRfL3) | (refine js ?_; (refine callE (fun w' _ => ht w') ?_)) | refine walk1 ?_); exact k9.out) : G := h ⟨k⟩
theorem rsum_spec (a b : Int) (ha : I64 a) (hb : I64 b) (w : World) : Does Tryz.prog 182 [.int .i64 a, .int .i64 b] w (fun v O => v = .string ⟨(textN (a + b)).toArray⟩ ∧ O = []) := by
 unfold I64 at ha hb
 have ht := fun w' => rtext_spec (a + b) w'
 refine Does_of_W Tryz.func182 rfl rfl rfl rfl ?_
 by_cases h1 : 0 < b
 ·have b1 : decide (0 < b) = true := decide_eq_true h1
  have b3 : decide (b < 0) = false := decide_eq_false (by omega)
  by_cases h2 : 86399 - b < a
  ·have b2 : decide (86399 - b < a) = true := decide_eq_true h2
   rw [textN_out (.inr (by omega))]
   repeat refine wkRfL1 ?_
   exact rtA
  ·have b2 : decide (86399 - b < a) = false := decide_eq_false h2
   repeat refine wkRfL1 ?_
   exact rtA
 ·have b1 : decide (0 < b) = false := decide_eq_false h1
  by_cases h3 : b < 0
  ·have b3 : decide (b < 0) = true := decide_eq_true h3
   by_cases h4 : a < -86399 - b
   ·have b4 : decide (a < -86399 - b) = true := decide_eq_true h4
    rw [textN_out (.inl (by omega))]
    repeat refine wkRfL1 ?_
    exact rtA
   ·have b4 : decide (a < -86399 - b) = false := decide_eq_false h4
    repeat refine wkRfL1 ?_
    exact rtA
  ·have b3 : decide (b < 0) = false := decide_eq_false h3
   repeat refine wkRfL1 ?_
   exact rtA
theorem oneV {t : List UInt8} (h : decide ((⟨t.toArray⟩ : ByteArray) = ⟨#[]⟩) = true) : t = [] := (bytes_iff t ⟨#[]⟩).1 (of_decide_eq_true h)
theorem oneF {t : List UInt8} (h : decide ((⟨t.toArray⟩ : ByteArray) = ⟨#[]⟩) = false) : t ≠ [] := fun e => of_decide_eq_false h (by rw [e])
theorem PuRfL4 {G : Prop} (h : G := by (first | (apply Pu_lssB; rfl; rfl; exact k1) | (apply Pu_gtrB; rfl; rfl; exact k2) | (apply Pu_eqlB; rfl; rfl; first | exact k3 | exact k4) | (apply Pu_eqlSB; rfl; rfl; first | exact s1 | exact s2) | (apply Pu_catB; rfl; rfl; (simp only [List.length_append, List.length_cons, List.length_nil]; omega)))) : G := h
theorem wkRfL2 {G G' : Prop} (k : G') (h : Hold G' → G := by intro k9; (first | refine und ?_ | (apply RL_pu; rfl; exact PuRfL4) | (refine js ?_; (first | (refine callE (fun w' _ => ht w') ?_) | (refine callE (fun w' _ => hsm w') ?_) | (refine callE hot ?_))) | refine walk1 ?_); exact k9.out) : G := h ⟨k⟩
theorem PuRfL5 {G : Prop} (h : G := by (first | exact PuI | (apply Pu_neqB'; rfl; rfl; exact hz))) : G := h
set_option maxHeartbeats 2000000 in
theorem rexp_spec (e : DEra) (A : Option Addr) (c : Nat) (l : List DRule) (w : World) (hA : RdSl w A c DRule.enc 11 l) (ho : I64 e.off) (hs : I64 e.save) (hr : ∀ r ∈ l, I64 r.save) (hn : l.length ≤ 1000000) :
  Does Tryz.prog 149 [.agg (DEra.enc e).toArray, .slice A l.length c] w (fun v O => v = xpV (expandN e l) ∧ O = []) := by
 rw [expandN_eq]
 have hx := otherGo_64 l 0 hr ⟨by decide, by decide⟩
 rw [show otherGo l 0 = otherD l from rfl] at hx
 have hot := fun w' (hw : Bel w.heap.size w w') => rother_spec A c l w' (hA.up hw)
 obtain ⟨B, hB⟩ : ∃ B, (l.any fun r => !decide (r.save = 0)) = B := ⟨_, rfl⟩
 rw [hB]
 generalize otherD l = od at *
 obtain ⟨x, is⟩ := od
 obtain ⟨off, kind, save, set, format, ⟨tis, year, month, ⟨dk, dw, dd⟩, ⟨us, ub⟩⟩⟩ := e
 dsimp only at ho hs hx hot ⊢
 have ht := fun w' => rtext_spec off w'
 have htl := textN_len off
 show Does _ _ [.agg #[.int .i64 off, .int .i64 kind, .int .i64 save, .string set, .string format, .bool tis, .int .i64 year, .int .i64 month, .int .i64 dk, .int .i64 dw, .int .i64 dd, .int .i64 us, .int .i64 ub], .slice A l.length c] w _
 refine Does_of_W Tryz.func149 rfl rfl rfl rfl ?_
 by_cases h1 : kind < 0
 ·have k1 : decide (kind < 0) = true := decide_eq_true h1
  rw [if_neg (by omega), if_neg (by omega), if_neg (by omega)]
  repeat (first | refine wkRfL2 ?_ | (refine js ?_; (refine bx ?_; intro bk)))
  exact rtB
 have k1 : decide (kind < 0) = false := decide_eq_false h1
 by_cases h2 : 2 < kind
 ·have k2 : decide (2 < kind) = true := decide_eq_true h2
  rw [if_neg (by omega), if_neg (by omega), if_neg (by omega)]
  repeat (first | refine wkRfL2 ?_ | (refine js ?_; (refine bx ?_; intro bk)))
  exact rtB
 have k2 : decide (2 < kind) = false := decide_eq_false h2
 by_cases h3 : kind = 1
 ·have k3 : decide (kind = 1) = true := decide_eq_true h3
  have k4 : decide (kind = 2) = false := decide_eq_false (by omega)
  have hsm := fun w' => rsum_spec off save ho hs w'
  rw [if_neg (by omega), if_pos h3]
  generalize textN (off + save) = t at *
  obtain ⟨q, s1⟩ : ∃ q, decide ((⟨t.toArray⟩ : ByteArray) = ⟨#[]⟩) = q := ⟨_, rfl⟩
  cases q with
  | true =>
   obtain rfl := oneV s1
   repeat (first | refine wkRfL2 ?_ | (refine js ?_; (refine bx ?_; intro bk)))
   exact rtB
  | false =>
   unfold oneX
   rw [if_neg (oneF s1)]
   repeat (first | refine wkRfL2 ?_ | (refine js ?_; (refine bx ?_; intro bk)))
   exact rtB
 have k3 : decide (kind = 1) = false := decide_eq_false h3
 by_cases h4 : kind = 2
 ·have k4 : decide (kind = 2) = true := decide_eq_true h4
  rw [if_neg (by omega), if_neg h3, if_pos h4]
  have hsm := fun w' => rsum_spec off x ho hx w'
  have hul := textN_len (off + x)
  generalize textN (off + x) = u at *
  generalize textN off = t at *
  repeat (first | refine wkRfL2 ?_ | (refine js ?_; (refine bx ?_; intro bk)))
  refine W_loopF [(1, .slice A l.length c), (2, .pointer (some ⟨bk, 0, none⟩)), (6, .string ⟨t.toArray⟩), (9, .int .i64 x), (10, .bool is)] [.blk bk [.int .i64 off, .int .i64 kind, .int .i64 save, .string set, .string format, .bool tis, .int .i64 year, .int .i64 month, .int .i64 dk, .int .i64 dw, .int .i64 dd, .int .i64 us, .int .i64 ub] 56] (fun k : Nat => [(11, .int .i64 k)]) (fun _ => [])
   (fun k => k ≤ l.length ∧ (is = true ∨ ((l.drop k).any fun r => !decide (r.save = 0)) = B)) (fun k => l.length - k) 0 SFA SOA ⟨Nat.zero_le _, .inr hB⟩ ?_
  clear hB
  rintro k ⟨hk, hi⟩
  repeat (first | (refine js ?_; (refine bx ?_; intro bk)) | refine walk ?_)
  refine W_cond rfl (fun hc => ?_) (fun hc => ?_)
  ·simp only [decide_eq_true_eq, Int.ofNat_lt] at hc
   obtain ⟨hna, hca⟩ := hA.rd k _ (List.getElem?_eq_getElem hc)
   rw [drop_cons hc, List.any_cons] at hi
   generalize l[k] = r at *
   simp only [DRule.enc] at hca
   obtain ⟨z, hz⟩ : ∃ z, (!decide (r.save = 0)) = z := ⟨_, rfl⟩
   rw [hz] at hi
   cases z with
   | false =>
    repeat (first | refine und ?_ | (apply RL_pu; rfl; exact PuRfL5) | (refine js ?_; (refine bx ?_; intro bk)) | refine walk1 ?_)
    exact ⟨k + 1, OA, ⟨OA, by simpa using hi⟩, SFA, SOA⟩
   | true =>
    cases is with
    | true =>
     repeat (first | refine und ?_ | (apply RL_pu; rfl; exact PuRfL5) | (refine js ?_; (refine bx ?_; intro bk)) | refine walk1 ?_)
     exact ⟨k + 1, OA, ⟨OA, .inl rfl⟩, SFA, SOA⟩
    | false =>
     obtain rfl : true = B := by simpa using hi
     repeat (first | refine und ?_ | (apply RL_pu; rfl; exact PuRfL5) | (refine js ?_; (refine bx ?_; intro bk)) | refine walk1 ?_)
     exact rtB
  ·simp only [decide_eq_false_iff_not, Int.ofNat_lt] at hc
   rw [List.drop_eq_nil_of_le (by omega), List.any_nil] at hi
   obtain ⟨q1, s1⟩ : ∃ q, decide ((⟨t.toArray⟩ : ByteArray) = ⟨#[]⟩) = q := ⟨_, rfl⟩
   obtain ⟨q2, s2⟩ : ∃ q, decide ((⟨u.toArray⟩ : ByteArray) = ⟨#[]⟩) = q := ⟨_, rfl⟩
   cases is with
   | true =>
    rw [if_pos rfl]
    unfold twoX
    cases q1 with
    | true =>
     rw [if_pos (.inl (oneV s1))]
     repeat (first | refine wkRfL2 ?_ | (refine js ?_; (refine bx ?_; intro bk)))
     exact rtB
    | false =>
     cases q2 with
     | true =>
      rw [if_pos (.inr (oneV s2))]
      repeat (first | refine wkRfL2 ?_ | (refine js ?_; (refine bx ?_; intro bk)))
      exact rtB
     | false =>
      rw [if_neg (fun h => h.elim (oneF s1) (oneF s2))]
      repeat (first | refine wkRfL2 ?_ | (refine js ?_; (refine bx ?_; intro bk)))
      exact ret_2 _ _ [] (.tmp rfl) (.tmp rfl) .nil ⟨by simp [xpV], rfl⟩
   | false =>
    obtain rfl : false = B := by simpa using hi
    rw [if_neg (by decide), if_neg (by decide)]
    unfold oneX
    cases q1 with
    | true =>
     rw [if_pos (oneV s1)]
     repeat (first | refine wkRfL2 ?_ | (refine js ?_; (refine bx ?_; intro bk)))
     exact rtB
    | false =>
     rw [if_neg (oneF s1)]
     repeat (first | refine wkRfL2 ?_ | (refine js ?_; (refine bx ?_; intro bk)))
     exact rtB
 ·have h0 : kind = 0 := by omega
  have k4 : decide (kind = 2) = false := decide_eq_false h4
  rw [if_pos h0]
  generalize textN off = t at *
  obtain ⟨q, s1⟩ : ∃ q, decide ((⟨t.toArray⟩ : ByteArray) = ⟨#[]⟩) = q := ⟨_, rfl⟩
  cases q with
  | true =>
   obtain rfl := oneV s1
   repeat (first | refine wkRfL2 ?_ | (refine js ?_; (refine bx ?_; intro bk)))
   exact rtB
  | false =>
   unfold oneX
   rw [if_neg (oneF s1)]
   repeat (first | refine wkRfL2 ?_ | (refine js ?_; (refine bx ?_; intro bk)))
   exact rtB
end Go.Proofs.YtceekohkjgiabaaGreatDoor
