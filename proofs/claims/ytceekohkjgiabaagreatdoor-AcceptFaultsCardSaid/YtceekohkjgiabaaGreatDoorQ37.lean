/- Contracts: the reference of layer 21: slash, letter, Kind, Parts. -/
import Derived.Test.YtceekohkjgiabaaGreatDoorQ36
import Derived.Test.YtceekohkjgiabaaGreatDoorQ19
set_option maxHeartbeats 4000000
set_option linter.unusedVariables false
set_option linter.unusedSimpArgs false
namespace Go.Wk
open Go Go.RowKit
section
variable {P : Program} {n : Nat} {wr : World} {fr : Fr} {O : List It} {ty : TypeId}
theorem Pu_sliceA {t : TypeId} {x z : Operand} {s : ByteArray} {l : List UInt8} {k' : IntKind} {j : Int} [hS : StringT P t] (hx : ev fr x = some (.string s)) (hz : ev fr z = some (.int k' j)) (h1 : 0 ≤ j) (h2 : j ≤ s.size) (hl : s.data.toList.take j.toNat = l) : Pu P n wr fr O (.slice t x none (some z) none) ty (.string ⟨l.toArray⟩) := by
 have := Pu_sliceS0 (P := P) (n := n) (wr := wr) (O := O) (ty := ty) (t := t) hx hz h1 h2
 have e : s.extract 0 j.toNat = ⟨l.toArray⟩ := by
  apply ByteArray.ext
  rw [ByteArray.data_extract, ← hl]
  apply Array.ext'
  simp
 rwa [e] at this
theorem Pu_sliceZ {t : TypeId} {x y : Operand} {s : ByteArray} {l : List UInt8} {k : IntKind} {i : Int} [hS : StringT P t] (hx : ev fr x = some (.string s)) (hy : ev fr y = some (.int k i)) (h0 : 0 ≤ i) (h1 : i ≤ s.size) (hl : s.data.toList.drop i.toNat = l) : Pu P n wr fr O (.slice t x (some y) none none) ty (.string ⟨l.toArray⟩) := by
 have := Pu_sliceSL (P := P) (n := n) (wr := wr) (O := O) (ty := ty) (t := t) hx hy h0 h1
 have e : s.extract i.toNat s.size = ⟨l.toArray⟩ := by
  apply ByteArray.ext
  rw [ByteArray.data_extract, ← hl]
  apply Array.ext'
  have h2 : s.data.toList.length = s.size := rfl
  simp only [Array.toList_extract]
  rw [List.extract_eq_take_drop, List.take_of_length_le (by rw [List.length_drop]; omega)]
 rwa [e] at this
end
def slashR (l : List UInt8) : List UInt8 × List UInt8 × Bool := match cutAt [47] l [] with | some (a, b) => (a, b, true) | none => ([], [], false)
def slV (r : List UInt8 × List UInt8 × Bool) : Value := .tuple #[.string ⟨r.1.toArray⟩, .string ⟨r.2.1.toArray⟩, .bool r.2.2]
theorem cut47 (c : UInt8) (l acc : List UInt8) : cutAt [47] (c :: l) acc = if c = 47 then some (acc, l) else cutAt [47] l (acc ++ [c]) := by
 rw [cutAt]
 by_cases h : c = 47
 ·subst h; rfl
 ·rw [if_neg h, if_neg]
  simp only [List.isPrefixOf, Bool.and_true, beq_iff_eq]
  exact fun e => h e.symm
theorem cut115_two (c d : UInt8) (l acc : List UInt8) : cutAt [37, 115] (c :: d :: l) acc = if c = 37 ∧ d = 115 then some (acc, l) else cutAt [37, 115] (d :: l) (acc ++ [c]) := by
 rw [cutAt]
 by_cases h : c = 37 ∧ d = 115
 ·obtain ⟨rfl, rfl⟩ := h; rfl
 ·rw [if_neg h, if_neg]
  simp only [List.isPrefixOf, Bool.and_true, Bool.and_eq_true, beq_iff_eq]
  exact fun e => h ⟨e.1.symm, e.2.symm⟩
theorem cut115_one (l acc : List UInt8) (h : l.length ≤ 1) : cutAt [37, 115] l acc = none := by
 match l, h with
 | [], _ => rfl
 | [c], _ => rw [cutAt, if_neg (by simp [List.isPrefixOf])]; rfl
 | _ :: _ :: _, h => simp at h
theorem letterL_eq (l : List UInt8) : letterL l = l.all fun c => letC c.toNat := by
 unfold letterL
 congr 1
 funext c
 rw [letC_eq]
end Go.Wk
namespace Go.Proofs.YtceekohkjgiabaaGreatDoor
open Go Go.RowKit Go.Wk
attribute [local irreducible] W RL Does thenQ blockQ retQ Calls Pu Stp RD Qy Ay DoesIn
theorem slashR_len (l : List UInt8) : (slashR l).1.length ≤ l.length ∧ (slashR l).2.1.length ≤ l.length := by
 have h := cutV_len l [47]
 unfold slashR
 unfold cutV at h
 cases hc : cutAt [47] l [] with
 | none => exact ⟨Nat.zero_le _, Nat.zero_le _⟩
 | some ab => rw [hc] at h; dsimp only at h ⊢; omega
theorem kindF_eqR (l : List UInt8) : kindF l = kindV (abbrL l) (slashR l).2.2 (abbrL (slashR l).1) (abbrL (slashR l).2.1) (aroundF l).isSome (decide (l = [37, 122])) (parseN l).isSome (parseN (slashR l).1).isSome (parseN (slashR l).2.1).isSome := by
 rw [kindF_eq]
 unfold slashR cutV
 cases cutAt [47] l [] with
 | none => unfold kindV; simp
 | some ab => rfl
theorem wkRfM0 {G G' : Prop} (k : G') (h : Hold G' → G := by intro k9; (first | refine walk ?_ | (refine jn ?_; (try intro F); (apply Stp_pu; exact PuA); refine fin ?_)); exact k9.out) : G := h ⟨k⟩
theorem PuRfM0 {G : Prop} (h : G := by (first | (apply Pu_indexC; rfl; rfl; omega; omega; first | exact hgc | exact hgd) | (apply Pu_eqlB; rfl; rfl; exact b1) | (apply Pu_sliceA; rfl; rfl; omega; omega; rfl) | (apply Pu_sliceZ; rfl; rfl; omega; omega; exact hdr))) : G := h
theorem QyRfM0 {G : Prop} (h : G := by first | (apply Qy_y; rfl; exact PuRfM0) | exact QyA) : G := h
theorem QFRfM0 {G : Prop} (h : G := by repeat (first | exact QF.nil | (apply QF.mk; rfl; rfl; decide +kernel; exact QyRfM0))) : G := h
theorem PuRfM1 {G : Prop} (h : G := by (first | (apply Pu_indexC; rfl; rfl; omega; omega; first | exact hgc | exact hgd) | (apply Pu_eqlB; rfl; rfl; exact b1))) : G := h
theorem QyRfM1 {G : Prop} (h : G := by first | (apply Qy_y; rfl; exact PuRfM1) | exact QyA) : G := h
theorem QFRfM1 {G : Prop} (h : G := by repeat (first | exact QF.nil | (apply QF.mk; rfl; rfl; decide +kernel; exact QyRfM1))) : G := h
theorem rslash_spec (s : ByteArray) (hs : (s.size : Int) ≤ 9223372036854775000) (w : World) : Does Tryz.prog 118 [.string s] w (fun v O => v = slV (slashR s.data.toList) ∧ O = []) := by
 have hL : s.data.toList.length = s.size := rfl
 unfold slashR
 obtain ⟨R, hR⟩ : ∃ R, cutAt [47] s.data.toList [] = R := ⟨_, rfl⟩
 rw [hR]
 refine Does_of_W Tryz.func118 rfl rfl rfl rfl ?_
 repeat refine wkRfM0 ?_
 refine W_loopF [(0, .string s)] [] (fun k : Nat => [(5, .int .i64 k)]) (fun _ => []) (fun k => k ≤ s.size ∧ cutAt [47] (s.data.toList.drop k) (s.data.toList.take k) = R) (fun k => s.size - k) 0 SFA SOA ⟨Nat.zero_le _, hR⟩ ?_
 clear hR
 rintro k ⟨hk, hi⟩
 repeat refine wkRfM0 ?_
 refine W_cond rfl (fun hc => ?_) (fun hc => ?_)
 ·simp only [decide_eq_true_eq, Int.ofNat_lt] at hc
  have hgc : s.data.toList.getD ((k : Int)).toNat 0 = s.data.toList[k] := getD_at (by omega)
  have htk := List.take_append_getElem (show k < s.data.toList.length by omega)
  rw [drop_cons (show k < s.data.toList.length by omega), cut47] at hi
  have hdr : s.data.toList.drop ((k : Int) + 1).toNat = s.data.toList.drop (k + 1) := by rw [show ((k : Int) + 1).toNat = k + 1 by omega]
  generalize s.data.toList[k] = c at *
  by_cases h : c = 47
  ·have b1 : decide ((c.toNat : Int) = 47) = true := by rw [h]; rfl
   rw [if_pos h] at hi
   subst hi
   repeat (first | (apply RL_pu; rfl; exact PuRfM0) | (apply RD_Q; rfl; rfl; decide +kernel; rfl; rfl; exact QyRfM0) | refine walk1 ?_ | (refine jn ?_; (try intro F); (apply Stp_pu; first | exact PuRfM0 | exact PuA); first | refine ⟨_, EndsA, QFRfM0, ?_⟩ | refine fin ?_))
   exact ret_3 _ _ _ [] (.tmp rfl) (.tmp rfl) (.tmp rfl) .nil ⟨rfl, rfl⟩
  ·have b1 : decide ((c.toNat : Int) = 47) = false := decide_eq_false (fun e => h (UInt8.toNat_inj.1 (by show c.toNat = 47; omega)))
   rw [if_neg h, htk] at hi
   repeat (first | (apply RL_pu; rfl; exact PuRfM1) | (apply RD_Q; rfl; rfl; decide +kernel; rfl; rfl; exact QyRfM1) | refine walk1 ?_ | (refine jn ?_; (try intro F); (apply Stp_pu; first | exact PuRfM1 | exact PuA); first | refine ⟨_, EndsA, QFRfM1, ?_⟩ | refine fin ?_))
   exact ⟨k + 1, OA, ⟨OA, hi⟩, SFA, SOA⟩
 ·simp only [decide_eq_false_iff_not, Int.ofNat_lt] at hc
  rw [List.drop_eq_nil_of_le (by omega)] at hi
  rw [show cutAt [47] [] (s.data.toList.take k) = none from rfl] at hi
  subst hi
  repeat refine wkRfM0 ?_
  exact ret_3 _ _ _ [] (.tmp rfl) (.tmp rfl) (.tmp rfl) .nil ⟨rfl, rfl⟩
def LetR (f : List UInt8) (v : Value) (O : List It) : Prop := (∃ x y, v = slV (x, y, (aroundF f).isSome) ∧ ∀ a b, aroundF f = some (a, b) → x = a ∧ y = b) ∧ O = []
def notL (c : Int) : Bool := (decide (c < 65) || decide (90 < c)) && (decide (c < 97) || decide (122 < c))
theorem notL_eq (c : Int) : notL c = !letC c := by
 unfold notL letC
 rw [Bool.eq_iff_iff]
 simp only [Bool.and_eq_true, Bool.or_eq_true, decide_eq_true_eq, Bool.not_eq_true', Bool.or_eq_false_iff, Bool.and_eq_false_iff, decide_eq_false_iff_not]
 omega
theorem PuRfM2 {G : Prop} (h : G := by (first | (apply Pu_indexC; rfl; rfl; omega; omega; first | exact hgc | exact hgd) | (apply Pu_neqB'; rfl; rfl; first | exact b1 | exact b2) | (apply Pu_sliceA; rfl; rfl; omega; omega; exact ha) | (apply Pu_sliceZ; rfl; rfl; omega; omega; exact hdr) | (apply Pu_catB; rfl; rfl; exact hap))) : G := h
theorem QyRfM2 {G : Prop} (h : G := by first | (apply Qy_y; rfl; exact PuRfM2) | exact QyA) : G := h
theorem QFRfM2 {G : Prop} (h : G := by repeat (first | exact QF.nil | (apply QF.mk; rfl; rfl; decide +kernel; exact QyRfM2))) : G := h
theorem PuRfM3 {G : Prop} (h : G := by (first | (apply Pu_indexC; rfl; rfl; omega; omega; exact hge) | (apply Pu_lssB; rfl; rfl; first | exact bj | exact e1 | exact e3) | (apply Pu_gtrB; rfl; rfl; first | exact e2 | exact e4))) : G := h
theorem QyRfM3 {G : Prop} (h : G := by first | (apply Qy_y; rfl; exact PuRfM3) | exact QyA) : G := h
theorem QFRfM3 {G : Prop} (h : G := by repeat (first | exact QF.nil | (apply QF.mk; rfl; rfl; decide +kernel; exact QyRfM3))) : G := h
theorem PuRfM4 {G : Prop} (h : G := by (first | exact PuRfM3 | (apply Pu_leqB; rfl; rfl; exact b5) | (apply Pu_sliceA; rfl; rfl; omega; omega; exact ha) | (apply Pu_sliceZ; rfl; rfl; omega; omega; exact hdr))) : G := h
theorem QyRfM4 {G : Prop} (h : G := by first | (apply Qy_y; rfl; exact PuRfM4) | exact QyA) : G := h
theorem QFRfM4 {G : Prop} (h : G := by repeat (first | exact QF.nil | (apply QF.mk; rfl; rfl; decide +kernel; exact QyRfM4))) : G := h
theorem PuRfM5 {G : Prop} (h : G := by (first | (apply Pu_indexC; rfl; rfl; omega; omega; first | exact hgc | exact hgd) | (apply Pu_neqB'; rfl; rfl; first | exact b1 | exact b2))) : G := h
theorem QyRfM5 {G : Prop} (h : G := by first | (apply Qy_y; rfl; exact PuRfM5) | exact QyA) : G := h
theorem QFRfM5 {G : Prop} (h : G := by repeat (first | exact QF.nil | (apply QF.mk; rfl; rfl; decide +kernel; exact QyRfM5))) : G := h
set_option maxHeartbeats 2000000 in
theorem rlet21_spec (s : ByteArray) (hs : (s.size : Int) ≤ 9223372036854775000) (w : World) : Does Tryz.prog 119 [.string s] w (LetR s.data.toList) := by
 have hL : s.data.toList.length = s.size := rfl
 unfold LetR aroundF
 obtain ⟨R, hR⟩ : ∃ R, cutAt [37, 115] s.data.toList [] = R := ⟨_, rfl⟩
 rw [hR]
 refine Does_of_W Tryz.func119 rfl rfl rfl rfl ?_
 repeat refine wkRfM0 ?_
 refine W_loopF [(0, .string s)] [] (fun k : Nat => [(5, .int .i64 k)]) (fun _ => []) (fun k => k ≤ s.size ∧ cutAt [37, 115] (s.data.toList.drop k) (s.data.toList.take k) = R) (fun k => s.size - k) 0 SFA SOA ⟨Nat.zero_le _, hR⟩ ?_
 clear hR
 rintro k ⟨hk, hi⟩
 repeat refine wkRfM0 ?_
 refine W_cond rfl (fun hc => ?_) (fun hc => ?_)
 ·have hc : k + 1 < s.size := by have := of_decide_eq_true hc; omega
  have hgc : s.data.toList.getD ((k : Int)).toNat 0 = s.data.toList[k] := getD_at (by omega)
  have hgd : s.data.toList.getD ((k : Int) + 1).toNat 0 = s.data.toList[k + 1] := by rw [show ((k : Int) + 1).toNat = k + 1 by omega]; exact getD_at (by omega)
  have htk := List.take_append_getElem (show k < s.data.toList.length by omega)
  have hd2 : s.data.toList.drop (k + 1) = s.data.toList[k + 1] :: s.data.toList.drop (k + 1 + 1) := drop_cons (show k + 1 < s.data.toList.length by omega)
  rw [drop_cons (show k < s.data.toList.length by omega), hd2, cut115_two, ← hd2] at hi
  have hdr : s.data.toList.drop ((k : Int) + 2).toNat = s.data.toList.drop (k + 1 + 1) := by rw [show ((k : Int) + 2).toNat = k + 1 + 1 by omega]
  have htl : (s.data.toList.take k).length = k := by rw [List.length_take]; omega
  have hdl : (s.data.toList.drop (k + 1 + 1)).length = s.size - (k + 1 + 1) := by rw [List.length_drop, hL]
  clear hd2
  generalize s.data.toList[k] = c at *
  generalize s.data.toList[k + 1] = d at *
  have u37 : ((c.toNat : Int) = 37) ↔ c = 37 := ⟨fun h => UInt8.toNat_inj.1 (by show c.toNat = 37; omega), fun h => by rw [h]; rfl⟩
  have u115 : ((d.toNat : Int) = 115) ↔ d = 115 := ⟨fun h => UInt8.toNat_inj.1 (by show d.toNat = 115; omega), fun h => by rw [h]; rfl⟩
  by_cases h1 : c = 37
  ·have b1 : (!decide ((c.toNat : Int) = 37)) = false := by rw [decide_eq_true (u37.2 h1)]; rfl
   by_cases h2 : d = 115
   ·have b2 : (!decide ((d.toNat : Int) = 115)) = false := by rw [decide_eq_true (u115.2 h2)]; rfl
    rw [if_pos ⟨h1, h2⟩] at hi
    subst hi
    dsimp only
    clear htk
    obtain ⟨a, ha⟩ : ∃ a, s.data.toList.take k = a := ⟨_, rfl⟩
    obtain ⟨b, hb⟩ : ∃ b, s.data.toList.drop (k + 1 + 1) = b := ⟨_, rfl⟩
    rw [hb] at hdr hdl
    rw [ha] at htl
    rw [ha, hb]
    have hap : a.length + b.length ≤ 9223372036854775807 := by omega
    have hLn : (a ++ b).length + 2 = s.size := by rw [List.length_append]; omega
    repeat (first | refine und ?_ | (apply RL_pu; rfl; exact PuRfM2) | (apply RD_Q; rfl; rfl; decide +kernel; rfl; rfl; exact QyRfM2) | refine walk1 ?_ | (refine jn ?_; (try intro F); (apply Stp_pu; first | exact PuRfM2 | exact PuA); first | refine ⟨_, EndsA, QFRfM2, ?_⟩ | refine fin ?_))
    obtain ⟨L, hLL⟩ : ∃ L, a ++ b = L := ⟨_, rfl⟩
    obtain ⟨Q, hQ⟩ : ∃ Q, (L.all fun c => letC c.toNat) = Q := ⟨_, rfl⟩
    rw [hLL] at hLn ⊢
    rw [letterL_eq, hQ]
    have hLs : (⟨L.toArray⟩ : ByteArray).size = L.length := by show L.toArray.size = _; simp
    refine W_loopF [(0, .string s), (5, .int .i64 k), (6, .string ⟨L.toArray⟩)] [] (fun j : Nat => [(7, .int .i64 j)]) (fun _ => []) (fun j => j ≤ L.length ∧ ((L.drop j).all fun c => letC c.toNat) = Q) (fun j => L.length - j) 0 SFA SOA ⟨Nat.zero_le _, hQ⟩ ?_
    clear hQ
    rintro j ⟨hj, hi⟩
    by_cases hjl : j < L.length
    ·have bj : decide ((j : Int) < ((⟨L.toArray⟩ : ByteArray).size : Int)) = true := decide_eq_true (by omega)
     have hge : (⟨L.toArray⟩ : ByteArray).data.toList.getD ((j : Int)).toNat 0 = L[j] := getD_at (l := L) hjl
     rw [drop_cons hjl, List.all_cons] at hi
     generalize L[j] = e at *
     obtain ⟨z1, e1⟩ : ∃ z, decide ((e.toNat : Int) < 65) = z := ⟨_, rfl⟩
     obtain ⟨z2, e2⟩ : ∃ z, decide (90 < (e.toNat : Int)) = z := ⟨_, rfl⟩
     obtain ⟨z3, e3⟩ : ∃ z, decide ((e.toNat : Int) < 97) = z := ⟨_, rfl⟩
     obtain ⟨z4, e4⟩ : ∃ z, decide (122 < (e.toNat : Int)) = z := ⟨_, rfl⟩
     have hz : ((z1 || z2) && (z3 || z4)) = !letC e.toNat := by rw [← notL_eq, ← e1, ← e2, ← e3, ← e4]; rfl
     cases hq : letC e.toNat with
     | true =>
      rw [hq] at hz hi
      rw [Bool.true_and] at hi
      cases z1 <;> cases z2 <;> cases z3 <;> cases z4
      all_goals first | exact absurd hz (by decide) | skip
      all_goals
       repeat (first | refine und ?_ | (apply RL_pu; rfl; exact PuRfM3) | (apply RD_Q; rfl; rfl; decide +kernel; rfl; rfl; exact QyRfM3) | refine walk1 ?_ | (refine jn ?_; (try intro F); (apply Stp_pu; first | exact PuRfM3 | exact PuA); first | refine ⟨_, EndsA, QFRfM3, ?_⟩ | refine fin ?_))
       exact ⟨j + 1, OA, ⟨OA, hi⟩, SFA, SOA⟩
     | false =>
      rw [hq] at hz hi
      rw [Bool.false_and] at hi
      subst hi
      rw [if_neg (fun h => by cases h.1)]
      cases z1 <;> cases z2 <;> cases z3 <;> cases z4
      all_goals first | exact absurd hz (by decide) | skip
      all_goals
       repeat (first | refine und ?_ | (apply RL_pu; rfl; exact PuRfM3) | (apply RD_Q; rfl; rfl; decide +kernel; rfl; rfl; exact QyRfM3) | refine walk1 ?_ | (refine jn ?_; (try intro F); (apply Stp_pu; first | exact PuRfM3 | exact PuA); first | refine ⟨_, EndsA, QFRfM3, ?_⟩ | refine fin ?_))
       exact ret_3 _ _ _ [] (.tmp rfl) (.tmp rfl) (.tmp rfl) .nil ⟨⟨[], [], rfl, fun _ _ h => by cases h⟩, rfl⟩
    ·have bj : decide ((j : Int) < ((⟨L.toArray⟩ : ByteArray).size : Int)) = false := decide_eq_false (by omega)
     rw [List.drop_eq_nil_of_le (by omega), List.all_nil] at hi
     subst hi
     have b5 : decide (((⟨L.toArray⟩ : ByteArray).size : Int) ≤ 5) = (if true = true ∧ L.length ≤ 5 then some (a, b) else none).isSome := by
      by_cases h5 : L.length ≤ 5
      ·rw [if_pos ⟨rfl, h5⟩]; exact decide_eq_true (by omega)
      ·rw [if_neg (fun h => h5 h.2)]; exact decide_eq_false (by omega)
     repeat (first | refine und ?_ | (apply RL_pu; rfl; exact PuRfM4) | (apply RD_Q; rfl; rfl; decide +kernel; rfl; rfl; exact QyRfM4) | refine walk1 ?_ | (refine jn ?_; (try intro F); (apply Stp_pu; first | exact PuRfM4 | exact PuA); first | refine ⟨_, EndsA, QFRfM4, ?_⟩ | refine fin ?_))
     exact ret_3 _ _ _ [] (.tmp rfl) (.tmp rfl) (.tmp rfl) .nil ⟨⟨a, b, rfl, fun x y h => by
      split at h
      ·simp only [Option.some.injEq, Prod.mk.injEq] at h; exact h
      ·cases h⟩, rfl⟩
   ·have b2 : (!decide ((d.toNat : Int) = 115)) = true := by rw [decide_eq_false (fun e => h2 (u115.1 e))]; rfl
    rw [if_neg (fun h => h2 h.2), htk] at hi
    repeat (first | refine und ?_ | (apply RL_pu; rfl; exact PuRfM5) | (apply RD_Q; rfl; rfl; decide +kernel; rfl; rfl; exact QyRfM5) | refine walk1 ?_ | (refine jn ?_; (try intro F); (apply Stp_pu; first | exact PuRfM5 | exact PuA); first | refine ⟨_, EndsA, QFRfM5, ?_⟩ | refine fin ?_))
    exact ⟨k + 1, OA, ⟨OA, hi⟩, SFA, SOA⟩
  ·have b1 : (!decide ((c.toNat : Int) = 37)) = true := by rw [decide_eq_false (fun e => h1 (u37.1 e))]; rfl
   rw [if_neg (fun h => h1 h.1), htk] at hi
   repeat (first | refine und ?_ | (apply RL_pu; rfl; exact PuRfM5) | (apply RD_Q; rfl; rfl; decide +kernel; rfl; rfl; exact QyRfM5) | refine walk1 ?_ | (refine jn ?_; (try intro F); (apply Stp_pu; first | exact PuRfM5 | exact PuA); first | refine ⟨_, EndsA, QFRfM5, ?_⟩ | refine fin ?_))
   exact ⟨k + 1, OA, ⟨OA, hi⟩, SFA, SOA⟩
 ·have hc : s.size ≤ k + 1 := by have := of_decide_eq_false hc; omega
  rw [cut115_one _ _ (by rw [List.length_drop]; omega)] at hi
  subst hi
  repeat refine wkRfM0 ?_
  exact ret_3 _ _ _ [] (.tmp rfl) (.tmp rfl) (.tmp rfl) .nil ⟨⟨[], [], rfl, fun _ _ h => by cases h⟩, rfl⟩
theorem rnum21_spec (s : ByteArray) (hs : s.size ≤ 1000000000000) (w : World) : Does Tryz.prog 121 [.string s] w (fun v O => v = .bool (parseN s.data.toList).isSome ∧ O = []) := by
 have hp := fun w' => rparse_spec s hs w'
 unfold parV at hp
 generalize parseN s.data.toList = o at *
 refine Does_of_W Tryz.func121 rfl rfl rfl rfl ?_
 cases o with
 | none =>
  repeat (first | (refine js ?_; (refine callE (fun w' _ => hp w') ?_)) | refine walk ?_)
  exact rtA
 | some n =>
  repeat (first | (refine js ?_; (refine callE (fun w' _ => hp w') ?_)) | refine walk ?_)
  exact rtA
end Go.Proofs.YtceekohkjgiabaaGreatDoor
