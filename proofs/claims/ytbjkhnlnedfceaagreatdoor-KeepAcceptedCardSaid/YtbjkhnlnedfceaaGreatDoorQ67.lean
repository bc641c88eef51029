/- Contracts: slices.pdqsortOrdered (short lists), slices.Sort, slices.Compact at string. Contract: analemmaref33.Without. Contracts: keep.counted, keep.Names. -/
import Derived.Test.YtbjkhnlnedfceaaGreatDoorQ66
import Derived.Test.YtbjkhnlnedfceaaGreatDoorQ15
import Derived.Test.YtbjkhnlnedfceaaGreatDoorQ16
set_option maxHeartbeats 4000000
set_option linter.unusedVariables false
set_option linter.unusedSimpArgs false
namespace Go.Proofs.YtbjkhnlnedfceaaGreatDoor
open Go Go.RowKit Go.Wk
theorem ret_0r {P : Program} {wr : World} {fr : Fr} {O : List It} {R : Value → List It → Prop} (O' : List It) (hO : SubO O' O) (hR : R (.tuple #[]) O') : retQ P wr [] R .ret fr O := ⟨[], O', rfl, hO, hR⟩
attribute [local irreducible] W RL Does thenQ blockQ retQ Calls Pu Stp RD Qy Ay DoesIn
theorem pdq_spec (A : Option Addr) (c : Nat) (l : List ByteArray) (lim : Int) (wr : World) (R : List It) (hn : l.length ≤ 12) (hAn : 0 < l.length → A ≠ none) :
  DoesIn Tryz.prog 134 [.slice A l.length c, .int .i64 0, .int .i64 l.length, .int .i64 lim] wr (rowS A c l :: R) (fun _ O => O = rowS A c (sortB l) :: R) := by
 refine DoesIn_of_W Tryz.func134 rfl rfl rfl rfl ?_
 repeat (first | refine walkB ?_ | (refine jn ?_; (try intro F); (apply Stp_pu; exact PuA); refine fin ?_))
 apply W_block
 refine W_loopF [(0, _), (1, _), (2, _), (3, _)] (rowS A c l :: R) (fun _ : Unit => []) (fun _ => []) (fun _ => True) (fun _ => 0) () SFA (.refl _) trivial ?_
 rintro _ _
 repeat (first | refine walk ?_ | (refine jn ?_; (try intro F); (apply Stp_pu; exact PuA); refine fin ?_))
 refine W_cond rfl (fun _ => ?_) (fun g1 => absurd g1 (by simp; omega))
 repeat (first | refine walk ?_ | (refine RD_G0w ?_; intro F; (apply Stp_callIn (h := insertion_spec A c l wr _ (by omega) hAn); rfl; exact .refl _; rintro v O' rfl); refine ⟨_, EndsA, SubO.right _ _, ?_⟩) | (refine jn ?_; (try intro F); (first | (apply Stp_callIn (h := insertion_spec A c l wr _ (by omega) hAn); rfl; exact .refl _; rintro v O' rfl) | (apply Stp_pu; exact PuA)); refine fin ?_))
 exact ret_0r _ (.refl _) rfl
theorem sort_spec (A : Option Addr) (c : Nat) (l : List ByteArray) (wr : World) (R : List It) (hn : l.length ≤ 12) (hAn : 0 < l.length → A ≠ none) :
  DoesIn Tryz.prog 93 [.slice A l.length c] wr (rowS A c l :: R) (fun _ O => O = rowS A c (sortB l) :: R) := by
 refine DoesIn_of_W Tryz.func93 rfl rfl rfl rfl ?_
 have hw : IntKind.u64.wrap (l.length : Int) = l.length := by simp [IntKind.wrap, IntKind.signed, IntKind.bits]; omega
 repeat (first | (refine js ?_; (first | (apply Stp_call (h := fun w' _ _ => blen_spec (IntKind.u64.wrap (l.length : Int)) (by rw [hw]; omega) (by rw [hw]; omega) w'); rfl; rintro v O' ⟨⟨lim, rfl⟩, rfl⟩) | (apply Stp_callIn (h := pdq_spec A c l lim wr _ hn hAn); rfl; exact .refl _; rintro v O' rfl))) | refine walk ?_)
 exact ret_0 _ (.refl _) rfl
def cpt (l : List ByteArray) : Nat → List ByteArray
 | 0 => []
 | i + 1 => if 0 < i ∧ l.getD i ByteArray.empty = l.getD (i - 1) ByteArray.empty then cpt l i else cpt l i ++ [l.getD i ByteArray.empty]
theorem getD_at (l : List ByteArray) (i : Nat) (h : i < l.length) : l[i]? = some (l.getD i ByteArray.empty) := by
 rw [List.getD_eq_getElem?_getD, List.getElem?_eq_getElem h]; rfl
theorem zeros_str (k : Nat) : (Builtin.zeroCells (Value.string ByteArray.empty).cells k).toList.all Value.oneCell' = true := by
 rw [List.all_eq_true]
 intro v hv
 simp [Builtin.zeroCells, Value.cells, Nat.mod_one] at hv
 obtain ⟨_, rfl⟩ := hv
 rfl
theorem lay_out : ∀ (vs xs : List Value) (j : Nat), xs.length ≤ j → lay xs j vs = xs
 | [], _, _, _ => rfl
 | v :: r, xs, j, h => by rw [lay, List.set_eq_of_length_le h, lay_out r xs (j + 1) (by omega)]
structure KG where
 k : Nat
 k2 : Nat
 C : List ByteArray
theorem wkKeepT0 {G G' : Prop} (k : G') (h : Hold G' → G := by intro k9; (first | refine walk ?_ | (refine jn ?_; (try intro F); (first | (refine stA ?_) | (apply Stp_pu; exact PuA)); refine fin ?_)); exact k9.out) : G := h ⟨k⟩
theorem PuKeepT0 {G : Prop} (h : G := by (first | (apply Pu_indexAddr; rfl; rfl; omega; omega; nofun) | (apply Pu_loadR; rfl; (focus repeat' constructor); first | exact hx1 | exact hx2))) : G := h
theorem QyKeepT0 {G : Prop} (h : G := by first | (apply Qy_y; rfl; exact PuKeepT0) | exact QyA) : G := h
theorem QFKeepT0 {G : Prop} (h : G := by repeat (first | exact QF.nil | (apply QF.mk; rfl; rfl; decide +kernel; exact QyKeepT0))) : G := h
theorem PuKeepT1 {G : Prop} (h : G := by (apply Pu_sliceL; rfl; rfl; omega; omega; omega)) : G := h
theorem QyKeepT1 {G : Prop} (h : G := by first | (apply Qy_y; rfl; exact PuKeepT1) | exact QyA) : G := h
theorem QFKeepT1 {G : Prop} (h : G := by repeat (first | exact QF.nil | (apply QF.mk; rfl; rfl; decide +kernel; exact QyKeepT1))) : G := h
theorem PuKeepT2 {G : Prop} (h : G := by (first | (apply Pu_indexAddr; rfl; rfl; omega; omega; nofun) | (apply Pu_loadR2; rfl; (focus repeat' constructor); first | exact hy1 | exact hy2))) : G := h
theorem QyKeepT2 {G : Prop} (h : G := by first | (apply Qy_y; rfl; exact PuKeepT2) | exact QyA) : G := h
theorem QFKeepT2 {G : Prop} (h : G := by repeat (first | exact QF.nil | (apply QF.mk; rfl; rfl; decide +kernel; exact QyKeepT2))) : G := h
set_option maxHeartbeats 4000000 in
theorem compact_spec (A : Option Addr) (c : Nat) (l : List ByteArray) (wr : World) (R : List It) (hn : l.length ≤ 1000000) (hlc : l.length ≤ c) (hcm : c ≤ maxLen) (hAn : 0 < l.length → A ≠ none) :
  DoesIn Tryz.prog 107 [.slice A l.length c] wr (rowS A c l :: R) (fun v O => v = .slice A (cpt l l.length).length c ∧ O = rowS A c (cpt l l.length) :: R) := by
 unfold maxLen at hcm
 refine DoesIn_of_W Tryz.func107 rfl rfl rfl rfl ?_
 repeat refine wkKeepT0 ?_
 refine W_cond rfl (fun g1 => ?_) (fun g1 => ?_)
 ·simp only [decide_eq_true_eq] at g1
  have e : cpt l l.length = l := by
   match l, g1 with
   | [], _ => rfl
   | [x], _ => rfl
   | x :: y :: l, h => simp at h; omega
  rw [e]
  repeat refine wkKeepT0 ?_
  exact ret_1 _ _ (.tmp rfl) (.refl _) ⟨rfl, rfl⟩
 simp only [decide_eq_false_iff_not] at g1
 have hA := hAn (by omega)
 obtain ⟨ad, rfl⟩ : ∃ ad, A = some ad := by
  cases A with
  | none => exact absurd rfl hA
  | some ad => exact ⟨ad, rfl⟩
 clear hA hAn
 repeat refine wkKeepT0 ?_
 refine W_loopF [(0, _)] (rowS (some ad) c l :: R) (fun k : Nat => [(3, .int .i64 k)]) (fun _ => []) (fun k => 1 ≤ k ∧ k ≤ l.length ∧ cpt l k = l.take k) (fun k => l.length - k) 1 SFA (.refl _) ⟨Nat.le_refl _, by omega, by
   have h0 : 0 < l.length := by omega
   rw [cpt, if_neg (by simp), cpt, List.nil_append, ← List.take_append_getElem h0]
   simp [List.getElem?_eq_getElem h0]⟩ ?_
 rintro k ⟨hk1, hk2, hck⟩
 repeat refine wkKeepT0 ?_
 refine W_cond rfl (fun g2 => ?_) (fun g2 => ?_)
 ·simp only [decide_eq_true_eq] at g2
  have hkl : k < l.length := by omega
  have hx1 : (l.flatMap strEnc)[((k : Int)).toNat * 1]? = some (.string (l.getD k ByteArray.empty)) := by
   rw [show ((k : Int)).toNat * 1 = k from by omega, str_get, getD_at l k hkl]; rfl
  have hx2 : (l.flatMap strEnc)[((k : Int) - 1).toNat * 1]? = some (.string (l.getD (k - 1) ByteArray.empty)) := by
   rw [show ((k : Int) - 1).toNat * 1 = k - 1 from by omega, str_get, getD_at l (k - 1) (by omega)]; rfl
  repeat (first | (apply RL_pu; rfl; exact PuKeepT0) | (apply RD_Q; rfl; rfl; decide +kernel; rfl; rfl; exact QyKeepT0) | refine walk1 ?_ | (refine jn ?_; (try intro F); (first | (refine stA ?_) | (apply Stp_pu; first | exact PuKeepT0 | exact PuA)); first | refine ⟨_, EndsA, QFKeepT0, ?_⟩ | refine fin ?_))
  refine W_cond rfl (fun g3 => ?_) (fun g3 => ?_)
  ·simp only [decide_eq_true_eq] at g3
   repeat (first | (apply RL_pu; rfl; exact PuKeepT1) | (apply RD_Q; rfl; rfl; decide +kernel; rfl; rfl; exact QyKeepT1) | refine walk1 ?_ | (refine jn ?_; (try intro F); (first | (refine stA ?_) | (apply Stp_pu; first | exact PuKeepT1 | exact PuA)); first | refine ⟨_, EndsA, QFKeepT1, ?_⟩ | refine fin ?_))
   have hc0 : cpt l (k + 1) = l.take k := by rw [cpt, if_pos ⟨by omega, g3⟩, hck]
   refine W_loopF [(0, _), (4, .slice (some (ad.add ((k : Int).toNat * 1))) (l.length - (k : Int).toNat) (c - (k : Int).toNat))] R (fun g : KG => [(3, .int .i64 g.k), (5, .int .i64 g.k2)]) (fun g => [.row (.slice (some ad) l.length c) 9 1 l.length ((g.C ++ l.drop g.k).flatMap strEnc)])
    (fun g => g.C = cpt l (k + g.k2) ∧ g.C.length = g.k ∧ 1 ≤ g.k2 ∧ g.k + 1 ≤ k + g.k2 ∧ k + g.k2 ≤ l.length) (fun g => l.length - g.k2) ⟨k, 1, l.take k⟩ SFA (by rw [List.take_append_drop]; exact .refl _) ⟨hc0.symm, by show (l.take k).length = k; rw [List.length_take]; omega, Nat.le_refl _, Nat.le_refl _, hkl⟩ ?_
   rintro ⟨kk, k2, C⟩ ⟨hC, hCl, h21, h22, h23⟩
   dsimp only at hC hCl h21 h22 h23 ⊢
   have hLl : (C ++ l.drop kk).length = l.length := by rw [List.length_append, List.length_drop]; omega
   have hat : ∀ i, kk ≤ i → i < l.length → ((C ++ l.drop kk).flatMap strEnc)[i]? = some (.string (l.getD i ByteArray.empty)) := fun i h1 h2 => by
    rw [str_get, List.getElem?_append_right (by omega), List.getElem?_drop, hCl, show kk + (i - kk) = i from by omega, getD_at l i h2]; rfl
   repeat refine wkKeepT0 ?_
   refine W_cond rfl (fun g4 => ?_) (fun g4 => ?_)
   ·simp only [decide_eq_true_eq] at g4
    have hy1 : ((C ++ l.drop kk).flatMap strEnc)[(k : Int).toNat * 1 + ((k2 : Int)).toNat * 1]? = some (.string (l.getD (k + k2) ByteArray.empty)) := by
     rw [show (k : Int).toNat * 1 + ((k2 : Int)).toNat * 1 = k + k2 from by omega]; exact hat _ (by omega) (by omega)
    have hy2 : ((C ++ l.drop kk).flatMap strEnc)[(k : Int).toNat * 1 + ((k2 : Int) - 1).toNat * 1]? = some (.string (l.getD (k + k2 - 1) ByteArray.empty)) := by
     rw [show (k : Int).toNat * 1 + ((k2 : Int) - 1).toNat * 1 = k + k2 - 1 from by omega]; exact hat _ (by omega) (by omega)
    have hstep := cpt.eq_2 l (k + k2)
    rw [← hC] at hstep
    repeat (first | (apply RL_pu; rfl; exact PuKeepT2) | (apply RD_Q; rfl; rfl; decide +kernel; rfl; rfl; exact QyKeepT2) | refine walk1 ?_ | (refine jn ?_; (try intro F); (first | (refine stA ?_) | (apply Stp_pu; first | exact PuKeepT2 | exact PuA)); first | refine ⟨_, EndsA, QFKeepT2, ?_⟩ | refine fin ?_))
    refine W_cond rfl (fun g5 => ?_) (fun g5 => ?_)
    ·have g5' : ¬ (l.getD (k + k2) ByteArray.empty = l.getD (k + k2 - 1) ByteArray.empty) := by simpa using g5
     rw [if_neg (fun h => g5' h.2)] at hstep
     repeat (first | (apply RL_pu; rfl; exact PuKeepT2) | (refine js ?_; (apply Stp_storeR; rfl; rfl; (focus repeat' constructor); rfl; rfl; rfl; (simp only [str_len, hLl]; omega); decide; rfl)) | (apply RD_Q; rfl; rfl; decide +kernel; rfl; rfl; exact QyKeepT2) | refine walk1 ?_ | (refine RD_Lw ?_; intro F; (first | (apply Stp_storeR; rfl; rfl; (focus repeat' constructor); rfl; rfl; rfl; (simp only [str_len, hLl]; omega); decide; rfl) | (refine stA ?_) | (apply Stp_pu; first | exact PuKeepT2 | exact PuA)); refine ⟨_, EndsA, QFKeepT2, ?_⟩))
     have hfin : lay ((C ++ l.drop kk).flatMap strEnc) ((kk : Int).toNat * 1) (Value.string (l.getD (k + k2) ByteArray.empty)).cells.toList = ((C ++ [l.getD (k + k2) ByteArray.empty]) ++ l.drop (kk + 1)).flatMap strEnc := by
      rw [show (kk : Int).toNat * 1 = kk from by omega]
      show ((C ++ l.drop kk).flatMap strEnc).set kk (.string _) = _
      rw [str_set, List.set_append_right _ _ (by omega), hCl, Nat.sub_self, drop_cons (show kk < l.length by omega), List.set_cons_zero]
      simp
     exact ⟨⟨kk + 1, k2 + 1, C ++ [l.getD (k + k2) ByteArray.empty]⟩, OA, ⟨hstep.symm, by simp [hCl], OA, OA, OA⟩, SFA, by rw [← hfin]; exact .refl _⟩
    have g5' : l.getD (k + k2) ByteArray.empty = l.getD (k + k2 - 1) ByteArray.empty := by simpa using g5
    rw [if_pos ⟨by omega, g5'⟩] at hstep
    repeat refine wkKeepT0 ?_
    exact ⟨⟨kk, k2 + 1, C⟩, OA, ⟨hstep.symm, hCl, OA, OA, OA⟩, SFA, .refl _⟩
   simp only [decide_eq_false_iff_not] at g4
   have hend : k + k2 = l.length := by omega
   rw [hend] at hC
   have htk : (lay ((C ++ l.drop kk).flatMap strEnc) ((kk : Int).toNat * 1) (Builtin.zeroCells (Value.string ByteArray.empty).cells (l.length - (kk : Int).toNat)).toList).take (kk * 1) = C.flatMap strEnc := by
    rw [lay_take, List.flatMap_append, List.take_left' (by rw [str_len]; omega)]
    exact lay_out _ _ _ (by rw [str_len]; omega)
   repeat (first | ((apply RL_st0; apply Stp_clearR (p := (kk : Int).toNat * 1) (k := l.length - (kk : Int).toNat); rfl; (focus repeat' constructor); exact zeros_str _; omega; (simp only [str_len, hLl]; omega)); refine RL_shrink (m := l.length) kk (by omega) (by repeat' constructor) ?_; rw [htk]) | (apply RL_pu; rfl; exact PuKeepT1) | (apply RD_Q; rfl; rfl; decide +kernel; rfl; rfl; exact QyKeepT1) | refine walk1 ?_ | (refine jn ?_; (try intro F); (first | (refine stA ?_) | (apply Stp_pu; first | exact PuKeepT1 | exact PuA)); first | refine ⟨_, EndsA, QFKeepT1, ?_⟩ | refine fin ?_))
   subst hCl
   rw [← hC]
   exact ret_1 _ _ (.tmp rfl) (.refl _) ⟨rfl, rfl⟩
  simp only [decide_eq_false_iff_not] at g3
  repeat refine wkKeepT0 ?_
  exact ⟨k + 1, OA, ⟨OA, OA, by
   rw [cpt, if_neg (fun h => g3 h.2), hck, ← List.take_append_getElem hkl]
   congr 2
   simp [List.getElem?_eq_getElem hkl]⟩, SFA, SOA⟩
 simp only [decide_eq_false_iff_not] at g2
 have e : cpt l l.length = l := by
  have : k = l.length := by omega
  rw [← this, hck, this, List.take_length]
 rw [e]
 repeat refine wkKeepT0 ?_
 exact ret_1 _ _ (.tmp rfl) (.refl _) ⟨rfl, rfl⟩
end Go.Proofs.YtbjkhnlnedfceaaGreatDoor
namespace Go.Proofs.YtbjkhnlnedfceaaGreatDoor
open Go Go.RowKit Go.Wk
attribute [local irreducible] W RL Does thenQ blockQ retQ Calls Pu Stp RD Qy Ay
def withoutD (s : DSource) (names : List ByteArray) : DSource := ⟨s.rules, s.zones.filter fun z => !memB z.name names, s.links.filter fun l => !memB l.name names, s.shifts⟩
theorem take_filter {α : Type} {l : List α} {k : Nat} (hc : k < l.length) (p : α → Bool) : (l.take (k + 1)).filter p = (l.take k).filter p ++ if p l[k] then [l[k]] else [] := by
 rw [← List.take_append_getElem hc, List.filter_append]
 by_cases h : p l[k] <;> simp [h]
end Go.Proofs.YtbjkhnlnedfceaaGreatDoor
namespace Go.Proofs.YtbjkhnlnedfceaaGreatDoor
open Go Go.RowKit Go.Wk
attribute [local irreducible] W RL Does thenQ blockQ retQ Calls Pu Stp RD Qy Ay DoesIn
def cntB (x : ByteArray) : List ByteArray → Nat
 | [] => 0
 | y :: l => (if y = x then 1 else 0) + cntB x l
theorem cntB_snoc (x y : ByteArray) : ∀ l, cntB x (l ++ [y]) = cntB x l + if y = x then 1 else 0
 | [] => by simp [cntB]
 | z :: l => by simp only [List.cons_append, cntB, cntB_snoc x y l]; omega
theorem cntB_le (x : ByteArray) : ∀ l, cntB x l ≤ l.length
 | [] => Nat.le_refl _
 | y :: l => by
  have := cntB_le x l
  simp only [cntB, List.length_cons]
  split <;> omega
theorem cntB_pos (x : ByteArray) : ∀ l, decide (0 < cntB x l) = memB x l
 | [] => by simp [cntB, memB]
 | y :: l => by
  have ih := cntB_pos x l
  by_cases h : y = x
  ·simp [cntB, memB, h]
   omega
  ·simp only [cntB, memB, h, if_false, Nat.zero_add, decide_false, Bool.false_or]
   exact ih
def CntB (m : List (ByteArray × Value)) (l : List ByteArray) : Prop := ∀ x, (mget m x).getD (.int .i64 0) = .int .i64 (cntB x l)
theorem CntB.set {m : List (ByteArray × Value)} {l : List ByteArray} (h : CntB m l) (y : ByteArray) : CntB (mset m y (.int .i64 ((cntB y l : Int) + 1))) (l ++ [y]) := fun x => by
 rw [mget_mset, cntB_snoc]
 by_cases e : x = y
 ·subst e
  simp
 ·rw [if_neg e, if_neg (fun h => e h.symm), Nat.add_zero]
  exact h x
def NewCnt (l : List ByteArray) (v : Value) (O : List It) : Prop := ∃ b m, v = .map (some b) ∧ O = [.mp b m] ∧ CntB m l
theorem counted_spec (A : Option Addr) (c : Nat) (l : List ByteArray) (w : World) (hA : RdSl w A c strEnc 1 l) (hn : l.length ≤ 1000000) : Does Tryz.prog 61 [.slice A l.length c] w (NewCnt l) := by
 refine Does_of_W Tryz.func61 rfl rfl rfl rfl ?_
 repeat (first | (refine js ?_; (refine bx ?_; intro bk)) | refine walk ?_)
 refine W_loopF [(3, _), (7, _), (8, _)] [] (fun g : MG2 => [(9, .int .i64 g.k)]) (fun g => [.mp _ g.mp]) (fun g => g.k ≤ l.length ∧ CntB g.mp g.acc ∧ g.acc = l.take g.k) (fun g => l.length - g.k) ⟨0, [], []⟩ SFA (.refl _) ⟨by simp, fun _ => rfl, by simp⟩ ?_
 rintro ⟨k, acc, mp⟩ ⟨hk, hp, hi⟩
 dsimp only at hk hp hi ⊢
 repeat (first | (refine js ?_; (refine bx ?_; intro bk)) | refine walk ?_)
 refine W_cond rfl (fun hc => ?_) (fun hc => ?_)
 ·simp only [decide_eq_true_eq, Int.ofNat_lt] at hc
  obtain ⟨hna, hca⟩ := hA.rd k _ (List.getElem?_eq_getElem hc)
  have hnb := hna
  have hcb := hca
  have ht := List.take_append_getElem hc
  generalize l[k] = r at *
  have hb := cntB_le r acc
  have hal : acc.length ≤ k := by rw [hi, List.length_take]; omega
  repeat (first | (apply RL_pu; rfl; (first | exact PuI | (apply Pu_lookupC; rfl; rfl; (focus repeat' constructor); exact hp _))) | (refine js ?_; (refine bx ?_; intro bk)) | refine walk1 ?_)
  exact ⟨⟨k + 1, acc ++ [r], mset mp r (.int .i64 ((cntB r acc : Int) + 1))⟩, OA, ⟨OA, hp.set _, by rw [hi, ht]⟩, SFA, SOA⟩
 simp only [decide_eq_false_iff_not, Int.ofNat_lt] at hc
 rw [List.take_of_length_le (by omega)] at hi
 repeat (first | (refine js ?_; (refine bx ?_; intro bk)) | refine walk ?_)
 exact ret_1 _ [.mp _ mp] (.tmp rfl) SOA ⟨_, mp, rfl, rfl, hi ▸ hp⟩
structure DOpt where
 bz : Bool
 all : Bool
 keep : List ByteArray
def optV (A : Option Addr) (c : Nat) (o : DOpt) : Value := .agg #[.bool o.bz, .bool o.all, .slice A o.keep.length c]
def candB (s : DSource) (o : DOpt) : List ByteArray := (s.zones.filter fun z => o.all || memB z.name o.keep).map (·.name)
def namesP (s : DSource) (o : DOpt) : List ByteArray := if o.bz then cpt (sortB (candB s o)) (sortB (candB s o)).length else []
theorem sortB_length (l : List ByteArray) : (sortB l).length = l.length := by have := sortB_len l l.length (Nat.le_refl _); rwa [List.take_length] at this
set_option maxHeartbeats 4000000 in
theorem names_spec33 (Ar Az Al As : Option Addr) (cr cz cl cs : Nat) (a : DSource) (Ao : Option Addr) (co : Nat) (o : DOpt) (w : World) (hA : RdSource w Ar Az Al As cr cz cl cs a) (hO : RdSl w Ao co strEnc 1 o.keep) (hn : a.zones.length ≤ 12) (hk : o.keep.length ≤ 1000000) :
  Does Tryz.prog 72 [srcV Ar Az Al As cr cz cl cs a, optV Ao co o] w (NewSl 9 1 strEnc (namesP a o)) := by
 refine Does_of_W Tryz.func72 rfl rfl rfl rfl ?_
 repeat (first | (refine js ?_; (refine bx ?_; intro bk)) | refine walk ?_)
 refine W_cond rfl (fun g1 => ?_) (fun g1 => ?_)
 ·have e : namesP a o = [] := by simp at g1; simp [namesP, g1]
  rw [e]
  refine W_nil 9 1 ?_
  repeat (first | (refine js ?_; (refine bx ?_; intro bk)) | refine walk ?_)
  exact ret_1 _ [.row (.slice none 0 0) 9 1 0 []] (.tmp rfl) SOA ⟨none, 0, rfl, rfl⟩
 have e : namesP a o = cpt (sortB (candB a o)) (sortB (candB a o)).length := by simp at g1; simp [namesP, g1]
 rw [e]
 repeat (first | (refine js ?_; (first | (apply Stp_call (h := fun w' hw _ => counted_spec Ao co o.keep w' (hO.up hw) hk); rfl; rintro v O' ⟨bm, mp, rfl, rfl, hmp⟩) | (refine bx ?_; intro bk))) | refine walk ?_)
 rename_i b2
 generalize bk = b3
 refine W_nil 9 1 ?_
 refine W_loopF [(2, _), (3, _), (5, _), (16, _), (17, _)] [.mp bm mp, .blk b3 _ _, .blk b2 _ _] (fun g : AG ByteArray => [(18, .int .i64 g.k), (6, .slice g.A g.m g.c)]) (fun g => [.row (.slice g.A g.m g.c) 9 1 g.m g.xs])
  (fun g => g.k ≤ a.zones.length ∧ g.m = g.acc.length ∧ g.xs = g.acc.flatMap strEnc ∧ g.m ≤ g.k ∧ g.acc = ((a.zones.take g.k).filter fun z => o.all || memB z.name o.keep).map (·.name) ∧ g.m ≤ g.c ∧ g.c ≤ maxLen ∧ (0 < g.m → g.A ≠ none)) (fun g => a.zones.length - g.k) ⟨0, none, 0, 0, [], []⟩ SFA (.refl _) ⟨by simp, rfl, rfl, Nat.le_refl _, by simp, Nat.le_refl _, Nat.zero_le _, fun h => absurd h (by simp)⟩ ?_
 rintro ⟨k, A2, c2, m2, x2, ac2⟩ ⟨hk2, hm2, hx2, hmk2, ha2, hcc1, hcc2, hcc3⟩
 dsimp only at hk2 hm2 hx2 hmk2 ha2 hcc1 hcc2 hcc3 ⊢
 repeat (first | (refine js ?_; (refine bx ?_; intro bk)) | refine walk ?_)
 refine W_cond rfl (fun hc => ?_) (fun hc => ?_)
 ·simp only [decide_eq_true_eq, Int.ofNat_lt] at hc
  obtain ⟨hna, cs1, ⟨Ae, ce, hE, rfl⟩, hca⟩ := hA.z k _ (List.getElem?_eq_getElem hc)
  have hnb := hna
  have hcb := hca
  have ht := take_filter hc (fun z : DZone => o.all || memB z.name o.keep)
  generalize a.zones[k] = z at *
  repeat (first | (apply RL_pu; rfl; exact PuI) | (refine js ?_; (refine bx ?_; intro bk)) | refine walk1 ?_)
  refine RL_split 24 rfl (fun g2 => ?_) (fun g2 => ?_)
  ·rw [g2] at ht
   simp only [Bool.true_or, if_true] at ht
   rw [g2] at ha2
   repeat (first | (apply RL_pu; rfl; exact PuI) | (refine js ?_; (first | (apply Stp_append; rfl; rfl; (intro A' c'; (focus repeat' constructor)); (intro w' _ hO; exact blkRaw (hO.of (by repeat' constructor))); rfl; rfl; (simp only [maxLen]; omega); omega; intro A' c' hc1 hc2 hc3) | (refine bx ?_; intro bk))) | refine walk1 ?_)
   exact ⟨⟨k + 1, A', c', m2 + 1, x2 ++ strEnc z.name, ac2 ++ [z.name]⟩, OA, ⟨OA, by simp [hm2], by rw [hx2]; exact flat_snoc ac2 _, OA, by rw [g2]; simp only [Bool.true_or]; rw [ht, ha2]; simp, hc1, hc2, hc3⟩, SFA, SOA⟩
  rw [g2] at ht
  rw [g2] at ha2
  simp only [Bool.false_or] at ht ha2
  have hpos := cntB_pos z.name o.keep
  repeat (first | (apply RL_pu; rfl; (first | exact PuI | (apply Pu_lookupC; rfl; rfl; (focus repeat' constructor); exact hmp _))) | (refine js ?_; (refine bx ?_; intro bk)) | refine walk1 ?_)
  refine W_cond rfl (fun g3 => ?_) (fun g3 => ?_)
  ·have g3' : memB z.name o.keep = true := by rw [← hpos]; simpa using g3
   rw [g3'] at ht
   repeat (first | (apply RL_pu; rfl; exact PuI) | (refine js ?_; (first | (apply Stp_append; rfl; rfl; (intro A' c'; (focus repeat' constructor)); (intro w' _ hO; exact blkRaw (hO.of (by repeat' constructor))); rfl; rfl; (simp only [maxLen]; omega); omega; intro A' c' hc1 hc2 hc3) | (refine bx ?_; intro bk))) | refine walk1 ?_)
   exact ⟨⟨k + 1, A', c', m2 + 1, x2 ++ strEnc z.name, ac2 ++ [z.name]⟩, OA, ⟨OA, by simp [hm2], by rw [hx2]; exact flat_snoc ac2 _, OA, by rw [g2]; simp only [Bool.false_or]; rw [ht, ha2]; simp, hc1, hc2, hc3⟩, SFA, SOA⟩
  have g3' : memB z.name o.keep = false := by rw [← hpos]; simpa using g3
  rw [g3'] at ht
  repeat (first | (refine js ?_; (refine bx ?_; intro bk)) | refine walk ?_)
  exact ⟨⟨k + 1, A2, c2, m2, x2, ac2⟩, OA, ⟨OA, hm2, hx2, OA, by rw [g2]; simp only [Bool.false_or]; rw [ht, ha2]; simp, hcc1, hcc2, hcc3⟩, SFA, SOA⟩
 simp only [decide_eq_false_iff_not, Int.ofNat_lt] at hc
 rw [List.take_of_length_le (by omega)] at ha2
 have ha2' : ac2 = candB a o := ha2
 subst ha2' hm2 hx2
 have hlen := sortB_length (candB a o)
 have hcomp : ∀ R, DoesIn Tryz.prog 107 [.slice A2 (candB a o).length c2] w (rowS A2 c2 (sortB (candB a o)) :: R) (fun v O => v = .slice A2 (cpt (sortB (candB a o)) (sortB (candB a o)).length).length c2 ∧ O = rowS A2 c2 (cpt (sortB (candB a o)) (sortB (candB a o)).length) :: R) := fun R => by
  rw [show [Value.slice A2 (candB a o).length c2] = [.slice A2 (sortB (candB a o)).length c2] from by rw [hlen]]
  exact compact_spec A2 c2 (sortB (candB a o)) w R (by omega) (by omega) hcc2 (fun h => hcc3 (by omega))
 repeat (first | (refine js ?_; (first | (apply Stp_callIn (h := sort_spec A2 c2 (candB a o) w _ (by omega) hcc3); rfl; exact .refl _; rintro v O' rfl) | (apply Stp_callIn (h := hcomp _); rfl; exact .refl _; rintro v O' ⟨rfl, rfl⟩) | (refine bx ?_; intro bk))) | refine walk ?_)
 exact ret_1 _ [_] (.tmp rfl) (.cons .here .nil) ⟨A2, c2, rfl, rfl⟩
end Go.Proofs.YtbjkhnlnedfceaaGreatDoor
