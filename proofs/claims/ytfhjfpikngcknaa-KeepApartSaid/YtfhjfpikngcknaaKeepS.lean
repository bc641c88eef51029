/- Contracts: cmp.Less, slices.insertionSortOrdered, pdqsortOrdered (short lists), math/bits.Len, slices.Sort at string. -/
import Derived.Test.YtfhjfpikngcknaaKeepA
import Derived.Test.YtfhjfpikngcknaaWkQ
namespace Go.Proofs.Ytfhjfpikngcknaa
open Go Go.RowKit Go.Wk
attribute [local irreducible] W RL Does thenQ blockQ retQ Calls Pu Stp RD Qy Ay DoesIn

def lessB (x y : ByteArray) : Bool := Op.bytesLess x.toList y.toList
theorem isNaN_spec (x : ByteArray) (w : World) : Does Try.prog 94 [.string x] w (fun v O => v = .bool false ∧ O = []) := by
  refine Does_of_W Try.func94 rfl rfl rfl rfl ?_
  repeat (first | refine walk ?_)
  exact ret_1 _ [] (.tmp rfl) .nil ⟨by simp, rfl⟩
theorem less_spec (x y : ByteArray) (w : World) : Does Try.prog 76 [.string x, .string y] w (fun v O => v = .bool (lessB x y) ∧ O = []) := by
  refine Does_of_W Try.func76 rfl rfl rfl rfl ?_
  repeat (first | (apply RL_st0; (apply Stp_call (h := fun w' _ _ => isNaN_spec x w'); rfl; rintro v O' ⟨rfl, rfl⟩)) | (apply RL_st; rfl; (apply Stp_call (h := fun w' _ _ => isNaN_spec x w'); rfl; rintro v O' ⟨rfl, rfl⟩)) | refine walk ?_)
  exact ret_1 _ [] (.tmp rfl) .nil ⟨rfl, rfl⟩
set_option maxRecDepth 100000 in
theorem len64_spec (x : Int) (h0 : 0 ≤ x) (h1 : x ≤ 255) (w : World) : Does Try.prog 108 [.int .u64 x] w (fun v O => (∃ i, v = .int .i64 i) ∧ O = []) := by
  refine Does_of_W Try.func108 rfl rfl rfl rfl ?_
  repeat (first | refine walk ?_)
  refine W_cond rfl (fun g1 => absurd g1 (by simp; omega)) (fun _ => ?_)
  repeat (first | refine walk ?_)
  refine W_cond rfl (fun g1 => absurd g1 (by simp; omega)) (fun _ => ?_)
  repeat (first | refine walk ?_)
  refine W_cond rfl (fun g1 => absurd g1 (by simp; omega)) (fun _ => ?_)
  repeat (first | refine walk ?_)
  have hw : IntKind.u8.wrap x = x := by simp [IntKind.wrap, IntKind.signed, IntKind.bits]; omega
  refine RL_re 21 (.int .u8 x) rfl (by rw [hw]) ?_
  repeat (first | (apply RL_pu; rfl; (first | (apply Pu_indexS; rfl; rfl; omega; (show x < ((256 : Nat) : Int); omega)) | (apply Pu_addW; rfl; rfl))) | refine walk1 ?_)
  exact ret_1 _ [] (.tmp rfl) .nil ⟨⟨_, rfl⟩, rfl⟩
theorem len_spec (x : Int) (h0 : 0 ≤ x) (h1 : x ≤ 255) (w : World) : Does Try.prog 87 [.int .u64 x] w (fun v O => (∃ i, v = .int .i64 i) ∧ O = []) := by
  refine Does_of_W Try.func87 rfl rfl rfl rfl ?_
  repeat (first | (apply RL_st0; (apply Stp_call (h := fun w' _ _ => len64_spec x h0 h1 w'); rfl; rintro v O' ⟨⟨i, rfl⟩, rfl⟩)) | (apply RL_st; rfl; (apply Stp_call (h := fun w' _ _ => len64_spec x h0 h1 w'); rfl; rintro v O' ⟨⟨i, rfl⟩, rfl⟩)) | refine walk ?_)
  exact ret_1 _ [] (.tmp rfl) .nil ⟨⟨_, rfl⟩, rfl⟩

/-- x put into a list at an index. -/
def putAt (P : List ByteArray) (x : ByteArray) (j : Nat) : List ByteArray := P.take j ++ x :: P.drop j
/-- x moved in front of those of the first j that are greater. -/
def insB (P : List ByteArray) (x : ByteArray) : Nat → List ByteArray
  | 0 => putAt P x 0
  | j + 1 => if lessB x (P.getD j ByteArray.empty) then insB P x j else putAt P x (j + 1)
def sortB (l : List ByteArray) : List ByteArray := l.foldl (fun P x => insB P x P.length) []
theorem putAt_len (P : List ByteArray) (x : ByteArray) (j : Nat) : (putAt P x j).length = P.length + 1 := by
  simp [putAt]; omega
theorem insB_len (P : List ByteArray) (x : ByteArray) : ∀ j, (insB P x j).length = P.length + 1
  | 0 => putAt_len P x 0
  | j + 1 => by
    rw [insB]
    split
    · exact insB_len P x j
    · exact putAt_len P x (j + 1)
theorem str_get (L : List ByteArray) (p : Nat) : (L.flatMap strEnc)[p]? = (L[p]?).map Value.string := by
  induction L generalizing p with
  | nil => simp
  | cons y L ih =>
    cases p with
    | zero => simp [strEnc]
    | succ p => simp only [List.flatMap_cons, strEnc, List.singleton_append, List.getElem?_cons_succ]; exact ih p
theorem str_set (L : List ByteArray) (p : Nat) (y : ByteArray) : (L.flatMap strEnc).set p (.string y) = (L.set p y).flatMap strEnc := by
  induction L generalizing p with
  | nil => simp
  | cons z L ih =>
    cases p with
    | zero => simp [strEnc]
    | succ p => simp only [List.flatMap_cons, strEnc, List.singleton_append, List.set_cons_succ]; rw [← ih p]
theorem str_len (L : List ByteArray) : (L.flatMap strEnc).length = L.length := by
  have := flat_len strEnc.len L
  omega
theorem putAt_here (P R : List ByteArray) (x : ByteArray) (j : Nat) (hj : j ≤ P.length) : (putAt P x j ++ R)[j]? = some x := by
  rw [List.getElem?_append_left (by rw [putAt_len]; omega), putAt, List.getElem?_append_right (by rw [List.length_take]; omega), List.length_take, show j - min j P.length = 0 from by omega]
  rfl
theorem putAt_before (P R : List ByteArray) (x : ByteArray) (j : Nat) (hj : j < P.length) : (putAt P x (j + 1) ++ R)[j]? = some (P.getD j ByteArray.empty) := by
  rw [List.getElem?_append_left (by rw [putAt_len]; omega), putAt, List.getElem?_append_left (by rw [List.length_take]; omega), List.getElem?_take, if_pos (by omega), List.getD_eq_getElem?_getD, List.getElem?_eq_getElem hj]
  rfl
theorem putAt_swap (P R : List ByteArray) (x : ByteArray) (j : Nat) (hj : j < P.length) : ((putAt P x (j + 1) ++ R).set (j + 1) (P.getD j ByteArray.empty)).set j x = putAt P x j ++ R := by
  have hg : P.getD j ByteArray.empty = P[j] := by rw [List.getD_eq_getElem?_getD, List.getElem?_eq_getElem hj]; rfl
  apply List.ext_getElem?
  intro i
  have hlen : (putAt P x (j + 1) ++ R).length = P.length + 1 + R.length := by rw [List.length_append, putAt_len]
  rw [List.getElem?_set, List.getElem?_set, List.length_set, hlen]
  by_cases h1 : j = i
  · subst h1
    rw [if_pos rfl, if_pos (by omega), putAt_here P R x j (by omega)]
  · rw [if_neg h1]
    by_cases h2 : j + 1 = i
    · subst h2
      rw [if_pos rfl, if_pos (by omega), List.getElem?_append_left (by rw [putAt_len]; omega), putAt, List.getElem?_append_right (by rw [List.length_take]; omega), List.length_take, show j + 1 - min j P.length = 1 from by omega, List.getElem?_cons_succ, List.getElem?_drop, List.getElem?_eq_getElem (by omega), hg]
      simp
    · rw [if_neg h2]
      by_cases h3 : i < j
      · rw [List.getElem?_append_left (by rw [putAt_len]; omega), List.getElem?_append_left (by rw [putAt_len]; omega), putAt, putAt, List.getElem?_append_left (by rw [List.length_take]; omega), List.getElem?_append_left (by rw [List.length_take]; omega), List.getElem?_take, List.getElem?_take, if_pos (by omega), if_pos (by omega)]
      · by_cases h4 : i < P.length + 1
        · rw [List.getElem?_append_left (by rw [putAt_len]; omega), List.getElem?_append_left (by rw [putAt_len]; omega), putAt, putAt, List.getElem?_append_right (by rw [List.length_take]; omega), List.getElem?_append_right (by rw [List.length_take]; omega), List.length_take, List.length_take, show i - min (j + 1) P.length = (i - j - 2) + 1 from by omega, show i - min j P.length = (i - j - 1) + 1 from by omega, List.getElem?_cons_succ, List.getElem?_cons_succ, List.getElem?_drop, List.getElem?_drop, show j + 1 + (i - j - 2) = j + (i - j - 1) from by omega]
        · rw [List.getElem?_append_right (by rw [putAt_len]; omega), List.getElem?_append_right (by rw [putAt_len]; omega), putAt_len, putAt_len]

theorem foldl_snoc (l : List ByteArray) (i : Nat) (hi : i < l.length) : sortB (l.take (i + 1)) = insB (sortB (l.take i)) l[i] (sortB (l.take i)).length := by
  rw [← List.take_append_getElem hi, sortB, List.foldl_append]
  rfl
theorem sortB_len (l : List ByteArray) : ∀ i, i ≤ l.length → (sortB (l.take i)).length = i
  | 0, _ => by simp [sortB]
  | i + 1, h => by rw [foldl_snoc l i (by omega), insB_len, sortB_len l i (by omega)]


set_option maxHeartbeats 4000000 in
theorem insertion_spec (A : Option Addr) (c : Nat) (l : List ByteArray) (wr : World) (R : List It) (hn : l.length ≤ 1000000) (hAn : 0 < l.length → A ≠ none) :
    DoesIn Try.prog 99 [.slice A l.length c, .int .i64 0, .int .i64 l.length] wr (rowS A c l :: R) (fun _ O => O = rowS A c (sortB l) :: R) := by
  refine DoesIn_of_W Try.func99 rfl rfl rfl rfl ?_
  repeat (first | refine walk ?_ | (refine RD_Lw ?_; intro F; (first | (apply Stp_storeNf; rfl; rfl; (focus repeat' constructor); (focus repeat (first | exact Nf.nil | apply Nf.cons)); rfl; rfl; rfl; (focus repeat' constructor)) | (apply Stp_pu; exact PuA)); refine ⟨_, EndsA, QFA, ?_⟩))
  refine W_loopF [(0, _), (1, _), (2, _)] R (fun i : Nat => [(6, .int .i64 i)]) (fun i => [.row (.slice A l.length c) 9 1 l.length ((sortB (l.take i) ++ l.drop i).flatMap strEnc)]) (fun i => 1 ≤ i ∧ i ≤ l.length + 1) (fun i => l.length + 1 - i) 1 (by repeat (first | exact trivial | refine ⟨rfl, ?_⟩)) (by
      have e : sortB (l.take 1) ++ l.drop 1 = l := by
        cases l with
        | nil => rfl
        | cons x l => rfl
      rw [e]
      exact .refl _) ⟨Nat.le_refl _, by omega⟩ ?_
  rintro i ⟨hi1, hi2⟩
  repeat (first | refine walk ?_ | (refine RD_Lw ?_; intro F; (first | (apply Stp_storeNf; rfl; rfl; (focus repeat' constructor); (focus repeat (first | exact Nf.nil | apply Nf.cons)); rfl; rfl; rfl; (focus repeat' constructor)) | (apply Stp_pu; exact PuA)); refine ⟨_, EndsA, QFA, ?_⟩))
  refine W_cond rfl (fun g1 => ?_) (fun g1 => ?_)
  · simp only [decide_eq_true_eq] at g1
    have hil : i < l.length := by omega
    have hAn := hAn (by omega)
    have hPl := sortB_len l i (by omega)
    have hfs := foldl_snoc l i hil
    have hdr : sortB (l.take i) ++ l.drop i = putAt (sortB (l.take i)) l[i] i ++ l.drop (i + 1) := by
      generalize sortB (l.take i) = Q at *
      rw [putAt, List.take_of_length_le (l := Q) (by omega), List.drop_of_length_le (l := Q) (by omega), drop_cons hil]
      simp
    rw [hPl] at hfs
    rw [hdr]
    generalize sortB (l.take i) = Q at *
    generalize l[i] = x at *
    generalize hrest : l.drop (i + 1) = rest at *
    have hrl : rest.length = l.length - (i + 1) := by rw [← hrest, List.length_drop]
    repeat (first | refine walk ?_ | (refine RD_Lw ?_; intro F; (first | (apply Stp_storeNf; rfl; rfl; (focus repeat' constructor); (focus repeat (first | exact Nf.nil | apply Nf.cons)); rfl; rfl; rfl; (focus repeat' constructor)) | (apply Stp_pu; exact PuA)); refine ⟨_, EndsA, QFA, ?_⟩))
    refine W_loopF [(0, _), (1, _), (2, _), (6, _)] R (fun j : Nat => [(7, .int .i64 j)]) (fun j => [.row (.slice A l.length c) 9 1 l.length ((putAt Q x j ++ rest).flatMap strEnc)]) (fun j => j ≤ i ∧ insB Q x j = insB Q x i) (fun j => j) i (by repeat (first | exact trivial | refine ⟨rfl, ?_⟩)) (.refl _) ⟨Nat.le_refl _, rfl⟩ ?_
    rintro j ⟨hj, hins⟩
    repeat (first | refine walk ?_ | (refine RD_Lw ?_; intro F; (first | (apply Stp_storeNf; rfl; rfl; (focus repeat' constructor); (focus repeat (first | exact Nf.nil | apply Nf.cons)); rfl; rfl; rfl; (focus repeat' constructor)) | (apply Stp_pu; exact PuA)); refine ⟨_, EndsA, QFA, ?_⟩))
    refine RD_split 19 rfl (fun g2 => ?_) (fun g2 => ?_)
    · simp only [decide_eq_true_eq] at g2
      obtain ⟨j, rfl⟩ : ∃ j', j = j' + 1 := ⟨j - 1, by omega⟩
      have hjQ : j < Q.length := by omega
      have hx1 : ((putAt Q x (j + 1) ++ rest).flatMap strEnc)[(((j + 1 : Nat) : Int)).toNat * 1]? = some (.string x) := by
        rw [show (((j + 1 : Nat) : Int)).toNat * 1 = j + 1 from by omega, str_get, putAt_here Q rest x (j + 1) (by omega)]; rfl
      have hx2 : ((putAt Q x (j + 1) ++ rest).flatMap strEnc)[(((j + 1 : Nat) : Int) - 1).toNat * 1]? = some (.string (Q.getD j ByteArray.empty)) := by
        rw [show (((j + 1 : Nat) : Int) - 1).toNat * 1 = j from by omega, str_get, putAt_before Q rest x j (by omega)]; rfl
      have hsw := putAt_swap Q rest x j hjQ
      have hll : (putAt Q x (j + 1) ++ rest).length = l.length := by rw [List.length_append, putAt_len]; omega
      rw [insB] at hins
      generalize Q.getD j ByteArray.empty = y at *
      repeat (first | (apply RL_pu; rfl; (first | (apply Pu_indexAddr; rfl; rfl; omega; omega; exact hAn) | (apply Pu_loadR; rfl; (focus repeat' constructor); first | exact hx1 | exact hx2))) | (apply RL_st0; (apply Stp_call (h := fun w' _ _ => less_spec x y w'); rfl; rintro v O' ⟨rfl, rfl⟩)) | (apply RL_st; rfl; (apply Stp_call (h := fun w' _ _ => less_spec x y w'); rfl; rintro v O' ⟨rfl, rfl⟩)) | (apply RD_Q; rfl; rfl; decide +kernel; rfl; rfl; (first | (apply Qy_y; rfl; (first | (apply Pu_indexAddr; rfl; rfl; omega; omega; exact hAn) | (apply Pu_loadR; rfl; (focus repeat' constructor); first | exact hx1 | exact hx2))) | exact QyA)) | refine walk1 ?_ | (refine RD_G0w ?_; intro F; (apply Stp_call (h := fun w' _ _ => less_spec x y w'); rfl; rintro v O' ⟨rfl, rfl⟩); refine ⟨_, EndsA, SubO.right _ _, ?_⟩) | (refine RD_Lw ?_; intro F; (first | (apply Stp_call (h := fun w' _ _ => less_spec x y w'); rfl; rintro v O' ⟨rfl, rfl⟩) | (apply Stp_storeNf; rfl; rfl; (focus repeat' constructor); (focus repeat (first | exact Nf.nil | apply Nf.cons)); rfl; rfl; rfl; (focus repeat' constructor)) | (apply Stp_pu; first | (apply Pu_indexAddr; rfl; rfl; omega; omega; exact hAn) | (apply Pu_loadR; rfl; (focus repeat' constructor); first | exact hx1 | exact hx2) | exact PuA)); refine ⟨_, EndsA, (by repeat (first | exact QF.nil | (apply QF.mk; rfl; rfl; decide +kernel; (first | (apply Qy_y; rfl; (first | (apply Pu_indexAddr; rfl; rfl; omega; omega; exact hAn) | (apply Pu_loadR; rfl; (focus repeat' constructor); first | exact hx1 | exact hx2))) | exact QyA)))), ?_⟩))
      refine W_cond rfl (fun g3 => ?_) (fun g3 => ?_)
      · rw [if_pos g3] at hins
        repeat (first | (apply RL_pu; rfl; (first | (apply Pu_indexAddr; rfl; rfl; omega; omega; exact hAn) | (apply Pu_loadR; rfl; (focus repeat' constructor); first | exact hx1 | exact hx2))) | (apply RL_st0; (apply Stp_storeR; rfl; rfl; (focus repeat' constructor); rfl; rfl; rfl; (simp only [lay_length, str_len, hll]; omega); decide; rfl)) | (apply RL_st; rfl; (apply Stp_storeR; rfl; rfl; (focus repeat' constructor); rfl; rfl; rfl; (simp only [lay_length, str_len, hll]; omega); decide; rfl)) | (apply RD_Q; rfl; rfl; decide +kernel; rfl; rfl; (first | (apply Qy_y; rfl; (first | (apply Pu_indexAddr; rfl; rfl; omega; omega; exact hAn) | (apply Pu_loadR; rfl; (focus repeat' constructor); first | exact hx1 | exact hx2))) | exact QyA)) | refine walk1 ?_ | (refine RD_Lw ?_; intro F; (first | (apply Stp_storeR; rfl; rfl; (focus repeat' constructor); rfl; rfl; rfl; (simp only [lay_length, str_len, hll]; omega); decide; rfl) | (apply Stp_storeNf; rfl; rfl; (focus repeat' constructor); (focus repeat (first | exact Nf.nil | apply Nf.cons)); rfl; rfl; rfl; (focus repeat' constructor)) | (apply Stp_pu; first | (apply Pu_indexAddr; rfl; rfl; omega; omega; exact hAn) | (apply Pu_loadR; rfl; (focus repeat' constructor); first | exact hx1 | exact hx2) | exact PuA)); refine ⟨_, EndsA, (by repeat (first | exact QF.nil | (apply QF.mk; rfl; rfl; decide +kernel; (first | (apply Qy_y; rfl; (first | (apply Pu_indexAddr; rfl; rfl; omega; omega; exact hAn) | (apply Pu_loadR; rfl; (focus repeat' constructor); first | exact hx1 | exact hx2))) | exact QyA)))), ?_⟩))
        have hfin : lay (lay ((putAt Q x (j + 1) ++ rest).flatMap strEnc) ((((j + 1 : Nat) : Int)).toNat * 1) (Value.string y).cells.toList) ((((j + 1 : Nat) : Int) - 1).toNat * 1) (Value.string x).cells.toList = (putAt Q x j ++ rest).flatMap strEnc := by
          rw [show (((j + 1 : Nat) : Int)).toNat * 1 = j + 1 from by omega, show (((j + 1 : Nat) : Int) - 1).toNat * 1 = j from by omega, ← hsw, ← str_set, ← str_set]
          rfl
        exact ⟨j, (by first | omega | (dsimp only; omega)), ⟨(by first | omega | (dsimp only; omega)), hins⟩, by
          refine ⟨?_, (by repeat (first | exact trivial | refine ⟨rfl, ?_⟩))⟩
          show some (Value.int .i64 ((((j + 1 : Nat) : Int)) - 1)) = some (.int .i64 (j : Int))
          congr 2
          omega, by rw [← hfin]; exact .refl _⟩
      rw [if_neg (by simp [g3])] at hins
      repeat (first | refine walk ?_ | (refine RD_Lw ?_; intro F; (first | (apply Stp_storeNf; rfl; rfl; (focus repeat' constructor); (focus repeat (first | exact Nf.nil | apply Nf.cons)); rfl; rfl; rfl; (focus repeat' constructor)) | (apply Stp_pu; exact PuA)); refine ⟨_, EndsA, QFA, ?_⟩))
      exact ⟨i + 1, (by first | omega | (dsimp only; omega)), ⟨(by first | omega | (dsimp only; omega)), (by first | omega | (dsimp only; omega))⟩, (by repeat (first | exact trivial | refine ⟨rfl, ?_⟩)), by rw [hfs, hrest, ← hins]; exact .refl _⟩
    have hj0 : j = 0 := by simp at g2; omega
    subst hj0
    repeat (first | refine walk ?_ | (refine RD_Lw ?_; intro F; (first | (apply Stp_storeNf; rfl; rfl; (focus repeat' constructor); (focus repeat (first | exact Nf.nil | apply Nf.cons)); rfl; rfl; rfl; (focus repeat' constructor)) | (apply Stp_pu; exact PuA)); refine ⟨_, EndsA, QFA, ?_⟩))
    exact ⟨i + 1, (by first | omega | (dsimp only; omega)), ⟨(by first | omega | (dsimp only; omega)), (by first | omega | (dsimp only; omega))⟩, (by repeat (first | exact trivial | refine ⟨rfl, ?_⟩)), by rw [hfs, hrest, ← hins]; exact .refl _⟩
  simp only [decide_eq_false_iff_not] at g1
  rw [List.take_of_length_le (by omega), List.drop_of_length_le (by omega), List.append_nil]
  have hlen : (sortB l).length = l.length := by have := sortB_len l l.length (Nat.le_refl _); rwa [List.take_length] at this
  repeat (first | refine walk ?_ | (refine RD_Lw ?_; intro F; (first | (apply Stp_storeNf; rfl; rfl; (focus repeat' constructor); (focus repeat (first | exact Nf.nil | apply Nf.cons)); rfl; rfl; rfl; (focus repeat' constructor)) | (apply Stp_pu; exact PuA)); refine ⟨_, EndsA, QFA, ?_⟩))
  exact ret_0 _ (.refl _) (by unfold rowS; rw [hlen]; rfl)
end Go.Proofs.Ytfhjfpikngcknaa
