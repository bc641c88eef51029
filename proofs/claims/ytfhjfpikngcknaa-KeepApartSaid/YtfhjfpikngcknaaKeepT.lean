/- Contracts: slices.pdqsortOrdered (short lists), slices.Sort, slices.Compact at string. -/
import Derived.Test.YtfhjfpikngcknaaKeepS
import Derived.Test.YtfhjfpikngcknaaWkQ
namespace Go.Proofs.Ytfhjfpikngcknaa
open Go Go.RowKit Go.Wk
theorem ret_0r {P : Program} {wr : World} {fr : Fr} {O : List It} {R : Value → List It → Prop} (O' : List It) (hO : SubO O' O) (hR : R (.tuple #[]) O') : retQ P wr [] R .ret fr O := ⟨[], O', rfl, hO, hR⟩
attribute [local irreducible] W RL Does thenQ blockQ retQ Calls Pu Stp RD Qy Ay DoesIn

theorem pdq_spec (A : Option Addr) (c : Nat) (l : List ByteArray) (lim : Int) (wr : World) (R : List It) (hn : l.length ≤ 12) (hAn : 0 < l.length → A ≠ none) :
    DoesIn Try.prog 86 [.slice A l.length c, .int .i64 0, .int .i64 l.length, .int .i64 lim] wr (rowS A c l :: R) (fun _ O => O = rowS A c (sortB l) :: R) := by
  refine DoesIn_of_W Try.func86 rfl rfl rfl rfl ?_
  repeat (first | refine walkB ?_ | (refine RD_Lw ?_; intro F; (apply Stp_pu; exact PuA); refine ⟨_, EndsA, QFA, ?_⟩))
  apply W_block
  refine W_loopF [(0, _), (1, _), (2, _), (3, _)] (rowS A c l :: R) (fun _ : Unit => []) (fun _ => []) (fun _ => True) (fun _ => 0) () (by repeat (first | exact trivial | refine ⟨rfl, ?_⟩)) (.refl _) trivial ?_
  rintro _ _
  repeat (first | refine walk ?_ | (refine RD_Lw ?_; intro F; (apply Stp_pu; exact PuA); refine ⟨_, EndsA, QFA, ?_⟩))
  refine W_cond rfl (fun _ => ?_) (fun g1 => absurd g1 (by simp; omega))
  repeat (first | (apply RL_st0; (apply Stp_callIn (h := insertion_spec A c l wr _ (by omega) hAn); rfl; exact .refl _; rintro v O' rfl)) | (apply RL_st; rfl; (apply Stp_callIn (h := insertion_spec A c l wr _ (by omega) hAn); rfl; exact .refl _; rintro v O' rfl)) | refine walk ?_ | (refine RD_G0w ?_; intro F; (apply Stp_callIn (h := insertion_spec A c l wr _ (by omega) hAn); rfl; exact .refl _; rintro v O' rfl); refine ⟨_, EndsA, SubO.right _ _, ?_⟩) | (refine RD_Lw ?_; intro F; (first | (apply Stp_callIn (h := insertion_spec A c l wr _ (by omega) hAn); rfl; exact .refl _; rintro v O' rfl) | (apply Stp_pu; exact PuA)); refine ⟨_, EndsA, QFA, ?_⟩))
  exact ret_0r _ (.refl _) rfl
theorem sort_spec (A : Option Addr) (c : Nat) (l : List ByteArray) (wr : World) (R : List It) (hn : l.length ≤ 12) (hAn : 0 < l.length → A ≠ none) :
    DoesIn Try.prog 57 [.slice A l.length c] wr (rowS A c l :: R) (fun _ O => O = rowS A c (sortB l) :: R) := by
  refine DoesIn_of_W Try.func57 rfl rfl rfl rfl ?_
  have hw : IntKind.u64.wrap (l.length : Int) = l.length := by simp [IntKind.wrap, IntKind.signed, IntKind.bits]; omega
  repeat (first | (apply RL_st0; (first | (apply Stp_call (h := fun w' _ _ => len_spec (IntKind.u64.wrap (l.length : Int)) (by rw [hw]; omega) (by rw [hw]; omega) w'); rfl; rintro v O' ⟨⟨lim, rfl⟩, rfl⟩) | (apply Stp_callIn (h := pdq_spec A c l lim wr _ hn hAn); rfl; exact .refl _; rintro v O' rfl))) | (apply RL_st; rfl; (first | (apply Stp_call (h := fun w' _ _ => len_spec (IntKind.u64.wrap (l.length : Int)) (by rw [hw]; omega) (by rw [hw]; omega) w'); rfl; rintro v O' ⟨⟨lim, rfl⟩, rfl⟩) | (apply Stp_callIn (h := pdq_spec A c l lim wr _ hn hAn); rfl; exact .refl _; rintro v O' rfl))) | refine walk ?_)
  exact ret_0 _ (.refl _) rfl

/-- The first i of a list without those that are as the one before. -/
def cpt (l : List ByteArray) : Nat → List ByteArray
  | 0 => []
  | i + 1 => if 0 < i ∧ l.getD i ByteArray.empty = l.getD (i - 1) ByteArray.empty then cpt l i else cpt l i ++ [l.getD i ByteArray.empty]
theorem cpt_le (l : List ByteArray) : ∀ i, (cpt l i).length ≤ i
  | 0 => Nat.le_refl _
  | i + 1 => by
    have := cpt_le l i
    rw [cpt]
    split
    · omega
    · rw [List.length_append, List.length_singleton]; omega
theorem getD_at (l : List ByteArray) (i : Nat) (h : i < l.length) : l[i]? = some (l.getD i ByteArray.empty) := by
  rw [List.getD_eq_getElem?_getD, List.getElem?_eq_getElem h]; rfl
theorem zeros_str (k : Nat) : (Builtin.zeroCells (Value.string ByteArray.empty).cells k).toList.all Value.oneCell' = true := by
  rw [List.all_eq_true]
  intro v hv
  simp [Builtin.zeroCells, Value.cells, Nat.mod_one] at hv
  obtain ⟨_, rfl⟩ := hv
  rfl
theorem lay_out : ∀ (vs xs : List Value) (j : Nat), xs.length ≤ j → lay xs j vs = xs
  | [], _, _, _ => rfl
  | v :: r, xs, j, h => by rw [lay, List.set_eq_of_length_le h, lay_out r xs (j + 1) (by omega)]
structure KG where
  k : Nat
  k2 : Nat
  C : List ByteArray
set_option maxHeartbeats 4000000 in
theorem compact_spec (A : Option Addr) (c : Nat) (l : List ByteArray) (wr : World) (R : List It) (hn : l.length ≤ 1000000) (hlc : l.length ≤ c) (hcm : c ≤ maxLen) (hAn : 0 < l.length → A ≠ none) :
    DoesIn Try.prog 58 [.slice A l.length c] wr (rowS A c l :: R) (fun v O => v = .slice A (cpt l l.length).length c ∧ O = rowS A c (cpt l l.length) :: R) := by
  unfold maxLen at hcm
  refine DoesIn_of_W Try.func58 rfl rfl rfl rfl ?_
  repeat (first | refine walk ?_ | (refine RD_Lw ?_; intro F; (first | (apply Stp_storeNf; rfl; rfl; (focus repeat' constructor); (focus repeat (first | exact Nf.nil | apply Nf.cons)); rfl; rfl; rfl; (focus repeat' constructor)) | (apply Stp_pu; exact PuA)); refine ⟨_, EndsA, QFA, ?_⟩))
  refine W_cond rfl (fun g1 => ?_) (fun g1 => ?_)
  · simp only [decide_eq_true_eq] at g1
    have e : cpt l l.length = l := by
      match l, g1 with
      | [], _ => rfl
      | [x], _ => rfl
      | x :: y :: l, h => simp at h; omega
    rw [e]
    repeat (first | refine walk ?_ | (refine RD_Lw ?_; intro F; (first | (apply Stp_storeNf; rfl; rfl; (focus repeat' constructor); (focus repeat (first | exact Nf.nil | apply Nf.cons)); rfl; rfl; rfl; (focus repeat' constructor)) | (apply Stp_pu; exact PuA)); refine ⟨_, EndsA, QFA, ?_⟩))
    exact ret_1 _ _ (.tmp rfl) (.refl _) ⟨rfl, rfl⟩
  simp only [decide_eq_false_iff_not] at g1
  have hA := hAn (by omega)
  obtain ⟨ad, rfl⟩ : ∃ ad, A = some ad := by
    cases A with
    | none => exact absurd rfl hA
    | some ad => exact ⟨ad, rfl⟩
  clear hA hAn
  repeat (first | refine walk ?_ | (refine RD_Lw ?_; intro F; (first | (apply Stp_storeNf; rfl; rfl; (focus repeat' constructor); (focus repeat (first | exact Nf.nil | apply Nf.cons)); rfl; rfl; rfl; (focus repeat' constructor)) | (apply Stp_pu; exact PuA)); refine ⟨_, EndsA, QFA, ?_⟩))
  refine W_loopF [(0, _)] (rowS (some ad) c l :: R) (fun k : Nat => [(3, .int .i64 k)]) (fun _ => []) (fun k => 1 ≤ k ∧ k ≤ l.length ∧ cpt l k = l.take k) (fun k => l.length - k) 1 (by repeat (first | exact trivial | refine ⟨rfl, ?_⟩)) (.refl _) ⟨Nat.le_refl _, by omega, by
      have h0 : 0 < l.length := by omega
      rw [cpt, if_neg (by simp), cpt, List.nil_append, ← List.take_append_getElem h0]
      simp [List.getElem?_eq_getElem h0]⟩ ?_
  rintro k ⟨hk1, hk2, hck⟩
  repeat (first | refine walk ?_ | (refine RD_Lw ?_; intro F; (first | (apply Stp_storeNf; rfl; rfl; (focus repeat' constructor); (focus repeat (first | exact Nf.nil | apply Nf.cons)); rfl; rfl; rfl; (focus repeat' constructor)) | (apply Stp_pu; exact PuA)); refine ⟨_, EndsA, QFA, ?_⟩))
  refine W_cond rfl (fun g2 => ?_) (fun g2 => ?_)
  · simp only [decide_eq_true_eq] at g2
    have hkl : k < l.length := by omega
    have hx1 : (l.flatMap strEnc)[((k : Int)).toNat * 1]? = some (.string (l.getD k ByteArray.empty)) := by
      rw [show ((k : Int)).toNat * 1 = k from by omega, str_get, getD_at l k hkl]; rfl
    have hx2 : (l.flatMap strEnc)[((k : Int) - 1).toNat * 1]? = some (.string (l.getD (k - 1) ByteArray.empty)) := by
      rw [show ((k : Int) - 1).toNat * 1 = k - 1 from by omega, str_get, getD_at l (k - 1) (by omega)]; rfl
    repeat (first | (apply RL_pu; rfl; (first | (apply Pu_indexAddr; rfl; rfl; omega; omega; nofun) | (apply Pu_loadR; rfl; (focus repeat' constructor); first | exact hx1 | exact hx2))) | (apply RD_Q; rfl; rfl; decide +kernel; rfl; rfl; (first | (apply Qy_y; rfl; (first | (apply Pu_indexAddr; rfl; rfl; omega; omega; nofun) | (apply Pu_loadR; rfl; (focus repeat' constructor); first | exact hx1 | exact hx2))) | exact QyA)) | refine walk1 ?_ | (refine RD_Lw ?_; intro F; (first | (apply Stp_storeNf; rfl; rfl; (focus repeat' constructor); (focus repeat (first | exact Nf.nil | apply Nf.cons)); rfl; rfl; rfl; (focus repeat' constructor)) | (apply Stp_pu; first | (apply Pu_indexAddr; rfl; rfl; omega; omega; nofun) | (apply Pu_loadR; rfl; (focus repeat' constructor); first | exact hx1 | exact hx2) | exact PuA)); refine ⟨_, EndsA, (by repeat (first | exact QF.nil | (apply QF.mk; rfl; rfl; decide +kernel; (first | (apply Qy_y; rfl; (first | (apply Pu_indexAddr; rfl; rfl; omega; omega; nofun) | (apply Pu_loadR; rfl; (focus repeat' constructor); first | exact hx1 | exact hx2))) | exact QyA)))), ?_⟩))
    refine W_cond rfl (fun g3 => ?_) (fun g3 => ?_)
    · simp only [decide_eq_true_eq] at g3
      repeat (first | (apply RL_pu; rfl; (apply Pu_sliceL; rfl; rfl; omega; omega; omega)) | (apply RD_Q; rfl; rfl; decide +kernel; rfl; rfl; (first | (apply Qy_y; rfl; (apply Pu_sliceL; rfl; rfl; omega; omega; omega)) | exact QyA)) | refine walk1 ?_ | (refine RD_Lw ?_; intro F; (first | (apply Stp_storeNf; rfl; rfl; (focus repeat' constructor); (focus repeat (first | exact Nf.nil | apply Nf.cons)); rfl; rfl; rfl; (focus repeat' constructor)) | (apply Stp_pu; first | (apply Pu_sliceL; rfl; rfl; omega; omega; omega) | exact PuA)); refine ⟨_, EndsA, (by repeat (first | exact QF.nil | (apply QF.mk; rfl; rfl; decide +kernel; (first | (apply Qy_y; rfl; (apply Pu_sliceL; rfl; rfl; omega; omega; omega)) | exact QyA)))), ?_⟩))
      have hc0 : cpt l (k + 1) = l.take k := by rw [cpt, if_pos ⟨by omega, g3⟩, hck]
      refine W_loopF [(0, _), (4, .slice (some (ad.add ((k : Int).toNat * 1))) (l.length - (k : Int).toNat) (c - (k : Int).toNat))] R (fun g : KG => [(3, .int .i64 g.k), (5, .int .i64 g.k2)]) (fun g => [.row (.slice (some ad) l.length c) 9 1 l.length ((g.C ++ l.drop g.k).flatMap strEnc)])
        (fun g => g.C = cpt l (k + g.k2) ∧ g.C.length = g.k ∧ 1 ≤ g.k2 ∧ g.k + 1 ≤ k + g.k2 ∧ k + g.k2 ≤ l.length) (fun g => l.length - g.k2) ⟨k, 1, l.take k⟩ (by repeat (first | exact trivial | refine ⟨rfl, ?_⟩)) (by rw [List.take_append_drop]; exact .refl _) ⟨hc0.symm, by show (l.take k).length = k; rw [List.length_take]; omega, Nat.le_refl _, Nat.le_refl _, hkl⟩ ?_
      rintro ⟨kk, k2, C⟩ ⟨hC, hCl, h21, h22, h23⟩
      dsimp only at hC hCl h21 h22 h23 ⊢
      have hLl : (C ++ l.drop kk).length = l.length := by rw [List.length_append, List.length_drop]; omega
      have hat : ∀ i, kk ≤ i → i < l.length → ((C ++ l.drop kk).flatMap strEnc)[i]? = some (.string (l.getD i ByteArray.empty)) := fun i h1 h2 => by
        rw [str_get, List.getElem?_append_right (by omega), List.getElem?_drop, hCl, show kk + (i - kk) = i from by omega, getD_at l i h2]; rfl
      repeat (first | refine walk ?_ | (refine RD_Lw ?_; intro F; (first | (apply Stp_storeNf; rfl; rfl; (focus repeat' constructor); (focus repeat (first | exact Nf.nil | apply Nf.cons)); rfl; rfl; rfl; (focus repeat' constructor)) | (apply Stp_pu; exact PuA)); refine ⟨_, EndsA, QFA, ?_⟩))
      refine W_cond rfl (fun g4 => ?_) (fun g4 => ?_)
      · simp only [decide_eq_true_eq] at g4
        have hy1 : ((C ++ l.drop kk).flatMap strEnc)[(k : Int).toNat * 1 + ((k2 : Int)).toNat * 1]? = some (.string (l.getD (k + k2) ByteArray.empty)) := by
          rw [show (k : Int).toNat * 1 + ((k2 : Int)).toNat * 1 = k + k2 from by omega]; exact hat _ (by omega) (by omega)
        have hy2 : ((C ++ l.drop kk).flatMap strEnc)[(k : Int).toNat * 1 + ((k2 : Int) - 1).toNat * 1]? = some (.string (l.getD (k + k2 - 1) ByteArray.empty)) := by
          rw [show (k : Int).toNat * 1 + ((k2 : Int) - 1).toNat * 1 = k + k2 - 1 from by omega]; exact hat _ (by omega) (by omega)
        have hstep := cpt.eq_2 l (k + k2)
        rw [← hC] at hstep
        repeat (first | (apply RL_pu; rfl; (first | (apply Pu_indexAddr; rfl; rfl; omega; omega; nofun) | (apply Pu_loadR2; rfl; (focus repeat' constructor); first | exact hy1 | exact hy2))) | (apply RD_Q; rfl; rfl; decide +kernel; rfl; rfl; (first | (apply Qy_y; rfl; (first | (apply Pu_indexAddr; rfl; rfl; omega; omega; nofun) | (apply Pu_loadR2; rfl; (focus repeat' constructor); first | exact hy1 | exact hy2))) | exact QyA)) | refine walk1 ?_ | (refine RD_Lw ?_; intro F; (first | (apply Stp_storeNf; rfl; rfl; (focus repeat' constructor); (focus repeat (first | exact Nf.nil | apply Nf.cons)); rfl; rfl; rfl; (focus repeat' constructor)) | (apply Stp_pu; first | (apply Pu_indexAddr; rfl; rfl; omega; omega; nofun) | (apply Pu_loadR2; rfl; (focus repeat' constructor); first | exact hy1 | exact hy2) | exact PuA)); refine ⟨_, EndsA, (by repeat (first | exact QF.nil | (apply QF.mk; rfl; rfl; decide +kernel; (first | (apply Qy_y; rfl; (first | (apply Pu_indexAddr; rfl; rfl; omega; omega; nofun) | (apply Pu_loadR2; rfl; (focus repeat' constructor); first | exact hy1 | exact hy2))) | exact QyA)))), ?_⟩))
        refine W_cond rfl (fun g5 => ?_) (fun g5 => ?_)
        · have g5' : ¬ (l.getD (k + k2) ByteArray.empty = l.getD (k + k2 - 1) ByteArray.empty) := by simpa using g5
          rw [if_neg (fun h => g5' h.2)] at hstep
          repeat (first | (apply RL_pu; rfl; (first | (apply Pu_indexAddr; rfl; rfl; omega; omega; nofun) | (apply Pu_loadR2; rfl; (focus repeat' constructor); first | exact hy1 | exact hy2))) | (apply RL_st0; (apply Stp_storeR; rfl; rfl; (focus repeat' constructor); rfl; rfl; rfl; (simp only [str_len, hLl]; omega); decide; rfl)) | (apply RL_st; rfl; (apply Stp_storeR; rfl; rfl; (focus repeat' constructor); rfl; rfl; rfl; (simp only [str_len, hLl]; omega); decide; rfl)) | (apply RD_Q; rfl; rfl; decide +kernel; rfl; rfl; (first | (apply Qy_y; rfl; (first | (apply Pu_indexAddr; rfl; rfl; omega; omega; nofun) | (apply Pu_loadR2; rfl; (focus repeat' constructor); first | exact hy1 | exact hy2))) | exact QyA)) | refine walk1 ?_ | (refine RD_Lw ?_; intro F; (first | (apply Stp_storeR; rfl; rfl; (focus repeat' constructor); rfl; rfl; rfl; (simp only [str_len, hLl]; omega); decide; rfl) | (apply Stp_storeNf; rfl; rfl; (focus repeat' constructor); (focus repeat (first | exact Nf.nil | apply Nf.cons)); rfl; rfl; rfl; (focus repeat' constructor)) | (apply Stp_pu; first | (apply Pu_indexAddr; rfl; rfl; omega; omega; nofun) | (apply Pu_loadR2; rfl; (focus repeat' constructor); first | exact hy1 | exact hy2) | exact PuA)); refine ⟨_, EndsA, (by repeat (first | exact QF.nil | (apply QF.mk; rfl; rfl; decide +kernel; (first | (apply Qy_y; rfl; (first | (apply Pu_indexAddr; rfl; rfl; omega; omega; nofun) | (apply Pu_loadR2; rfl; (focus repeat' constructor); first | exact hy1 | exact hy2))) | exact QyA)))), ?_⟩))
          have hfin : lay ((C ++ l.drop kk).flatMap strEnc) ((kk : Int).toNat * 1) (Value.string (l.getD (k + k2) ByteArray.empty)).cells.toList = ((C ++ [l.getD (k + k2) ByteArray.empty]) ++ l.drop (kk + 1)).flatMap strEnc := by
            rw [show (kk : Int).toNat * 1 = kk from by omega]
            show ((C ++ l.drop kk).flatMap strEnc).set kk (.string _) = _
            rw [str_set, List.set_append_right _ _ (by omega), hCl, Nat.sub_self, drop_cons (show kk < l.length by omega), List.set_cons_zero]
            simp
          exact ⟨⟨kk + 1, k2 + 1, C ++ [l.getD (k + k2) ByteArray.empty]⟩, (by first | omega | (dsimp only; omega)), ⟨hstep.symm, by simp [hCl], (by first | omega | (dsimp only; omega)), (by first | omega | (dsimp only; omega)), (by first | omega | (dsimp only; omega))⟩, (by repeat (first | exact trivial | refine ⟨rfl, ?_⟩)), by rw [← hfin]; exact .refl _⟩
        have g5' : l.getD (k + k2) ByteArray.empty = l.getD (k + k2 - 1) ByteArray.empty := by simpa using g5
        rw [if_pos ⟨by omega, g5'⟩] at hstep
        repeat (first | refine walk ?_ | (refine RD_Lw ?_; intro F; (first | (apply Stp_storeNf; rfl; rfl; (focus repeat' constructor); (focus repeat (first | exact Nf.nil | apply Nf.cons)); rfl; rfl; rfl; (focus repeat' constructor)) | (apply Stp_pu; exact PuA)); refine ⟨_, EndsA, QFA, ?_⟩))
        exact ⟨⟨kk, k2 + 1, C⟩, (by first | omega | (dsimp only; omega)), ⟨hstep.symm, hCl, (by first | omega | (dsimp only; omega)), (by first | omega | (dsimp only; omega)), (by first | omega | (dsimp only; omega))⟩, (by repeat (first | exact trivial | refine ⟨rfl, ?_⟩)), .refl _⟩
      simp only [decide_eq_false_iff_not] at g4
      have hend : k + k2 = l.length := by omega
      rw [hend] at hC
      have htk : (lay ((C ++ l.drop kk).flatMap strEnc) ((kk : Int).toNat * 1) (Builtin.zeroCells (Value.string ByteArray.empty).cells (l.length - (kk : Int).toNat)).toList).take (kk * 1) = C.flatMap strEnc := by
        rw [lay_take, List.flatMap_append, List.take_left' (by rw [str_len]; omega)]
        exact lay_out _ _ _ (by rw [str_len]; omega)
      repeat (first | ((apply RL_st0; apply Stp_clearR (p := (kk : Int).toNat * 1) (k := l.length - (kk : Int).toNat); rfl; (focus repeat' constructor); exact zeros_str _; omega; (simp only [str_len, hLl]; omega)); refine RL_shrink (m := l.length) kk (by omega) (by (focus repeat' constructor)) ?_; rw [htk]) | (apply RL_pu; rfl; (apply Pu_sliceL; rfl; rfl; omega; omega; omega)) | (apply RD_Q; rfl; rfl; decide +kernel; rfl; rfl; (first | (apply Qy_y; rfl; (apply Pu_sliceL; rfl; rfl; omega; omega; omega)) | exact QyA)) | refine walk1 ?_ | (refine RD_Lw ?_; intro F; (first | (apply Stp_storeNf; rfl; rfl; (focus repeat' constructor); (focus repeat (first | exact Nf.nil | apply Nf.cons)); rfl; rfl; rfl; (focus repeat' constructor)) | (apply Stp_pu; first | (apply Pu_sliceL; rfl; rfl; omega; omega; omega) | exact PuA)); refine ⟨_, EndsA, (by repeat (first | exact QF.nil | (apply QF.mk; rfl; rfl; decide +kernel; (first | (apply Qy_y; rfl; (apply Pu_sliceL; rfl; rfl; omega; omega; omega)) | exact QyA)))), ?_⟩))
      subst hCl
      rw [← hC]
      exact ret_1 _ _ (.tmp rfl) (.refl _) ⟨rfl, rfl⟩
    simp only [decide_eq_false_iff_not] at g3
    repeat (first | refine walk ?_ | (refine RD_Lw ?_; intro F; (first | (apply Stp_storeNf; rfl; rfl; (focus repeat' constructor); (focus repeat (first | exact Nf.nil | apply Nf.cons)); rfl; rfl; rfl; (focus repeat' constructor)) | (apply Stp_pu; exact PuA)); refine ⟨_, EndsA, QFA, ?_⟩))
    exact ⟨k + 1, (by first | omega | (dsimp only; omega)), ⟨(by first | omega | (dsimp only; omega)), (by first | omega | (dsimp only; omega)), by
      rw [cpt, if_neg (fun h => g3 h.2), hck, ← List.take_append_getElem hkl]
      congr 2
      simp [List.getElem?_eq_getElem hkl]⟩, (by repeat (first | exact trivial | refine ⟨rfl, ?_⟩)), (by first | exact .refl _ | focus repeat (first | exact SubO.nil | (apply SubO.cons; focus repeat' constructor)))⟩
  simp only [decide_eq_false_iff_not] at g2
  have e : cpt l l.length = l := by
    have : k = l.length := by omega
    rw [← this, hck, this, List.take_length]
  rw [e]
  repeat (first | refine walk ?_ | (refine RD_Lw ?_; intro F; (first | (apply Stp_storeNf; rfl; rfl; (focus repeat' constructor); (focus repeat (first | exact Nf.nil | apply Nf.cons)); rfl; rfl; rfl; (focus repeat' constructor)) | (apply Stp_pu; exact PuA)); refine ⟨_, EndsA, QFA, ?_⟩))
  exact ret_1 _ _ (.tmp rfl) (.refl _) ⟨rfl, rfl⟩
end Go.Proofs.Ytfhjfpikngcknaa
