/- Contract: analemmalaw17.Draft: Made. -/
import Derived.Test.YtonjepladadmhaaGreatDoorR18
set_option maxHeartbeats 4000000
set_option linter.unusedVariables false
set_option linter.unusedSimpArgs false
namespace Go.Proofs.YtonjepladadmhaaGreatDoor
open Go Go.RowKit Go.Wk
attribute [local irreducible] W RL Does thenQ blockQ retQ Calls Pu Stp RD Qy Ay DoesIn atB dayOf clockB pairB
def intEnc (n : Int) : List Value := [.int .i64 n]
theorem intEnc.len (n : Int) : (intEnc n).length = 1 := rfl
theorem name_lay (x : ByteArray) : ∀ (l : List DRule) (k : Nat) (r : DRule), l[k]? = some r → lay (l.flatMap DRule.enc) (k * 11) [.string x] = (l.take k ++ nameR x r :: l.drop (k + 1)).flatMap DRule.enc
 | [], k, r, h => by simp at h
 | a :: l, 0, r, h => by
  simp only [List.getElem?_cons_zero, Option.some.injEq] at h
  subst h
  simp [lay, nameR, DRule.enc]
 | a :: l, k + 1, r, h => by
  have ih := name_lay x l k r (by simpa using h)
  simp only [lay] at ih ⊢
  simp only [List.flatMap_cons, List.take_succ_cons, List.drop_succ_cons, List.cons_append]
  rw [← ih]
  rw [show (k + 1) * 11 = a.enc.length + k * 11 by rw [DRule.len]; omega, List.set_append_right _ _ (by omega), Nat.add_sub_cancel_left]
theorem take_map_drop {x : ByteArray} {l : List DRule} {k : Nat} (r : DRule) (hr : l[k]? = some r) : ((l.take k).map (nameR x) ++ l.drop k)[k]? = some r := by
 have hk := (List.getElem?_eq_some_iff.1 hr).1
 have e : ((l.take k).map (nameR x)).length = k := by rw [List.length_map, List.length_take]; omega
 rw [List.getElem?_append_right (by omega), e, Nat.sub_self, List.getElem?_drop]
 exact hr
theorem named_step (x : ByteArray) (l : List DRule) (k : Nat) (r : DRule) (hr : l[k]? = some r) :
  lay (((l.take k).map (nameR x) ++ l.drop k).flatMap DRule.enc) (k * 11 + 0) [.string x] = ((l.take (k + 1)).map (nameR x) ++ l.drop (k + 1)).flatMap DRule.enc := by
 have hk := (List.getElem?_eq_some_iff.1 hr).1
 have e : ((l.take k).map (nameR x)).length = k := by rw [List.length_map, List.length_take]; omega
 rw [Nat.add_zero, name_lay x _ k r (take_map_drop r hr), List.take_append_of_le_length (by omega), List.take_of_length_le (by omega)]
 congr 1
 rw [List.drop_append, List.drop_eq_nil_of_le (by omega), e, List.nil_append, List.drop_drop, List.take_add_one, List.map_append, List.append_assoc, hr, show k + (k + 1 - k) = k + 1 by omega]
 rfl
set_option maxHeartbeats 8000000 in
theorem made17_spec (A : Option Addr) (c : Nat) (l : List Int) (x : ByteArray) (w : World) (hA : RdSl w A c byEnc 1 l) (hr : ∀ x ∈ l, inR .u8 x) :
  Does Tryz.prog 25 [.slice A l.length c, .string x] w (fun v O => ∃ A' c', v = .slice A' (made17 l x).length c' ∧ O = [.row (.slice A' (made17 l x).length c') 27 11 (made17 l x).length ((made17 l x).flatMap DRule.enc)]) := by
 have r0 := atB_range l 0 5 (by decide)
 have r1 := atB_range l 1 80 (by decide)
 have r3 := atB_range l 3 28 (by decide)
 have r6 := atB_range l 6 12 (by decide)
 have r8 := atB_range l 8 5 (by decide)
 have r9 := atB_range l 9 6 (by decide)
 obtain ⟨q1, q2, q3⟩ := m1_rng l
 obtain ⟨q4, q5, q6⟩ := m2_rng l (m1 l).1 (m1 l).2 q1 q2 q3
 have hget : saves17[(atB l 0 5).toNat]? = some (save17 l) := by
  have hk : (atB l 0 5).toNat < saves17.length := by simp only [saves17, List.length_cons, List.length_nil]; omega
  rw [save17, List.getD_eq_getElem?_getD, List.getElem?_eq_getElem hk]
  rfl
 refine Does_of_W Tryz.func25 rfl rfl rfl rfl ?_
 repeat (first | (apply RL_pu; rfl; (apply Pu_load1 (v := .int .i64 (save17 l)); rfl; (intro w' _ hO; exact ((litRd (c := 5) (l := saves17) (t := 2) intEnc.len (Nat.le_refl 5) (by decide) (hO.of (A := .blk bk (saves17.flatMap intEnc) _) (by repeat' constructor))).rd _ _ hget).2 0 _ rfl))) | (refine js ?_; (first | (refine callE (fun w' hw => at_spec A c l 0 5 w' (hA.up hw) hr (by omega) (by omega)) ?_) | (refine callE (fun w' hw => at_spec A c l 1 80 w' (hA.up hw) hr (by omega) (by omega)) ?_) | (refine callE (fun w' hw => at_spec A c l 2 3 w' (hA.up hw) hr (by omega) (by omega)) ?_) | (refine bx ?_; intro bk))) | refine walk1 ?_)
 refine W_nil 27 11 ?_
 refine W_post (fun fr' O' => ∃ A' c' n xs, (n = (m1 l).1.length ∧ xs = (m1 l).1.flatMap DRule.enc) ∧ Sub [(0, .slice A l.length c), (1, .string x), (5, .int .i64 (save17 l)), (6, .int .i64 (m1 l).2), (7, .slice A' n c')] fr' ∧ SubO [.row (.slice A' n c') 27 11 n xs] O') ?_ ?_
 ·refine W_cond rfl (fun h => ?_) (fun h => ?_)
  ·have e : m1 l = ([one17 l (1900 + atB l 1 80)], 1900 + atB l 1 80 + 1) := by rw [m1, if_pos (by simpa using h)]
   repeat (first | (refine js ?_; (first | (refine callE (fun w' hw => at_spec A c l 3 28 w' (hA.up hw) hr (by omega) (by omega)) ?_) | (refine callE (fun w' hw => clock_spec A c l 4 w' (hA.up hw) hr (by omega) (by omega)) ?_) | (apply Stp_append; rfl; rfl; (intro A' c'; (focus repeat' constructor)); (intro w' _ hO; exact blkRaw (hO.of (by repeat' constructor))); rfl; rfl; (simp only [maxLen]; omega); omega; intro A' c' hc1 hc2 hc3) | (refine bx ?_; intro bk))) | refine walk ?_)
   rw [e]
   exact ⟨rfl, A', c', 0 + 1, [] ++ (one17 l (1900 + atB l 1 80)).enc, ⟨rfl, rfl⟩, SFA, SOA⟩
  have e : m1 l = ([], 1900 + atB l 1 80) := by rw [m1, if_neg (by simpa using h)]
  repeat (first | (refine js ?_; (refine bx ?_; intro bk)) | refine walk ?_)
  rw [e]
  exact ⟨rfl, none, 0, 0, [], ⟨rfl, rfl⟩, SFA, SOA⟩
 rintro fr' O' ⟨A1, c1, n1, x1, ⟨hn1, hx1⟩, hf, hO⟩
 apply thenQ_n
 refine W_sub hf hO ?_
 clear hf hO fr' O'
 repeat (first | (refine js ?_; (first | (refine callE (fun w' hw => at_spec A c l 5 2 w' (hA.up hw) hr (by omega) (by omega)) ?_) | (refine bx ?_; intro bk))) | refine walk ?_)
 rw [made17]
 generalize m1 l = g1 at *
 obtain ⟨o1, f1⟩ := g1
 dsimp only at *
 refine W_post (fun fr' O' => ∃ A' c' n xs, (n = (m2 l o1 f1).1.length ∧ xs = (m2 l o1 f1).1.flatMap DRule.enc) ∧ Sub [(0, .slice A l.length c), (1, .string x), (5, .int .i64 (save17 l)), (6, .int .i64 (m2 l o1 f1).2), (7, .slice A' n c')] fr' ∧ SubO [.row (.slice A' n c') 27 11 n xs] O') ?_ ?_
 ·refine W_cond rfl (fun h => ?_) (fun h => ?_)
  ·have e : m2 l o1 f1 = (o1 ++ pairB l 7 f1 (f1 + atB l 6 12) (save17 l), f1 + atB l 6 12 + 1 + atB l 8 5) := by rw [m2, if_pos (by simpa using h)]
   repeat (first | (refine js ?_; (first | (refine callE (fun w' hw => at_spec A c l 6 12 w' (hA.up hw) hr (by omega) (by omega)) ?_) | (refine callE (fun w' hw => at_spec A c l 8 5 w' (hA.up hw) hr (by omega) (by omega)) ?_) | (apply Stp_call (h := fun w' hw _ => pair17_spec A c l 7 f1 (f1 + atB l 6 12) (save17 l) w' (hA.up hw) hr (by omega) (by omega)); rfl; rintro v O' ⟨k1, rfl, rfl⟩) | (apply Stp_append; rfl; rfl; (intro A' c'; (focus repeat' constructor)); (intro w' _ hO; exact blkRaw (hO.of (by repeat' constructor))); (rw [flat_len DRule.len, pairB_len]); exact all_flat oneR _; (simp only [maxLen]; omega); omega; intro A' c' hc1 hc2 hc3) | (refine bx ?_; intro bk))) | refine walk ?_)
   rw [e]
   exact ⟨rfl, A', c', n1 + 2, x1 ++ _, ⟨by rw [List.length_append, pairB_len, hn1], by rw [List.flatMap_append, hx1]⟩, SFA, SOA⟩
  have e : m2 l o1 f1 = (o1, f1) := by rw [m2, if_neg (by simpa using h)]
  repeat (first | (refine js ?_; (refine bx ?_; intro bk)) | refine walk ?_)
  rw [e]
  exact ⟨rfl, A1, c1, n1, x1, ⟨hn1, hx1⟩, SFA, SOA⟩
 rintro fr' O' ⟨A2, c2, n2, x2, ⟨hn2, hx2⟩, hf, hO⟩
 apply thenQ_n
 refine W_sub hf hO ?_
 clear hf hO fr' O'
 generalize m2 l o1 f1 = g2 at *
 obtain ⟨o2, f2⟩ := g2
 dsimp only at *
 repeat (first | (refine js ?_; (first | (refine callE (fun w' hw => at_spec A c l 9 6 w' (hA.up hw) hr (by omega) (by omega)) ?_) | (refine callE (fun w' hw => at_spec A c l 10 3 w' (hA.up hw) hr (by omega) (by omega)) ?_) | (refine bx ?_; intro bk))) | refine walk ?_)
 refine W_post (fun fr' O' => Sub [(0, .slice A l.length c), (1, .string x), (5, .int .i64 (save17 l)), (6, .int .i64 f2), (7, .slice A2 n2 c2), (9, .int .i64 (to17 l f2))] fr' ∧ SubO [.row (.slice A2 n2 c2) 27 11 n2 x2] O') ?_ ?_
 ·refine W_cond rfl (fun h => ?_) (fun h => ?_)
  ·have e : to17 l f2 = 1048576 := by rw [to17, if_pos (by simpa using h)]
   repeat (first | (refine js ?_; (refine bx ?_; intro bk)) | refine walk ?_)
   rw [e]
   exact ⟨rfl, SFA, SOA⟩
  have e : to17 l f2 = f2 + atB l 9 6 := by rw [to17, if_neg (by simpa using h)]
  repeat (first | (refine js ?_; (refine bx ?_; intro bk)) | refine walk ?_)
  rw [e]
  exact ⟨rfl, SFA, SOA⟩
 rintro fr' O' ⟨hf, hO⟩
 apply thenQ_n
 refine W_sub hf hO ?_
 clear hf hO fr' O'
 repeat (first | (refine js ?_; (first | (apply Stp_call (h := fun w' hw _ => pair17_spec A c l 11 f2 (to17 l f2) (save17 l) w' (hA.up hw) hr (by omega) (by omega)); rfl; rintro v O' ⟨k1, rfl, rfl⟩) | (apply Stp_append; rfl; rfl; (intro A' c'; (focus repeat' constructor)); (intro w' _ hO; exact blkRaw (hO.of (by repeat' constructor))); (rw [flat_len DRule.len, pairB_len]); exact all_flat oneR _; (simp only [maxLen]; omega); omega; intro A' c' hc1 hc2 hc3) | (refine bx ?_; intro bk))) | refine walk ?_)
 obtain ⟨o3, ho3⟩ : ∃ o3, m3 l o2 f2 = o3 := ⟨_, rfl⟩
 have hx3 : x2 ++ (pairB l 11 f2 (to17 l f2) (save17 l)).flatMap DRule.enc = o3.flatMap DRule.enc := by rw [← ho3, m3, List.flatMap_append, hx2]
 have hn3 : n2 + 2 = o3.length := by rw [← ho3, m3, List.length_append, pairB_len, hn2]
 have hn5 : o3.length ≤ 5 := by omega
 rw [ho3, hx3, hn3]
 have hAn : A' ≠ none := hc3 (by omega)
 refine W_loopF [(1, .string x), (7, .slice A' o3.length c'), (70, .int .i64 o3.length)] [] (fun k : Nat => [(71, .int .i64 k)]) (fun k => [.row (.slice A' o3.length c') 27 11 o3.length (((o3.take k).map (nameR x) ++ o3.drop k).flatMap DRule.enc)]) (fun k => k ≤ o3.length) (fun k => o3.length - k) 0 SFA SOA (Nat.zero_le _) ?_
 intro k hk
 repeat (first | (refine js ?_; (refine bx ?_; intro bk)) | refine walk ?_)
 refine W_cond rfl (fun h => ?_) (fun h => ?_)
 ·have hk2 : k < o3.length := by simpa using h
  have hll : (((o3.take k).map (nameR x) ++ o3.drop k).flatMap DRule.enc).length = o3.length * 11 := by
   rw [flat_len DRule.len, List.length_append, List.length_map, List.length_take, List.length_drop, Nat.min_eq_left hk]
   congr 1; omega
  repeat (first | (apply RL_pu; rfl; (first | (apply Pu_indexAddr; rfl; rfl; omega; omega; exact hAn) | (apply Pu_fieldAddrA; rfl))) | (refine js ?_; (first | (apply Stp_storeR; rfl; rfl; (focus repeat' constructor); rfl; rfl; rfl; (rw [hll]; omega); decide; exact named_step x o3 k _ (List.getElem?_eq_getElem hk2)) | (refine bx ?_; intro bk))) | refine walk1 ?_)
  exact ⟨k + 1, OA, OA, SFA, SOA⟩
 have hk2 : k = o3.length := by simp only [decide_eq_false_iff_not] at h; omega
 subst hk2
 repeat (first | (refine js ?_; (refine bx ?_; intro bk)) | refine walk ?_)
 have e : (o3.take o3.length).map (nameR x) ++ o3.drop o3.length = o3.map (nameR x) := by rw [List.take_length, List.drop_length, List.append_nil]
 rw [e]
 refine ret_1 _ [.row (.slice A' (o3.map (nameR x)).length c') 27 11 (o3.map (nameR x)).length ((o3.map (nameR x)).flatMap DRule.enc)] (.tmp (v := .slice A' (o3.map (nameR x)).length c') (by rw [List.length_map]; rfl)) (by rw [List.length_map]; exact SOA) ⟨A', c', rfl, rfl⟩
end Go.Proofs.YtonjepladadmhaaGreatDoor
