/- Contract: the reference of layer 18: explicit (rows in a row). Contracts: the reference of layer 7: names of zones. Contracts: the reference of layer 15: links. -/
import Derived.Test.YtceekohkjgiabaaGreatDoorQ29
import Derived.Test.YtceekohkjgiabaaGreatDoorQ31
import Derived.Test.YtceekohkjgiabaaGreatDoorQ28
import Derived.Test.YtceekohkjgiabaaGreatDoorQ18
import Derived.Test.YtceekohkjgiabaaGreatDoorQ14
set_option maxHeartbeats 4000000
set_option linter.unusedVariables false
set_option linter.unusedSimpArgs false
namespace Go.Proofs.YtceekohkjgiabaaGreatDoor
open Go Go.RowKit Go.Wk
attribute [local irreducible] W RL Does thenQ blockQ retQ Calls Pu Stp RD Qy Ay DoesIn
theorem made_enc {α : Type} (enc : α → List Value) {sz : Nat} (hlen : ∀ a, (enc a).length = sz) (h0 : 0 < sz) (d : α) (N : Nat) : (madeCells (enc d).toArray (N * sz)).toList = (List.replicate N d).flatMap enc := by
 have hfl := flat_len hlen (List.replicate N d)
 rw [List.length_replicate] at hfl
 apply List.ext_getElem?
 intro i
 by_cases hi : i < N * sz
 ·have hk : i / sz < N := Nat.div_lt_of_lt_mul (by rw [Nat.mul_comm]; exact hi)
  have hj : i % sz < (enc d).length := by rw [hlen]; exact Nat.mod_lt _ h0
  have h1 := flat_get hlen (List.replicate N d) (i / sz) d (i % sz) ((enc d)[i % sz]) (by rw [List.getElem?_replicate, if_pos hk]) (List.getElem?_eq_getElem hj)
  rw [Nat.mul_comm, Nat.div_add_mod] at h1
  rw [h1]
  have hj2 : i % (enc d).length < (enc d).length := by rw [hlen]; rw [hlen] at hj; exact hj
  simp only [madeCells, Array.getElem?_toList, Array.getElem?_map, List.size_toArray]
  rw [Array.getElem?_eq_getElem (by simpa using hi)]
  simp only [Array.getElem_range, Option.map_some, Option.some.injEq]
  rw [getElem!_pos _ _ (by simpa using hj2), List.getElem_toArray]
  congr 1
  rw [hlen]
 ·rw [List.getElem?_eq_none (l := (madeCells (enc d).toArray (N * sz)).toList) (by rw [Array.length_toList, size_madeCells]; omega), List.getElem?_eq_none (by rw [hfl]; omega)]
structure EvH where
 A : Option Addr
 c : Nat
 l : List DEvent
def EvH.v (h : EvH) : Value := .slice h.A h.l.length h.c
def EvH.enc (h : EvH) : List Value := [h.v]
def EvH.row (h : EvH) : It := evRow h.A h.c h.l
theorem EvH.len (h : EvH) : h.enc.length = 1 := rfl
def nilV : Value := .slice none 0 0
def hNil : EvH := ⟨none, 0, []⟩
def cells7 : List Value := List.replicate 701 nilV
theorem z701 : (madeCells ([.slice none 0 0] : List Value).toArray (701 * 1)).toList = cells7 := by
 have := made_enc EvH.enc EvH.len (by decide) hNil 701
 rw [show EvH.enc hNil = [.slice none 0 0] from rfl] at this
 rw [this]
 have h : ∀ n, (List.replicate n hNil).flatMap EvH.enc = List.replicate n nilV := fun n => by
  induction n with
  | zero => rfl
  | succ n ih => rw [List.replicate_succ, List.flatMap_cons, ih]; rfl
 exact h 701
structure XG where
 k : Nat
 A : Option Addr
 c : Nat
 m : Nat
 ys : List Value
 acc : List DEvent
 xs : List Value
 hr : List EvH
def rowCells (hr : List EvH) (v : Value) (k : Nat) : List Value := hr.reverse.map EvH.v ++ v :: List.replicate k nilV
theorem rowCells_set (hr : List EvH) (v v' : Value) (k : Nat) {j : Nat} (hj : hr.length = j) : (rowCells hr v k).set j v' = rowCells hr v' k := by
 unfold rowCells
 rw [List.set_append_right _ _ (by simp [hj]), show j - (hr.reverse.map EvH.v).length = 0 by simp [hj], List.set_cons_zero]
theorem rowCells_get (hr : List EvH) (v : Value) (k : Nat) {j : Nat} (hj : hr.length = j) : (rowCells hr v k)[j]? = some v := by
 unfold rowCells
 rw [List.getElem?_append_right (by simp [hj]), show j - (hr.reverse.map EvH.v).length = 0 by simp [hj], List.getElem?_cons_zero]
theorem rowCells_len (hr : List EvH) (v : Value) (k : Nat) : (rowCells hr v k).length = hr.length + 1 + k := by simp [rowCells]; omega
theorem rowCells_next (h : EvH) (hr : List EvH) (k : Nat) : rowCells hr h.v (k + 1) = rowCells (h :: hr) nilV k := by
 simp [rowCells, List.replicate_succ]
theorem flat_one : ∀ l : List EvH, l.flatMap EvH.enc = l.map EvH.v
 | [] => rfl
 | h :: l => by rw [List.flatMap_cons, flat_one l]; rfl
def RowsE (Y : Nat → List DEvent) (N : Nat) (v : Value) (O : List It) : Prop := ∃ (b : Nat) (hr : List EvH), v = .slice (some ⟨b, 0, none⟩) N N ∧ hr.length = N ∧ (∀ q, q < N → ∃ h : EvH, hr.reverse[q]? = some h ∧ h.l = Y q) ∧
 O = .row (.slice (some ⟨b, 0, none⟩) N N) 111 1 N (hr.reverse.flatMap EvH.enc) :: hr.map EvH.row
attribute [local irreducible] cells7 rowCells
theorem PuRgB0 {G : Prop} (h : G := by (first | (apply Pu_indexAddrH; rfl; rfl; omega; omega; (intro w' _ hO; nofun)) | (apply Pu_loadR; rfl; (focus repeat' constructor); exact hxk))) : G := h
theorem QyRgB0 {G : Prop} (h : G := by first | (apply Qy_y; rfl; exact PuRgB0) | exact QyA) : G := h
theorem QFRgB0 {G : Prop} (h : G := by repeat (first | exact QF.nil | (apply QF.mk; rfl; rfl; decide +kernel; exact QyRgB0))) : G := h
set_option maxHeartbeats 2000000 in
theorem rexpl_spec (A : Option Addr) (c : Nat) (l : List DRule) (w : World) (hA : RdSl w A c DRule.enc 11 l) (hn : l.length ≤ 1000000) :
  Does Tryz.prog 102 [.slice A l.length c] w (RowsE (yearsE l) 701) := by
 have hons := fun (i : Nat) (y : Int) (r : DRule) (hi : l[i]? = some r) w' (hw : Bel w.heap.size w w') => rOn_spec A c l i y r w' (hA.up hw) hi
 have h0 : cells7 = rowCells [] nilV 700 := by
  unfold cells7 rowCells
  rw [List.reverse_nil, List.map_nil, List.nil_append, ← List.replicate_succ]
 have hyE : ∀ q : Nat, yearsE l q = yearC (leastD l) (1850 + (q : Int)) l 0 := fun q => rfl
 generalize yearsE l = Y at *
 generalize leastD l = L at *
 refine Does_of_W Tryz.func102 rfl rfl rfl rfl ?_
 repeat (first | refine walk ?_ | (refine jn ?_; (try intro F); (first | (apply Stp_makeF (N := 701) (z := [.slice none 0 0]); rfl; rfl; decide; decide; decide; exact z701; intro b) | (refine bx ?_; intro bk) | (refine stA ?_) | (apply Stp_pu; exact PuA)); refine fin ?_) | (apply RD_W; rfl; intro bk))
 obtain ⟨M, hM⟩ : ∃ M : Nat, M = 700 := ⟨_, rfl⟩
 rw [← hM] at h0
 rw [show (701 : Nat) = M + 1 by omega]
 refine W_loopF [(0, .slice A l.length c), (3, .slice (some ⟨b, 0, none⟩) (M + 1) (M + 1))] [] (fun g : XG => [(4, .int .i64 g.k)]) (fun g => .row (.slice (some ⟨b, 0, none⟩) (M + 1) (M + 1)) 111 1 (M + 1) g.xs :: g.hr.map EvH.row)
  (fun g => g.k ≤ M + 1 ∧ g.hr.length = g.k ∧ (g.k < M + 1 → g.xs = rowCells g.hr nilV (M - g.k)) ∧ (g.k = M + 1 → g.xs = g.hr.reverse.map EvH.v) ∧ ∀ q, q < g.k → ∃ h, g.hr.reverse[q]? = some h ∧ h.l = Y q) (fun g => M + 1 - g.k) ⟨0, none, 0, 0, [], [], cells7, []⟩ SFA STA ⟨Nat.zero_le _, rfl, fun _ => h0, fun h => absurd h (by dsimp only; omega), fun q hq => absurd hq (Nat.not_lt_zero _)⟩ ?_
 clear h0
 rintro ⟨k, A1, c1, m, ys, acc, xs, hr⟩ ⟨hk, hrl, hx, hx2, hH⟩
 dsimp only at hk hrl hx hx2 hH ⊢
 clear A1 c1 m ys acc
 repeat (first | refine walk ?_ | (refine jn ?_; (try intro F); (first | (refine bx ?_; intro bk) | (refine stA ?_) | (apply Stp_pu; exact PuA)); refine fin ?_) | (apply RD_W; rfl; intro bk))
 refine W_cond rfl (fun hc => ?_) (fun hc => ?_)
 ·simp only [decide_eq_true_eq, Int.ofNat_lt] at hc
  have hx := hx hc
  obtain ⟨N2, hN2⟩ : ∃ N2, M - k = N2 := ⟨_, rfl⟩
  rw [hN2] at hx
  repeat (first | refine walk ?_ | (refine jn ?_; (try intro F); (first | (refine bx ?_; intro bk) | (refine stA ?_) | (apply Stp_pu; exact PuA)); refine fin ?_) | (apply RD_W; rfl; intro bk))
  refine W_nil 78 3 ?_
  refine W_loopF [(0, .slice A l.length c), (3, .slice (some ⟨b, 0, none⟩) (M + 1) (M + 1)), (4, .int .i64 k)] [] (fun g : XG => [(5, .int .i64 g.k)]) (fun g => .row (.slice g.A g.m g.c) 78 3 g.m g.ys :: .row (.slice (some ⟨b, 0, none⟩) (M + 1) (M + 1)) 111 1 (M + 1) g.xs :: hr.map EvH.row)
   (fun g => g.k ≤ l.length ∧ g.m = g.acc.length ∧ g.ys = g.acc.flatMap DEvent.enc ∧ g.m ≤ g.k ∧ g.xs = rowCells hr (.slice g.A g.m g.c) N2 ∧ g.acc ++ yearC L (1850 + k) (l.drop g.k) g.k = Y k) (fun g => l.length - g.k) ⟨0, none, 0, 0, [], [], xs, []⟩ SFA STA ⟨Nat.zero_le _, rfl, rfl, Nat.le_refl _, hx, (hyE k).symm⟩ ?_
  clear hx2 hx
  rintro ⟨i, A1, c1, m, ys, acc, xs, hr0⟩ ⟨hil, hm, hy, hmi, hx, hi⟩
  dsimp only at hil hm hy hmi hx hi ⊢
  clear hr0
  repeat (first | refine walk ?_ | (refine jn ?_; (try intro F); (first | (refine bx ?_; intro bk) | (refine stA ?_) | (apply Stp_pu; exact PuA)); refine fin ?_) | (apply RD_W; rfl; intro bk))
  refine W_cond rfl (fun hc2 => ?_) (fun hc2 => ?_)
  ·simp only [decide_eq_true_eq, Int.ofNat_lt] at hc2
   have ho := hons i (1850 + (k : Int)) _ (List.getElem?_eq_getElem hc2)
   rw [drop_cons hc2, yearC] at hi
   generalize onR L l[i] i (1850 + (k : Int)) = o at *
   have hxk : xs[k * 1]? = some (.slice A1 m c1) := by rw [hx]; exact rowCells_get hr _ N2 (by omega)
   have hst : ∀ A' c', lay xs (k * 1) [.slice A' (m + 1) c'] = rowCells hr (.slice A' (m + 1) c') N2 := fun A' c' => by rw [hx]; exact rowCells_set hr _ _ N2 (by omega)
   have hxl : xs.length = M + 1 := by rw [hx, rowCells_len]; omega
   cases o with
   | none =>
    simp only [evV, DEvent.enc, dEv0, Option.isSome, Option.toList, List.nil_append] at ho hi
    repeat (first | refine walk ?_ | (refine jg ?_; (try intro F); (first | (refine callE ho ?_) | (refine bx ?_; intro bk) | (refine stA ?_)); refine fin ?_) | (refine jn ?_; (try intro F); (first | (refine bx ?_; intro bk) | (refine stA ?_) | (apply Stp_pu; exact PuA)); refine fin ?_) | (apply RD_W; rfl; intro bk))
    exact ⟨⟨i + 1, A1, c1, m, ys, acc, xs, []⟩, OA, ⟨OA, hm, hy, OA, hx, hi⟩, SFA, STA⟩
   | some e =>
    obtain ⟨ey, er, en⟩ := e
    simp only [evV, DEvent.enc, Option.isSome, Option.toList] at ho hi
    repeat (first | (apply RL_pu; rfl; exact PuRgB0) | (refine js ?_; (first | (refine callE ho ?_) | (apply Stp_append; rfl; rfl; (intro A' c'; (focus repeat' constructor)); (intro w' _ hO; exact blkRaw (hO.of (by repeat' constructor))); rfl; rfl; (simp only [maxLen]; omega); omega; intro A' c' hc1 hc2 hc3) | (apply Stp_storeR; rfl; rfl; (focus repeat' constructor); rfl; rfl; rfl; omega; decide; exact hst _ _) | (refine bx ?_; intro bk))) | (apply RD_Q; rfl; rfl; decide +kernel; rfl; rfl; exact QyRgB0) | refine walk1 ?_ | (refine RD_G0w ?_; intro F; (refine callE ho ?_); refine ⟨_, EndsA, SubO.right _ _, ?_⟩) | (refine RD_Lw ?_; intro F; (first | (refine callE ho ?_) | (apply Stp_append; rfl; rfl; (intro A' c'; (focus repeat' constructor)); (intro w' _ hO; exact blkRaw (hO.of (by repeat' constructor))); rfl; rfl; (simp only [maxLen]; omega); omega; intro A' c' hc1 hc2 hc3) | (apply Stp_storeR; rfl; rfl; (focus repeat' constructor); rfl; rfl; rfl; omega; decide; exact hst _ _) | (refine bx ?_; intro bk) | (refine stA ?_) | (apply Stp_pu; first | exact PuRgB0 | exact PuA)); refine ⟨_, EndsA, QFRgB0, ?_⟩) | (apply RD_W; rfl; intro bk))
    exact ⟨⟨i + 1, A', c', m + 1, ys ++ [.int .i64 ey, .int .i64 er, .int .i64 en], acc ++ [⟨ey, er, en⟩], rowCells hr (.slice A' (m + 1) c') N2, []⟩, OA, ⟨OA, by simp [hm], by rw [hy]; simp [DEvent.enc], OA, rfl, by rw [← hi]; simp⟩, SFA, STA⟩
  ·simp only [decide_eq_false_iff_not, Int.ofNat_lt] at hc2
   rw [List.drop_eq_nil_of_le (by omega), yearC, List.append_nil] at hi
   repeat (first | refine walk ?_ | (refine jn ?_; (try intro F); (first | (refine bx ?_; intro bk) | (refine stA ?_) | (apply Stp_pu; exact PuA)); refine fin ?_) | (apply RD_W; rfl; intro bk))
   refine ⟨⟨k + 1, none, 0, 0, [], [], xs, ⟨A1, c1, acc⟩ :: hr⟩, OA, ⟨OA, by simp [hrl], fun h => ?_, fun h => ?_, fun q hq => ?_⟩, SFA, ?_⟩
   ·dsimp only at h ⊢
    obtain ⟨N3, rfl⟩ : ∃ N3, N2 = N3 + 1 := ⟨N2 - 1, by omega⟩
    rw [hx, hm, show M - (k + 1) = N3 by omega]
    exact rowCells_next ⟨A1, c1, acc⟩ hr N3
   ·dsimp only at h ⊢
    obtain rfl : N2 = 0 := by omega
    rw [hx, hm]
    unfold rowCells
    simp [EvH.v]
   ·dsimp only at hq ⊢
    rw [List.reverse_cons]
    by_cases hqk : q < k
    ·obtain ⟨h, h1, h2⟩ := hH q hqk
     exact ⟨h, by rw [List.getElem?_append_left (by simp; omega)]; exact h1, h2⟩
    ·obtain rfl : q = k := by omega
     exact ⟨⟨A1, c1, acc⟩, by rw [List.getElem?_append_right (by simp; omega)]; simp [hrl], hi⟩
   ·subst hm hy
    dsimp only
    rw [List.map_cons, show EvH.row ⟨A1, c1, acc⟩ = .row (.slice A1 acc.length c1) 78 3 acc.length (acc.flatMap DEvent.enc) from rfl]
    exact STA
 ·simp only [decide_eq_false_iff_not, Int.ofNat_lt] at hc
  obtain rfl : k = M + 1 := by omega
  have hx := hx2 rfl
  repeat (first | refine walk ?_ | (refine jn ?_; (try intro F); (first | (refine bx ?_; intro bk) | (refine stA ?_) | (apply Stp_pu; exact PuA)); refine fin ?_) | (apply RD_W; rfl; intro bk))
  exact ret_1 _ (.row (.slice (some ⟨b, 0, none⟩) (M + 1) (M + 1)) 111 1 (M + 1) xs :: hr.map EvH.row) (.tmp rfl) (.cons .here (by rw [show (List.map EvH.row hr).append [] = List.map EvH.row hr from List.append_nil _]; exact .refl _)) ⟨b, hr, rfl, hrl, hH, by rw [flat_one, ← hx]⟩
end Go.Proofs.YtceekohkjgiabaaGreatDoor
namespace Go.Wk
open Go Go.RowKit
theorem ext_list (s : ByteArray) (i j : Nat) : (s.extract i j).data.toList = (s.data.toList.drop i).take (j - i) := by
 rw [ByteArray.data_extract]; simp [List.drop_take]
theorem ext_grow {l : List UInt8} {f i : Nat} (h : f ≤ i) (hi : i < l.length) : (l.drop f).take (i + 1 - f) = (l.drop f).take (i - f) ++ [l[i]] := by
 rw [show i + 1 - f = (i - f) + 1 by omega, List.take_add_one, List.getElem?_drop, show f + (i - f) = i by omega, List.getElem?_eq_getElem hi]
 rfl
end Go.Wk
namespace Go.Proofs.YtceekohkjgiabaaGreatDoor
open Go Go.RowKit Go.Wk
attribute [local irreducible] W RL Does thenQ blockQ retQ Calls Pu Stp RD Qy Ay DoesIn
theorem PuRfE0 {G : Prop} (h : G := by (apply Pu_lssB; rfl; rfl; exact b1)) : G := h
theorem PuRfE2 {G : Prop} (h : G := by (first | (apply Pu_indexC; rfl; rfl; decide; omega; exact hgc) | (apply Pu_lssB; rfl; rfl; exact b1) | (apply Pu_gtrB; rfl; rfl; exact b2) | (apply Pu_eqlB; rfl; rfl; first | exact e1 | exact e2))) : G := h
theorem PuRfE3 {G : Prop} (h : G := by (first | (apply Pu_indexC; rfl; rfl; omega; omega; exact hgc) | (apply Pu_neqB'; rfl; rfl; first | exact e1 | exact e2 | exact e3 | exact e4))) : G := h
theorem wkRfE0 {G G' : Prop} (k : G') (h : Hold G' → G := by intro k9; (first | refine und ?_ | (apply RL_pu; rfl; exact PuRfE3) | (refine js ?_; (first | (refine callE (fun w' _ => hcl w') ?_) | (refine callE (fun w' _ => hcd w') ?_))) | refine walk1 ?_); exact k9.out) : G := h ⟨k⟩
set_option maxHeartbeats 1000000 in
theorem rpart_spec (s : ByteArray) (hs : (s.size : Int) ≤ 9223372036854775807) (w : World) : Does Tryz.prog 105 [.string s] w (fun v O => v = .bool (partB s.data.toList) ∧ O = []) := by
 have hL : s.data.toList.length = s.size := rfl
 obtain ⟨R, hR⟩ : ∃ R, (s.data.toList.all fun c => partC c.toNat) = R := ⟨_, rfl⟩
 have hN : partB s.data.toList = ((decide (1 ≤ s.size) && decide (s.size ≤ 14) && R) && !(decide (s.data.toList.getD 0 0 = 46) || decide (s.data.toList.getD 0 0 = 45))) := by
  unfold partB nameB okBytes
  rw [← hR, hL]
  have hf : (fun c : UInt8 => !decide (byteK c.toNat &&& 31 = 0)) = fun c => partC c.toNat := funext byteK_part
  rw [hf]
  cases hd : s.data.toList with
  | nil => rw [hd] at hL; rw [show s.size = 0 from hL.symm]; rfl
  | cons x l => rfl
 refine Does_of_W Tryz.func105 rfl rfl rfl rfl ?_
 by_cases h1 : s.size < 1
 ·have b1 : decide ((s.size : Int) < 1) = true := decide_eq_true (by omega)
  rw [show partB s.data.toList = false by rw [hN, decide_eq_false (show ¬ 1 ≤ s.size by omega)]; rfl]
  repeat (first | refine und ?_ | (apply RL_pu; rfl; exact PuRfE0) | refine walk1 ?_)
  exact rtA
 have b1 : decide ((s.size : Int) < 1) = false := decide_eq_false (by omega)
 by_cases h2 : 14 < s.size
 ·have b2 : decide (14 < (s.size : Int)) = true := decide_eq_true (by omega)
  rw [show partB s.data.toList = false by rw [hN, decide_eq_false (show ¬ s.size ≤ 14 by omega), Bool.and_false]; rfl]
  repeat (first | refine und ?_ | (apply RL_pu; rfl; (first | exact PuRfE0 | (apply Pu_gtrB; rfl; rfl; exact b2))) | refine walk1 ?_)
  exact rtA
 have b2 : decide (14 < (s.size : Int)) = false := decide_eq_false (by omega)
 obtain ⟨c, hgc⟩ : ∃ c, s.data.toList.getD ((0 : Int)).toNat 0 = c := ⟨_, rfl⟩
 rw [show s.data.toList.getD 0 0 = c from hgc, decide_eq_true (show 1 ≤ s.size by omega), decide_eq_true (show s.size ≤ 14 by omega)] at hN
 have u46 : decide ((c.toNat : Int) = 46) = decide (c = 46) := by
  rw [decide_eq_decide]
  constructor
  ·intro h; exact UInt8.toNat_inj.1 (by show c.toNat = 46; omega)
  ·intro h; rw [h]; rfl
 have u45 : decide ((c.toNat : Int) = 45) = decide (c = 45) := by
  rw [decide_eq_decide]
  constructor
  ·intro h; exact UInt8.toNat_inj.1 (by show c.toNat = 45; omega)
  ·intro h; rw [h]; rfl
 obtain ⟨z1, e1⟩ : ∃ z1, decide ((c.toNat : Int) = 46) = z1 := ⟨_, rfl⟩
 obtain ⟨z2, e2⟩ : ∃ z2, decide ((c.toNat : Int) = 45) = z2 := ⟨_, rfl⟩
 rw [← u46, ← u45, e1, e2] at hN
 cases z1 with
 | true =>
  rw [hN, Bool.true_or, Bool.not_true, Bool.and_false]
  repeat (first | refine und ?_ | (apply RL_pu; rfl; exact PuRfE2) | refine walk1 ?_)
  exact rtA
 | false =>
 cases z2 with
 | true =>
  rw [hN, Bool.or_true, Bool.not_true, Bool.and_false]
  repeat (first | refine und ?_ | (apply RL_pu; rfl; exact PuRfE2) | refine walk1 ?_)
  exact rtA
 | false =>
 rw [show partB s.data.toList = R by rw [hN, Bool.or_false, Bool.not_false, Bool.and_true]; rfl]
 repeat (first | refine und ?_ | (apply RL_pu; rfl; exact PuRfE2) | refine walk1 ?_)
 clear hgc hN e1 e2 u46 u45
 refine W_loopF [(0, .string s)] [] (fun k : Nat => [(3, .int .i64 k)]) (fun _ => []) (fun k => k ≤ s.size ∧ ((s.data.toList.drop k).all fun c => partC c.toNat) = R) (fun k => s.size - k) 0 SFA SOA ⟨Nat.zero_le _, hR⟩ ?_
 rintro k ⟨hk, hi⟩
 repeat (first | refine walk ?_)
 refine W_cond rfl (fun hc => ?_) (fun hc => ?_)
 ·simp only [decide_eq_true_eq, Int.ofNat_lt] at hc
  have hgc : s.data.toList.getD ((k : Int)).toNat 0 = s.data.toList[k] := getD_at (by omega)
  rw [drop_cons (show k < s.data.toList.length by omega), List.all_cons] at hi
  generalize s.data.toList[k] = d at *
  unfold partC at hi
  have hcl := fun w' => rletter_spec d.toNat w'
  have hcd := fun w' => rdigit_spec d.toNat w'
  generalize letC d.toNat = x at *
  generalize digC d.toNat = y at *
  obtain ⟨z1, e1⟩ : ∃ z1, (!decide ((d.toNat : Int) = 46)) = z1 := ⟨_, rfl⟩
  obtain ⟨z2, e2⟩ : ∃ z2, (!decide ((d.toNat : Int) = 95)) = z2 := ⟨_, rfl⟩
  obtain ⟨z3, e3⟩ : ∃ z3, (!decide ((d.toNat : Int) = 43)) = z3 := ⟨_, rfl⟩
  obtain ⟨z4, e4⟩ : ∃ z4, (!decide ((d.toNat : Int) = 45)) = z4 := ⟨_, rfl⟩
  rw [show decide ((d.toNat : Int) = 46) = !z1 by rw [← e1, Bool.not_not], show decide ((d.toNat : Int) = 95) = !z2 by rw [← e2, Bool.not_not], show decide ((d.toNat : Int) = 43) = !z3 by rw [← e3, Bool.not_not], show decide ((d.toNat : Int) = 45) = !z4 by rw [← e4, Bool.not_not]] at hi
  have go : ∀ q : Bool, (x || (y || (!z1 || (!z2 || (!z3 || !z4))))) = q → (q && (s.data.toList.drop (k + 1)).all fun c => partC c.toNat) = R := fun q hq => by rw [← hq]; exact hi
  cases x with
  | true =>
   repeat refine wkRfE0 ?_
   exact ⟨k + 1, OA, ⟨OA, by simpa using go true rfl⟩, SFA, SOA⟩
  | false =>
  cases y with
  | true =>
   repeat refine wkRfE0 ?_
   exact ⟨k + 1, OA, ⟨OA, by simpa using go true rfl⟩, SFA, SOA⟩
  | false =>
  cases z1 with
  | false =>
   repeat refine wkRfE0 ?_
   exact ⟨k + 1, OA, ⟨OA, by simpa using go true rfl⟩, SFA, SOA⟩
  | true =>
  cases z2 with
  | false =>
   repeat refine wkRfE0 ?_
   exact ⟨k + 1, OA, ⟨OA, by simpa using go true rfl⟩, SFA, SOA⟩
  | true =>
  cases z3 with
  | false =>
   repeat refine wkRfE0 ?_
   exact ⟨k + 1, OA, ⟨OA, by simpa using go true rfl⟩, SFA, SOA⟩
  | true =>
  cases z4 with
  | false =>
   repeat refine wkRfE0 ?_
   exact ⟨k + 1, OA, ⟨OA, by simpa using go true rfl⟩, SFA, SOA⟩
  | true =>
   have := go false rfl
   rw [Bool.false_and] at this
   subst this
   repeat refine wkRfE0 ?_
   exact rtA
 ·simp only [decide_eq_false_iff_not, Int.ofNat_lt] at hc
  rw [List.drop_eq_nil_of_le (by omega), List.all_nil] at hi
  subst hi
  repeat (first | refine walk ?_)
  exact rtA
structure RzG where
 i : Nat
 f : Nat
theorem PuRfE4 {G : Prop} (h : G := by (first | (apply Pu_indexC; rfl; rfl; omega; omega; exact hgc) | (apply Pu_eqlB; rfl; rfl; exact b1) | (apply Pu_sliceSS; rfl; rfl; rfl; omega; omega; omega; rfl))) : G := h
theorem PuRfE6 {G : Prop} (h : G := by (apply Pu_sliceSL; rfl; rfl; omega; omega)) : G := h
theorem rZone_spec (s : ByteArray) (hs : (s.size : Int) ≤ 9223372036854775807) (w : World) : Does Tryz.prog 60 [.string s] w (fun v O => v = .bool (zoneB s) ∧ O = []) := by
 have hL : s.data.toList.length = s.size := rfl
 have hex : ∀ i j, ((s.extract i j).size : Int) ≤ 9223372036854775807 := fun i j => by rw [ByteArray.size_extract]; omega
 unfold zoneB
 obtain ⟨R, hR⟩ : ∃ R, (cutSl s.data.toList []).all partB = R := ⟨_, rfl⟩
 rw [hR]
 refine Does_of_W Tryz.func60 rfl rfl rfl rfl ?_
 repeat (first | refine walk ?_)
 refine W_loopF [(0, .string s)] [] (fun g : RzG => [(3, .int .i64 g.f), (4, .int .i64 g.i)]) (fun _ => []) (fun g => g.f ≤ g.i ∧ g.i ≤ s.size ∧ (cutSl (s.data.toList.drop g.i) ((s.data.toList.drop g.f).take (g.i - g.f))).all partB = R) (fun g => s.size - g.i) ⟨0, 0⟩ SFA SOA ⟨Nat.le_refl _, Nat.zero_le _, hR⟩ ?_
 rintro ⟨i, f⟩ ⟨h1, h2, hi⟩
 dsimp only at h1 h2 hi ⊢
 repeat (first | refine walk ?_)
 refine W_cond rfl (fun hc => ?_) (fun hc => ?_)
 ·simp only [decide_eq_true_eq, Int.ofNat_lt] at hc
  have hgc : s.data.toList.getD ((i : Int)).toNat 0 = s.data.toList[i] := getD_at (by omega)
  have hg := ext_grow h1 (show i < s.data.toList.length by omega)
  rw [drop_cons (show i < s.data.toList.length by omega), cutSl] at hi
  generalize s.data.toList[i] = d at *
  have u47 : ((d.toNat : Int) = 47) ↔ d = 47 := by
   constructor
   ·intro h; exact UInt8.toNat_inj.1 (by show d.toNat = 47; omega)
   ·intro h; rw [h]; rfl
  by_cases hd : d = 47
  ·have b1 : decide ((d.toNat : Int) = 47) = true := decide_eq_true (u47.2 hd)
   rw [if_pos hd, List.all_cons] at hi
   have hp := fun w' => rpart_spec (s.extract f i) (hex f i) w'
   rw [ext_list] at hp
   generalize partB ((s.data.toList.drop f).take (i - f)) = pb at *
   cases pb with
   | true =>
    rw [Bool.true_and] at hi
    repeat (first | (apply RL_pu; rfl; exact PuRfE4) | (refine js ?_; (refine callE (fun w' _ => hp w') ?_)) | refine walk1 ?_)
    exact ⟨⟨i + 1, i + 1⟩, OA, ⟨OA, OA, by dsimp only; rw [Nat.sub_self, List.take_zero]; exact hi⟩, SFA, SOA⟩
   | false =>
    rw [Bool.false_and] at hi
    subst hi
    repeat (first | (apply RL_pu; rfl; exact PuRfE4) | (refine js ?_; (refine callE (fun w' _ => hp w') ?_)) | refine walk1 ?_)
    exact ret_1 _ [] (.tmp rfl) .nil ⟨by rw [Bool.and_false], rfl⟩
  ·have b1 : decide ((d.toNat : Int) = 47) = false := decide_eq_false (fun e => hd (u47.1 e))
   rw [if_neg hd, ← hg] at hi
   repeat (first | (apply RL_pu; rfl; (first | (apply Pu_indexC; rfl; rfl; omega; omega; exact hgc) | (apply Pu_eqlB; rfl; rfl; exact b1))) | refine walk1 ?_)
   exact ⟨⟨i + 1, f⟩, OA, ⟨OA, OA, hi⟩, SFA, SOA⟩
 ·simp only [decide_eq_false_iff_not, Int.ofNat_lt] at hc
  obtain rfl : i = s.size := by omega
  rw [List.drop_eq_nil_of_le (by omega), cutSl, List.all_cons, List.all_nil, Bool.and_true] at hi
  have hp := fun w' => rpart_spec (s.extract f s.size) (hex f s.size) w'
  rw [ext_list, hi] at hp
  cases R with
  | true =>
   rw [Bool.and_true, show decide (s.size ≤ 60) = decide ((s.size : Int) ≤ 60) by rw [decide_eq_decide]; omega]
   repeat (first | (apply RL_pu; rfl; exact PuRfE6) | (refine js ?_; (refine callE (fun w' _ => hp w') ?_)) | refine walk1 ?_)
   exact rtA
  | false =>
   rw [Bool.and_false]
   repeat (first | refine und ?_ | (apply RL_pu; rfl; exact PuRfE6) | (refine js ?_; (refine callE (fun w' _ => hp w') ?_)) | refine walk1 ?_)
   exact rtA
def ixN : Option Nat → Int
 | some i => i
 | none => -1
theorem ixN_geq (o : Option Nat) : decide ((0 : Int) ≤ ixN o) = o.isSome := by
 cases o with
 | none => rfl
 | some i => exact decide_eq_true (show (0 : Int) ≤ (i : Int) by omega)
def findR (s : DSource) : Nat → ByteArray → Nat × Int
 | 0, _ => (0, 11)
 | f + 1, x =>
  match firstZ x s.zones 0 with
  | some i => (i, 0)
  | none => match firstL x s.links 0 with
   | none => (0, 9)
   | some i => findR s f ((s.links[i]?).map (·.target) |>.getD ByteArray.empty)
theorem firstZ_le {z : DZone} : ∀ (l : List DZone) (k i : Nat), l[i]? = some z → ∃ j, firstZ z.name l k = some j ∧ j ≤ k + i
 | [], _, i, h => by simp at h
 | y :: l, k, i, h => by
  rw [firstZ]
  by_cases hy : y.name = z.name
  ·rw [if_pos hy]; exact ⟨k, rfl, Nat.le_add_right _ _⟩
  ·rw [if_neg hy]
   cases i with
   | zero => simp only [List.getElem?_cons_zero, Option.some.injEq] at h; rw [h] at hy; exact absurd rfl hy
   | succ i =>
    obtain ⟨j, h1, h2⟩ := firstZ_le l (k + 1) i (by simpa using h)
    exact ⟨j, h1, by omega⟩
theorem firstL_le {z : DLink} : ∀ (l : List DLink) (k i : Nat), l[i]? = some z → ∃ j, firstL z.name l k = some j ∧ j ≤ k + i
 | [], _, i, h => by simp at h
 | y :: l, k, i, h => by
  rw [firstL]
  by_cases hy : y.name = z.name
  ·rw [if_pos hy]; exact ⟨k, rfl, Nat.le_add_right _ _⟩
  ·rw [if_neg hy]
   cases i with
   | zero => simp only [List.getElem?_cons_zero, Option.some.injEq] at h; rw [h] at hy; exact absurd rfl hy
   | succ i =>
    obtain ⟨j, h1, h2⟩ := firstL_le l (k + 1) i (by simpa using h)
    exact ⟨j, h1, by omega⟩
theorem rzone_spec (Ar Az Al As : Option Addr) (cr cz cl cs : Nat) (a : DSource) (x : ByteArray) (w : World) (hA : RdSource w Ar Az Al As cr cz cl cs a) (hn : a.zones.length ≤ 1000000) :
  Does Tryz.prog 61 [srcV Ar Az Al As cr cz cl cs a, .string x] w (fun v O => v = .int .i64 (ixN (firstZ x a.zones 0)) ∧ O = []) := by
 obtain ⟨R, hR⟩ : ∃ R, firstZ x a.zones 0 = R := ⟨_, rfl⟩
 rw [hR]
 refine Does_of_W Tryz.func61 rfl rfl rfl rfl ?_
 repeat (first | (refine js ?_; (refine bx ?_; intro bk)) | refine walk ?_)
 refine W_loopF [(1, .string x), (2, .pointer (some ⟨bk, 0, none⟩))] [.blk bk [.slice Ar a.rules.length cr, .slice Az a.zones.length cz, .slice Al a.links.length cl, .slice As a.shifts.length cs] 27] (fun k : Nat => [(5, .int .i64 k)]) (fun _ => []) (fun k => k ≤ a.zones.length ∧ firstZ x (a.zones.drop k) k = R) (fun k => a.zones.length - k) 0 SFA SOA ⟨Nat.zero_le _, hR⟩ ?_
 clear hR
 rintro k ⟨hk, hi⟩
 repeat (first | (refine js ?_; (refine bx ?_; intro bk)) | refine walk ?_)
 refine W_cond rfl (fun hc => ?_) (fun hc => ?_)
 ·simp only [decide_eq_true_eq, Int.ofNat_lt] at hc
  obtain ⟨hna, cs1, ⟨Ae, ce, hEz, rfl⟩, hca⟩ := hA.z k _ (List.getElem?_eq_getElem hc)
  rw [drop_cons hc, firstZ] at hi
  generalize a.zones[k] = z at *
  repeat (first | (apply RL_pu; rfl; exact PuI) | (refine js ?_; (refine bx ?_; intro bk)) | refine walk1 ?_)
  refine W_cond rfl (fun h3 => ?_) (fun h3 => ?_)
  ·rw [if_pos (of_decide_eq_true h3)] at hi
   subst hi
   repeat (first | (refine js ?_; (refine bx ?_; intro bk)) | refine walk ?_)
   exact rtA
  ·rw [if_neg (of_decide_eq_false h3)] at hi
   repeat (first | (refine js ?_; (refine bx ?_; intro bk)) | refine walk ?_)
   exact ⟨k + 1, OA, ⟨OA, hi⟩, SFA, SOA⟩
 ·simp only [decide_eq_false_iff_not, Int.ofNat_lt] at hc
  rw [List.drop_eq_nil_of_le (by omega), firstZ] at hi
  subst hi
  repeat (first | (refine js ?_; (refine bx ?_; intro bk)) | refine walk ?_)
  exact rtA
theorem rlink_spec (Ar Az Al As : Option Addr) (cr cz cl cs : Nat) (a : DSource) (x : ByteArray) (w : World) (hA : RdSource w Ar Az Al As cr cz cl cs a) (hn : a.links.length ≤ 1000000) :
  Does Tryz.prog 62 [srcV Ar Az Al As cr cz cl cs a, .string x] w (fun v O => v = .int .i64 (ixN (firstL x a.links 0)) ∧ O = []) := by
 obtain ⟨R, hR⟩ : ∃ R, firstL x a.links 0 = R := ⟨_, rfl⟩
 rw [hR]
 refine Does_of_W Tryz.func62 rfl rfl rfl rfl ?_
 repeat (first | (refine js ?_; (refine bx ?_; intro bk)) | refine walk ?_)
 refine W_loopF [(1, .string x), (2, .pointer (some ⟨bk, 0, none⟩))] [.blk bk [.slice Ar a.rules.length cr, .slice Az a.zones.length cz, .slice Al a.links.length cl, .slice As a.shifts.length cs] 27] (fun k : Nat => [(5, .int .i64 k)]) (fun _ => []) (fun k => k ≤ a.links.length ∧ firstL x (a.links.drop k) k = R) (fun k => a.links.length - k) 0 SFA SOA ⟨Nat.zero_le _, hR⟩ ?_
 clear hR
 rintro k ⟨hk, hi⟩
 repeat (first | (refine js ?_; (refine bx ?_; intro bk)) | refine walk ?_)
 refine W_cond rfl (fun hc => ?_) (fun hc => ?_)
 ·simp only [decide_eq_true_eq, Int.ofNat_lt] at hc
  obtain ⟨hna, hca⟩ := hA.l.rd k _ (List.getElem?_eq_getElem hc)
  rw [drop_cons hc, firstL] at hi
  generalize a.links[k] = z at *
  repeat (first | (apply RL_pu; rfl; exact PuI) | (refine js ?_; (refine bx ?_; intro bk)) | refine walk1 ?_)
  refine W_cond rfl (fun h3 => ?_) (fun h3 => ?_)
  ·rw [if_pos (of_decide_eq_true h3)] at hi
   subst hi
   repeat (first | (refine js ?_; (refine bx ?_; intro bk)) | refine walk ?_)
   exact rtA
  ·rw [if_neg (of_decide_eq_false h3)] at hi
   repeat (first | (refine js ?_; (refine bx ?_; intro bk)) | refine walk ?_)
   exact ⟨k + 1, OA, ⟨OA, hi⟩, SFA, SOA⟩
 ·simp only [decide_eq_false_iff_not, Int.ofNat_lt] at hc
  rw [List.drop_eq_nil_of_le (by omega), firstL] at hi
  subst hi
  repeat (first | (refine js ?_; (refine bx ?_; intro bk)) | refine walk ?_)
  exact rtA
theorem PuRfI0 {G : Prop} (h : G := by (apply Pu_geqB; rfl; rfl; first | exact b1 | exact b2)) : G := h
theorem rknown_spec (Ar Az Al As : Option Addr) (cr cz cl cs : Nat) (a : DSource) (x : ByteArray) (w : World) (hA : RdSource w Ar Az Al As cr cz cl cs a) (hn : a.zones.length ≤ 1000000) (hn2 : a.links.length ≤ 1000000) :
  Does Tryz.prog 63 [srcV Ar Az Al As cr cz cl cs a, .string x] w (fun v O => v = .bool ((firstZ x a.zones 0).isSome || (firstL x a.links 0).isSome) ∧ O = []) := by
 have hz := fun w' (hw : Bel w.heap.size w w') => rzone_spec Ar Az Al As cr cz cl cs a x w' (hA.up hw) hn
 have hl := fun w' (hw : Bel w.heap.size w w') => rlink_spec Ar Az Al As cr cz cl cs a x w' (hA.up hw) hn2
 have b1 := ixN_geq (firstZ x a.zones 0)
 have b2 := ixN_geq (firstL x a.links 0)
 generalize firstZ x a.zones 0 = o1 at *
 generalize firstL x a.links 0 = o2 at *
 generalize ixN o1 = n1 at *
 generalize ixN o2 = n2 at *
 refine Does_of_W Tryz.func63 rfl rfl rfl rfl ?_
 generalize o1.isSome = z1 at *
 generalize o2.isSome = z2 at *
 cases z1 with
 | true =>
  repeat (first | refine und ?_ | (apply RL_pu; rfl; exact PuRfI0) | (refine js ?_; (first | (refine callE hz ?_) | (refine callE hl ?_) | (refine bx ?_; intro bk))) | refine walk1 ?_)
  exact rtA
 | false =>
  repeat (first | refine und ?_ | (apply RL_pu; rfl; exact PuRfI0) | (refine js ?_; (first | (refine callE hz ?_) | (refine callE hl ?_) | (refine bx ?_; intro bk))) | refine walk1 ?_)
  exact rtA
structure RfG15 where
 k : Nat
 x : ByteArray
theorem rFind_spec (Ar Az Al As : Option Addr) (cr cz cl cs : Nat) (a : DSource) (x : ByteArray) (w : World) (hA : RdSource w Ar Az Al As cr cz cl cs a) (hn : a.zones.length ≤ 1000000) (hn2 : a.links.length ≤ 1000000) :
  Does Tryz.prog 64 [srcV Ar Az Al As cr cz cl cs a, .string x] w (fun v O => v = .tuple #[.int .i64 (findR a (a.links.length + 1) x).1, .int .i64 (findR a (a.links.length + 1) x).2] ∧ O = []) := by
 obtain ⟨R, hR⟩ : ∃ R, findR a (a.links.length + 1) x = R := ⟨_, rfl⟩
 rw [hR]
 have hzs := fun x w' (hw : Bel w.heap.size w w') => rzone_spec Ar Az Al As cr cz cl cs a x w' (hA.up hw) hn
 have hls := fun x w' (hw : Bel w.heap.size w w') => rlink_spec Ar Az Al As cr cz cl cs a x w' (hA.up hw) hn2
 refine Does_of_W Tryz.func64 rfl rfl rfl rfl ?_
 repeat (first | (refine js ?_; (refine bx ?_; intro bk)) | refine walk ?_)
 refine W_loopF [(2, .pointer (some ⟨bk, 0, none⟩))] [.blk bk [.slice Ar a.rules.length cr, .slice Az a.zones.length cz, .slice Al a.links.length cl, .slice As a.shifts.length cs] 27] (fun g : RfG15 => [(1, .string g.x), (6, .int .i64 g.k)]) (fun _ => []) (fun g => g.k ≤ a.links.length + 1 ∧ findR a (a.links.length + 1 - g.k) g.x = R) (fun g => a.links.length + 1 - g.k) ⟨0, x⟩ SFA SOA ⟨Nat.zero_le _, hR⟩ ?_
 clear hR
 rintro ⟨k, x⟩ ⟨hk, hi⟩
 dsimp only at hk hi ⊢
 repeat (first | (refine js ?_; (refine bx ?_; intro bk)) | refine walk ?_)
 refine W_cond rfl (fun hc => ?_) (fun hc => ?_)
 ·simp only [decide_eq_true_eq, Int.ofNat_le] at hc
  rw [show a.links.length + 1 - k = (a.links.length - k) + 1 by omega, findR] at hi
  have hz := hzs x
  have hl := hls x
  have hlt := fun i => firstL_lt x a.links 0 i
  cases h1 : firstZ x a.zones 0 with
  | some i =>
   rw [h1] at hi hz
   dsimp only at hi
   subst hi
   have b1 : decide ((0 : Int) ≤ (i : Int)) = true := decide_eq_true (by omega)
   simp only [ixN] at hz
   repeat (first | (apply RL_pu; rfl; (apply Pu_geqB; rfl; rfl; exact b1)) | (refine js ?_; (first | (refine callE hz ?_) | (refine bx ?_; intro bk))) | refine walk1 ?_)
   exact rtB
  | none =>
   rw [h1] at hi hz
   dsimp only at hi
   simp only [ixN] at hz
   cases h2 : firstL x a.links 0 with
   | none =>
    rw [h2] at hi hl
    dsimp only at hi
    subst hi
    simp only [ixN] at hl
    repeat (first | (refine js ?_; (first | (refine callE hz ?_) | (refine callE hl ?_) | (refine bx ?_; intro bk))) | refine walk ?_)
    exact rtB
   | some i =>
    have hil := (hlt i h2).2
    rw [h2] at hi hl
    dsimp only at hi
    simp only [ixN] at hl
    have b1 : decide ((i : Int) < 0) = false := decide_eq_false (by omega)
    have hil2 : i < a.links.length := by omega
    obtain ⟨hna, hca⟩ := hA.l.rd i _ (List.getElem?_eq_getElem hil2)
    rw [List.getElem?_eq_getElem hil2, Option.map_some, Option.getD_some] at hi
    generalize a.links[i] = z at *
    repeat (first | (apply RL_pu; rfl; (first | exact PuI | (apply Pu_lssB; rfl; rfl; exact b1))) | (refine js ?_; (first | (refine callE hz ?_) | (refine callE hl ?_) | (refine bx ?_; intro bk))) | refine walk1 ?_)
    exact ⟨⟨k + 1, z.target⟩, OA, ⟨OA, by dsimp only; rw [show a.links.length + 1 - (k + 1) = a.links.length - k by omega]; exact hi⟩, SFA, SOA⟩
 ·simp only [decide_eq_false_iff_not, Int.ofNat_le] at hc
  rw [show a.links.length + 1 - k = 0 by omega, findR] at hi
  subst hi
  repeat (first | (refine js ?_; (refine bx ?_; intro bk)) | refine walk ?_)
  exact rtB
end Go.Proofs.YtceekohkjgiabaaGreatDoor
