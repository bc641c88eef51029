/- Plain law: some zones of a draft with their sets are accepted, in the same forms or more. Contracts: analemmalaw33.few, analemmaref33.has, zone; analemmalaw13.SameSource. Contracts: cmp.Less, slices.insertionSortOrdered, pdqsortOrdered (short lists), math/bits.Len, slices.Sort at string. Contracts: analemmalaw33.some, slices.IsSorted. -/
import Derived.Test.YtbjkhnlnedfceaaGreatDoorQ47
import Derived.Test.YtbjkhnlnedfceaaGreatDoorQ37
import Derived.Test.YtbjkhnlnedfceaaGreatDoorQ24
import Derived.Test.YtbjkhnlnedfceaaGreatDoorQ14
import Derived.Test.YtbjkhnlnedfceaaGreatDoorQ15
import Derived.Test.YtbjkhnlnedfceaaGreatDoorQ39
set_option maxHeartbeats 4000000
set_option linter.unusedVariables false
set_option linter.unusedSimpArgs false
namespace Go.Proofs.YtbjkhnlnedfceaaGreatDoor
open Go Go.RowKit Go.Wk
def partS (s : DSource) (p q : ByteArray → Bool) : DSource := ⟨s.rules.filter fun r => q r.name, s.zones.filter fun z => p z.name, [], []⟩
theorem ofB_part {rs : List DRule} {q : ByteArray → Bool} {x : ByteArray} (h : q x = true) : ofB (rs.filter fun r => q r.name) x = ofB rs x := by
 unfold ofB
 rw [List.filter_filter]
 refine List.filter_congr fun r _ => ?_
 by_cases hr : r.name = x
 ·rw [decide_eq_true hr, hr, h]; rfl
 ·rw [decide_eq_false hr]; rfl
theorem DrEra.part {rs : List DRule} {e : DEra} {first : Bool} {q : ByteArray → Bool} (h : DrEra rs e first) (hq : e.kind = 2 → q e.set = true) : DrEra (rs.filter fun r => q r.name) e first := by
 rcases h with h | h | ⟨hk, h1, h2, h3, h4, h5, h6, h7⟩
 ·exact .inl h
 ·exact .inr (.inl h)
 ·have e1 := ofB_part (rs := rs) (hq hk)
  exact .inr (.inr ⟨hk, h1, h2, h3, h4, h5, by rw [e1]; exact h6, by rw [e1]; exact h7⟩)
theorem DrEras.part {rs : List DRule} {l : List DEra} {Y : Nat → Int} {q : ByteArray → Bool} (h : DrEras rs l Y) (hq : ∀ e ∈ l, e.kind = 2 → q e.set = true) : DrEras (rs.filter fun r => q r.name) l Y :=
 ⟨h.len, fun k e he => (h.era k e he).part (hq e (List.mem_of_getElem? he)), h.yr, h.inc, h.til⟩
def zsel (n : Nat) (a b c : Bool) : List DZone := (zns n).filter fun z => if z.name = zoneN25.getD 0 ByteArray.empty then a else if z.name = zoneN25.getD 1 ByteArray.empty then b else c
theorem zns_mem : ∀ n, n ≤ 3 → ∀ z ∈ zns n, z.name = zoneN25.getD 0 ByteArray.empty ∨ z.name = zoneN25.getD 1 ByteArray.empty ∨ z.name = zoneN25.getD 2 ByteArray.empty
 | 0, _, z, h => by cases h
 | n + 1, hn, z, h => by
  rw [zns, List.mem_append, List.mem_singleton] at h
  rcases h with h | rfl
  ·exact zns_mem n (by omega) z h
  ·have hc : n = 0 ∨ n = 1 ∨ n = 2 := by omega
   rcases hc with rfl | rfl | rfl
   ·exact .inl rfl
   ·exact .inr (.inl rfl)
   ·exact .inr (.inr rfl)
theorem zsel_eq (n : Nat) (hn : n ≤ 3) (p : ByteArray → Bool) : ((zns n).filter fun z => p z.name) = zsel n (p (zoneN25.getD 0 ByteArray.empty)) (p (zoneN25.getD 1 ByteArray.empty)) (p (zoneN25.getD 2 ByteArray.empty)) := by
 unfold zsel
 refine List.filter_congr fun z hz => ?_
 have h01 : zoneN25.getD 1 ByteArray.empty ≠ zoneN25.getD 0 ByteArray.empty := by decide
 have h02 : zoneN25.getD 2 ByteArray.empty ≠ zoneN25.getD 0 ByteArray.empty := by decide
 have h12 : zoneN25.getD 2 ByteArray.empty ≠ zoneN25.getD 1 ByteArray.empty := by decide
 rcases zns_mem n hn z hz with h | h | h
 ·rw [h, if_pos rfl]
 ·rw [h, if_neg h01, if_pos rfl]
 ·rw [h, if_neg h02, if_neg h12]
theorem zsel_links : ∀ n : Fin 4, ∀ a b c : Bool, linksD ⟨[], zsel n.val a b c, [], []⟩ = none := by decide +kernel
theorem part_links (d : DDr) (p q : ByteArray → Bool) : linksD (partS (made25 d) p q) = none := by
 have hz3 : d.nz ≤ 3 := by unfold DDr.nz; omega
 have hb := zones25_bare d.L d.made d.nz
 rw [linksD_bare]
 have e : (partS (made25 d) p q).zones.map bare' = (zns d.nz).filter fun z => p z.name := by
  rw [← hb, List.filter_map]
  rfl
 unfold bareS
 rw [e, zsel_eq d.nz hz3]
 exact zsel_links ⟨d.nz, by omega⟩ _ _ _
theorem part_zones (d : DDr) (p q : ByteArray → Bool) (hq : ∀ z ∈ (made25 d).zones, p z.name = true → ∀ e ∈ z.eras, e.kind = 2 → q e.set = true) : ∀ z ∈ (partS (made25 d) p q).zones, ∃ Y, DrEras (partS (made25 d) p q).rules z.eras Y := fun z hz => by
 obtain ⟨h1, h2⟩ := List.mem_filter.1 hz
 obtain ⟨Y, hY⟩ := made25_zones d z h1
 exact ⟨Y, hY.part (hq z h1 h2)⟩
theorem part_sets (d : DDr) (p q : ByteArray → Bool) : setsD (partS (made25 d) p q) = none := by
 refine setsGo_none' _ fun y hy => ?_
 rcases namesB_mem' _ _ y hy with h | ⟨r, h1, h2⟩
 ·cases h
 ·obtain ⟨h3, h4⟩ := List.mem_filter.1 h1
  obtain ⟨j, hj, hn⟩ := rules25_names d.sets d.made r h3
  have hm : d.made ≤ 2 := Nat.min_le_right _ _
  have hS := (rules25_set d.sets d.made hm j hj).1
  rw [← hn, h2] at hS
  rw [h2] at h4
  refine DrSet.fault (by rw [show ofB (partS (made25 d) p q).rules y = ofB (made25 d).rules y from ofB_part h4]; exact hS) ?_
  rw [← h2, hn]
  have hc : j = 0 ∨ j = 1 := by omega
  rcases hc with rfl | rfl <;> decide
theorem part_acc (d : DDr) (p q : ByteArray → Bool) (hq : ∀ z ∈ (made25 d).zones, p z.name = true → ∀ e ∈ z.eras, e.kind = 2 → q e.set = true) : accD (partS (made25 d) p q) = none := by
 have hm : d.made ≤ 2 := Nat.min_le_right _ _
 have hz3 : d.nz ≤ 3 := by unfold DDr.nz; omega
 have h1 := rules25_len d.sets d.made
 have h2 := (zones25_rng d.L d.made d.nz).1
 have hsz : sizesD (partS (made25 d) p q) = none := by
  have l1 : (partS (made25 d) p q).rules.length ≤ (made25 d).rules.length := List.length_filter_le _ _
  have l2 : (partS (made25 d) p q).zones.length ≤ (made25 d).zones.length := List.length_filter_le _ _
  have l3 : (made25 d).rules.length = (rules25 d.sets d.made).length := rfl
  have l4 : (made25 d).zones.length = (zones25 d.L d.made d.nz).1.length := rfl
  have l5 : (partS (made25 d) p q).zones.findIdx? (fun z => decide (60 < z.eras.length)) = none := by
   rw [List.findIdx?_eq_none_iff]
   intro z hz
   obtain ⟨Y, hY⟩ := made25_zones d z (List.mem_filter.1 hz).1
   have := hY.len
   exact decide_eq_false (by omega)
  unfold sizesD
  rw [if_neg (by omega), if_neg (by omega), l5]
  dsimp only
  rw [if_neg (by show ¬ 1000 < 0; decide), if_neg (by show ¬ 2000 < 0; decide)]
 have hz : zonesGo (partS (made25 d) p q).rules (partS (made25 d) p q).zones 0 = none := zonesGo_none _ 0 (part_zones d p q hq)
 unfold accD
 rw [hsz, part_sets d p q, show (partS (made25 d) p q).shifts = [] from rfl, part_links d p q, hz]
 rfl
theorem part_fmts (d : DDr) (p q : ByteArray → Bool) : ∀ z ∈ (partS (made25 d) p q).zones, ∀ e ∈ z.eras, e.format ∈ fmtU := fun z hz e he => made25_fmts d z (List.mem_filter.1 hz).1 e he
theorem any_filter {α : Type} (l : List α) (p f : α → Bool) (h : (l.filter p).any f = true) : l.any f = true := by
 obtain ⟨x, hx, hf⟩ := List.any_eq_true.1 h
 exact List.any_eq_true.2 ⟨x, (List.mem_filter.1 hx).1, hf⟩
theorem part_forms (d : DDr) (p q : ByteArray → Bool) (hq : ∀ z ∈ (made25 d).zones, p z.name = true → ∀ e ∈ z.eras, e.kind = 2 → q e.set = true) : ∀ f ∈ formsD (made25 d), f ∈ formsD (partS (made25 d) p q) := by
 rw [made25_formsD d, formsD_eq _ (part_acc d p q hq) (part_fmts d p q), show (partS (made25 d) p q).shifts = [] from rfl]
 have h1 : numZ (partS (made25 d) p q).zones = true → numZ (made25 d).zones = true := any_filter _ _ _
 have h2 : negR (partS (made25 d) p q).rules = true → negR (made25 d).rules = true := any_filter _ _ _
 cases a1 : numZ (made25 d).zones <;> cases a2 : negR (made25 d).rules <;> cases b1 : numZ (partS (made25 d) p q).zones <;> cases b2 : negR (partS (made25 d) p q).rules <;> simp_all
attribute [local irreducible] W RL Does thenQ blockQ retQ Calls Pu Stp RD Qy Ay
end Go.Proofs.YtbjkhnlnedfceaaGreatDoor
namespace Go.Proofs.YtbjkhnlnedfceaaGreatDoor
open Go Go.RowKit Go.Wk
attribute [local irreducible] W RL Does thenQ blockQ retQ Calls Pu Stp RD Qy Ay DoesIn
def lessB (x y : ByteArray) : Bool := Op.bytesLess x.toList y.toList
theorem isNaN_spec (x : ByteArray) (w : World) : Does Tryz.prog 190 [.string x] w (fun v O => v = .bool false ∧ O = []) := by
 refine Does_of_W Tryz.func190 rfl rfl rfl rfl ?_
 repeat (first | refine walk ?_)
 exact ret_1 _ [] (.tmp rfl) .nil ⟨by simp, rfl⟩
theorem less_spec (x y : ByteArray) (w : World) : Does Tryz.prog 162 [.string x, .string y] w (fun v O => v = .bool (lessB x y) ∧ O = []) := by
 refine Does_of_W Tryz.func162 rfl rfl rfl rfl ?_
 repeat (first | (refine js ?_; (refine callE (fun w' _ => isNaN_spec x w') ?_)) | refine walk ?_)
 exact rtA
set_option maxRecDepth 100000 in
theorem len64_spec (x : Int) (h0 : 0 ≤ x) (h1 : x ≤ 255) (w : World) : Does Tryz.prog 166 [.int .u64 x] w (fun v O => (∃ i, v = .int .i64 i) ∧ O = []) := by
 refine Does_of_W Tryz.func166 rfl rfl rfl rfl ?_
 repeat (first | refine walk ?_)
 refine W_cond rfl (fun g1 => absurd g1 (by simp; omega)) (fun _ => ?_)
 repeat (first | refine walk ?_)
 refine W_cond rfl (fun g1 => absurd g1 (by simp; omega)) (fun _ => ?_)
 repeat (first | refine walk ?_)
 refine W_cond rfl (fun g1 => absurd g1 (by simp; omega)) (fun _ => ?_)
 repeat (first | refine walk ?_)
 have hw : IntKind.u8.wrap x = x := by simp [IntKind.wrap, IntKind.signed, IntKind.bits]; omega
 refine RL_re 21 (.int .u8 x) rfl (by rw [hw]) ?_
 repeat (first | (apply RL_pu; rfl; (first | (apply Pu_indexS; rfl; rfl; omega; (show x < ((256 : Nat) : Int); omega)) | (apply Pu_addW; rfl; rfl))) | refine walk1 ?_)
 exact ret_1 _ [] (.tmp rfl) .nil ⟨⟨_, rfl⟩, rfl⟩
theorem blen_spec (x : Int) (h0 : 0 ≤ x) (h1 : x ≤ 255) (w : World) : Does Tryz.prog 135 [.int .u64 x] w (fun v O => (∃ i, v = .int .i64 i) ∧ O = []) := by
 refine Does_of_W Tryz.func135 rfl rfl rfl rfl ?_
 repeat (first | (refine js ?_; (apply Stp_call (h := fun w' _ _ => len64_spec x h0 h1 w'); rfl; rintro v O' ⟨⟨i, rfl⟩, rfl⟩)) | refine walk ?_)
 exact ret_1 _ [] (.tmp rfl) .nil ⟨⟨_, rfl⟩, rfl⟩
def putAt (P : List ByteArray) (x : ByteArray) (j : Nat) : List ByteArray := P.take j ++ x :: P.drop j
def insB (P : List ByteArray) (x : ByteArray) : Nat → List ByteArray
 | 0 => putAt P x 0
 | j + 1 => if lessB x (P.getD j ByteArray.empty) then insB P x j else putAt P x (j + 1)
def sortB (l : List ByteArray) : List ByteArray := l.foldl (fun P x => insB P x P.length) []
theorem putAt_len (P : List ByteArray) (x : ByteArray) (j : Nat) : (putAt P x j).length = P.length + 1 := by
 simp [putAt]; omega
theorem insB_len (P : List ByteArray) (x : ByteArray) : ∀ j, (insB P x j).length = P.length + 1
 | 0 => putAt_len P x 0
 | j + 1 => by
  rw [insB]
  split
  ·exact insB_len P x j
  ·exact putAt_len P x (j + 1)
theorem str_get (L : List ByteArray) (p : Nat) : (L.flatMap strEnc)[p]? = (L[p]?).map Value.string := by
 induction L generalizing p with
 | nil => simp
 | cons y L ih =>
  cases p with
  | zero => simp [strEnc]
  | succ p => simp only [List.flatMap_cons, strEnc, List.singleton_append, List.getElem?_cons_succ]; exact ih p
theorem str_set (L : List ByteArray) (p : Nat) (y : ByteArray) : (L.flatMap strEnc).set p (.string y) = (L.set p y).flatMap strEnc := by
 induction L generalizing p with
 | nil => simp
 | cons z L ih =>
  cases p with
  | zero => simp [strEnc]
  | succ p => simp only [List.flatMap_cons, strEnc, List.singleton_append, List.set_cons_succ]; rw [← ih p]
theorem str_len (L : List ByteArray) : (L.flatMap strEnc).length = L.length := by
 have := flat_len strEnc.len L
 omega
theorem putAt_here (P R : List ByteArray) (x : ByteArray) (j : Nat) (hj : j ≤ P.length) : (putAt P x j ++ R)[j]? = some x := by
 rw [List.getElem?_append_left (by rw [putAt_len]; omega), putAt, List.getElem?_append_right (by rw [List.length_take]; omega), List.length_take, show j - min j P.length = 0 from by omega]
 rfl
theorem putAt_before (P R : List ByteArray) (x : ByteArray) (j : Nat) (hj : j < P.length) : (putAt P x (j + 1) ++ R)[j]? = some (P.getD j ByteArray.empty) := by
 rw [List.getElem?_append_left (by rw [putAt_len]; omega), putAt, List.getElem?_append_left (by rw [List.length_take]; omega), List.getElem?_take, if_pos (by omega), List.getD_eq_getElem?_getD, List.getElem?_eq_getElem hj]
 rfl
theorem putAt_swap (P R : List ByteArray) (x : ByteArray) (j : Nat) (hj : j < P.length) : ((putAt P x (j + 1) ++ R).set (j + 1) (P.getD j ByteArray.empty)).set j x = putAt P x j ++ R := by
 have hg : P.getD j ByteArray.empty = P[j] := by rw [List.getD_eq_getElem?_getD, List.getElem?_eq_getElem hj]; rfl
 apply List.ext_getElem?
 intro i
 have hlen : (putAt P x (j + 1) ++ R).length = P.length + 1 + R.length := by rw [List.length_append, putAt_len]
 rw [List.getElem?_set, List.getElem?_set, List.length_set, hlen]
 by_cases h1 : j = i
 ·subst h1
  rw [if_pos rfl, if_pos (by omega), putAt_here P R x j (by omega)]
 ·rw [if_neg h1]
  by_cases h2 : j + 1 = i
  ·subst h2
   rw [if_pos rfl, if_pos (by omega), List.getElem?_append_left (by rw [putAt_len]; omega), putAt, List.getElem?_append_right (by rw [List.length_take]; omega), List.length_take, show j + 1 - min j P.length = 1 from by omega, List.getElem?_cons_succ, List.getElem?_drop, List.getElem?_eq_getElem (by omega), hg]
   simp
  ·rw [if_neg h2]
   by_cases h3 : i < j
   ·rw [List.getElem?_append_left (by rw [putAt_len]; omega), List.getElem?_append_left (by rw [putAt_len]; omega), putAt, putAt, List.getElem?_append_left (by rw [List.length_take]; omega), List.getElem?_append_left (by rw [List.length_take]; omega), List.getElem?_take, List.getElem?_take, if_pos (by omega), if_pos (by omega)]
   ·by_cases h4 : i < P.length + 1
    ·rw [List.getElem?_append_left (by rw [putAt_len]; omega), List.getElem?_append_left (by rw [putAt_len]; omega), putAt, putAt, List.getElem?_append_right (by rw [List.length_take]; omega), List.getElem?_append_right (by rw [List.length_take]; omega), List.length_take, List.length_take, show i - min (j + 1) P.length = (i - j - 2) + 1 from by omega, show i - min j P.length = (i - j - 1) + 1 from by omega, List.getElem?_cons_succ, List.getElem?_cons_succ, List.getElem?_drop, List.getElem?_drop, show j + 1 + (i - j - 2) = j + (i - j - 1) from by omega]
    ·rw [List.getElem?_append_right (by rw [putAt_len]; omega), List.getElem?_append_right (by rw [putAt_len]; omega), putAt_len, putAt_len]
theorem foldl_snoc (l : List ByteArray) (i : Nat) (hi : i < l.length) : sortB (l.take (i + 1)) = insB (sortB (l.take i)) l[i] (sortB (l.take i)).length := by
 rw [← List.take_append_getElem hi, sortB, List.foldl_append]
 rfl
theorem sortB_len (l : List ByteArray) : ∀ i, i ≤ l.length → (sortB (l.take i)).length = i
 | 0, _ => by simp [sortB]
 | i + 1, h => by rw [foldl_snoc l i (by omega), insB_len, sortB_len l i (by omega)]
theorem wkKeepS0 {G G' : Prop} (k : G') (h : Hold G' → G := by intro k9; (first | refine walk ?_ | (refine jn ?_; (try intro F); (first | (refine stA ?_) | (apply Stp_pu; exact PuA)); refine fin ?_)); exact k9.out) : G := h ⟨k⟩
theorem PuKeepS1 {G : Prop} (h : G := by (first | (apply Pu_indexAddr; rfl; rfl; omega; omega; exact hAn) | (apply Pu_loadR; rfl; (focus repeat' constructor); first | exact hx1 | exact hx2))) : G := h
theorem QyKeepS1 {G : Prop} (h : G := by first | (apply Qy_y; rfl; exact PuKeepS1) | exact QyA) : G := h
theorem QFKeepS1 {G : Prop} (h : G := by repeat (first | exact QF.nil | (apply QF.mk; rfl; rfl; decide +kernel; exact QyKeepS1))) : G := h
set_option maxHeartbeats 4000000 in
theorem insertion_spec (A : Option Addr) (c : Nat) (l : List ByteArray) (wr : World) (R : List It) (hn : l.length ≤ 1000000) (hAn : 0 < l.length → A ≠ none) :
  DoesIn Tryz.prog 156 [.slice A l.length c, .int .i64 0, .int .i64 l.length] wr (rowS A c l :: R) (fun _ O => O = rowS A c (sortB l) :: R) := by
 refine DoesIn_of_W Tryz.func156 rfl rfl rfl rfl ?_
 repeat refine wkKeepS0 ?_
 refine W_loopF [(0, _), (1, _), (2, _)] R (fun i : Nat => [(6, .int .i64 i)]) (fun i => [.row (.slice A l.length c) 9 1 l.length ((sortB (l.take i) ++ l.drop i).flatMap strEnc)]) (fun i => 1 ≤ i ∧ i ≤ l.length + 1) (fun i => l.length + 1 - i) 1 SFA (by
   have e : sortB (l.take 1) ++ l.drop 1 = l := by
    cases l with
    | nil => rfl
    | cons x l => rfl
   rw [e]
   exact .refl _) ⟨Nat.le_refl _, by omega⟩ ?_
 rintro i ⟨hi1, hi2⟩
 repeat refine wkKeepS0 ?_
 refine W_cond rfl (fun g1 => ?_) (fun g1 => ?_)
 ·simp only [decide_eq_true_eq] at g1
  have hil : i < l.length := by omega
  have hAn := hAn (by omega)
  have hPl := sortB_len l i (by omega)
  have hfs := foldl_snoc l i hil
  have hdr : sortB (l.take i) ++ l.drop i = putAt (sortB (l.take i)) l[i] i ++ l.drop (i + 1) := by
   generalize sortB (l.take i) = Q at *
   rw [putAt, List.take_of_length_le (l := Q) (by omega), List.drop_of_length_le (l := Q) (by omega), drop_cons hil]
   simp
  rw [hPl] at hfs
  rw [hdr]
  generalize sortB (l.take i) = Q at *
  generalize l[i] = x at *
  generalize hrest : l.drop (i + 1) = rest at *
  have hrl : rest.length = l.length - (i + 1) := by rw [← hrest, List.length_drop]
  repeat refine wkKeepS0 ?_
  refine W_loopF [(0, _), (1, _), (2, _), (6, _)] R (fun j : Nat => [(7, .int .i64 j)]) (fun j => [.row (.slice A l.length c) 9 1 l.length ((putAt Q x j ++ rest).flatMap strEnc)]) (fun j => j ≤ i ∧ insB Q x j = insB Q x i) (fun j => j) i SFA (.refl _) ⟨Nat.le_refl _, rfl⟩ ?_
  rintro j ⟨hj, hins⟩
  repeat refine wkKeepS0 ?_
  refine RD_split 19 rfl (fun g2 => ?_) (fun g2 => ?_)
  ·simp only [decide_eq_true_eq] at g2
   obtain ⟨j, rfl⟩ : ∃ j', j = j' + 1 := ⟨j - 1, by omega⟩
   have hjQ : j < Q.length := by omega
   have hx1 : ((putAt Q x (j + 1) ++ rest).flatMap strEnc)[(((j + 1 : Nat) : Int)).toNat * 1]? = some (.string x) := by
    rw [show (((j + 1 : Nat) : Int)).toNat * 1 = j + 1 from by omega, str_get, putAt_here Q rest x (j + 1) (by omega)]; rfl
   have hx2 : ((putAt Q x (j + 1) ++ rest).flatMap strEnc)[(((j + 1 : Nat) : Int) - 1).toNat * 1]? = some (.string (Q.getD j ByteArray.empty)) := by
    rw [show (((j + 1 : Nat) : Int) - 1).toNat * 1 = j from by omega, str_get, putAt_before Q rest x j (by omega)]; rfl
   have hsw := putAt_swap Q rest x j hjQ
   have hll : (putAt Q x (j + 1) ++ rest).length = l.length := by rw [List.length_append, putAt_len]; omega
   rw [insB] at hins
   generalize Q.getD j ByteArray.empty = y at *
   repeat (first | (apply RL_pu; rfl; exact PuKeepS1) | (apply RD_Q; rfl; rfl; decide +kernel; rfl; rfl; exact QyKeepS1) | refine walk1 ?_ | (refine jg ?_; (try intro F); (first | (refine callE (fun w' _ => less_spec x y w') ?_) | (refine stA ?_)); first | refine ⟨_, EndsA, QFKeepS1, ?_⟩ | refine fin ?_) | (refine jn ?_; (try intro F); (first | (refine stA ?_) | (apply Stp_pu; first | exact PuKeepS1 | exact PuA)); first | refine ⟨_, EndsA, QFKeepS1, ?_⟩ | refine fin ?_))
   refine W_cond rfl (fun g3 => ?_) (fun g3 => ?_)
   ·rw [if_pos g3] at hins
    repeat (first | (apply RL_pu; rfl; exact PuKeepS1) | (refine js ?_; (apply Stp_storeR; rfl; rfl; (focus repeat' constructor); rfl; rfl; rfl; (simp only [lay_length, str_len, hll]; omega); decide; rfl)) | (apply RD_Q; rfl; rfl; decide +kernel; rfl; rfl; exact QyKeepS1) | refine walk1 ?_ | (refine RD_Lw ?_; intro F; (first | (apply Stp_storeR; rfl; rfl; (focus repeat' constructor); rfl; rfl; rfl; (simp only [lay_length, str_len, hll]; omega); decide; rfl) | (refine stA ?_) | (apply Stp_pu; first | exact PuKeepS1 | exact PuA)); refine ⟨_, EndsA, QFKeepS1, ?_⟩))
    have hfin : lay (lay ((putAt Q x (j + 1) ++ rest).flatMap strEnc) ((((j + 1 : Nat) : Int)).toNat * 1) (Value.string y).cells.toList) ((((j + 1 : Nat) : Int) - 1).toNat * 1) (Value.string x).cells.toList = (putAt Q x j ++ rest).flatMap strEnc := by
     rw [show (((j + 1 : Nat) : Int)).toNat * 1 = j + 1 from by omega, show (((j + 1 : Nat) : Int) - 1).toNat * 1 = j from by omega, ← hsw, ← str_set, ← str_set]
     rfl
    exact ⟨j, OA, ⟨OA, hins⟩, by
     refine ⟨?_, SFA⟩
     show some (Value.int .i64 ((((j + 1 : Nat) : Int)) - 1)) = some (.int .i64 (j : Int))
     congr 2
     omega, by rw [← hfin]; exact .refl _⟩
   rw [if_neg (by simp [g3])] at hins
   repeat refine wkKeepS0 ?_
   exact ⟨i + 1, OA, ⟨OA, OA⟩, SFA, by rw [hfs, hrest, ← hins]; exact .refl _⟩
  have hj0 : j = 0 := by simp at g2; omega
  subst hj0
  repeat refine wkKeepS0 ?_
  exact ⟨i + 1, OA, ⟨OA, OA⟩, SFA, by rw [hfs, hrest, ← hins]; exact .refl _⟩
 simp only [decide_eq_false_iff_not] at g1
 rw [List.take_of_length_le (by omega), List.drop_of_length_le (by omega), List.append_nil]
 have hlen : (sortB l).length = l.length := by have := sortB_len l l.length (Nat.le_refl _); rwa [List.take_length] at this
 repeat refine wkKeepS0 ?_
 exact ret_0 _ (.refl _) (by unfold rowS; rw [hlen]; rfl)
end Go.Proofs.YtbjkhnlnedfceaaGreatDoor
namespace Go.Proofs.YtbjkhnlnedfceaaGreatDoor
open Go Go.RowKit Go.Wk
theorem W_toRow1 {P : Program} {n : Nat} {wr : World} {fr : Fr} {O : List It} {c0 : Code} {Q : Exit → Fr → List It → Prop} {b : Nat} {x : ByteArray} {O' : List It} (hu : Upd O (.blk b [.string x] 9) (.row (.slice (some ⟨b, 0, none⟩) 1 1) 9 1 1 [.string x]) O') (h : W P n wr c0 Q fr O') : W P n wr c0 Q fr O := fun a w hs => h a w ⟨hs.sim, hs.old, by
 refine hs.own.upd hu hs.old.size (Nat.le_refl _) (fun _ _ _ => rfl) ?_ (fun i hi => ?_)
 ·have hsat := hs.own.sat _ hu.mem
  refine ⟨rfl, .inr ⟨b, 1, #[.string x], rfl, Nat.zero_le _, hsat, Nat.le_refl _, by decide, rfl, rfl⟩⟩
 ·left
  simp only [It.S, Value.ownBlock, Option.some.injEq] at hi ⊢
  exact hi.symm⟩
attribute [local irreducible] W RL Does thenQ blockQ retQ Calls Pu Stp RD Qy Ay DoesIn
def bitOn (bits : Int) (i : Nat) : Bool := decide (IntKind.u8.wrap (BitVec.ofInt 8 (bits.fdiv (2 ^ min ((i : Int) % 8).toNat 8)) &&& BitVec.ofInt 8 1).toNat = 1)
def pickZ (bits : Int) : Nat → List DZone → List ByteArray
 | _, [] => []
 | i, z :: l => (if bitOn bits i then [z.name] else []) ++ pickZ bits (i + 1) l
def nNone : ByteArray := ⟨#[78, 111, 110, 101]⟩
def someD (s : DSource) (bits : Int) : List ByteArray := nNone :: pickZ bits 0 s.zones
theorem pickZ_snoc (bits : Int) : ∀ (l : List DZone) (i : Nat) (z : DZone), pickZ bits i (l ++ [z]) = pickZ bits i l ++ if bitOn bits (i + l.length) then [z.name] else []
 | [], i, z => by simp [pickZ]
 | y :: l, i, z => by
  rw [List.cons_append, pickZ, pickZ, pickZ_snoc bits l (i + 1) z, List.append_assoc, List.length_cons, show i + 1 + l.length = i + (l.length + 1) by omega]
theorem pickZ_len (bits : Int) : ∀ (l : List DZone) (i : Nat), (pickZ bits i l).length ≤ l.length
 | [], _ => Nat.le_refl _
 | y :: l, i => by
  have := pickZ_len bits l (i + 1)
  rw [pickZ, List.length_append, List.length_cons]
  split <;> simp <;> omega
set_option maxHeartbeats 4000000 in
theorem some_spec (Ar Az Al As : Option Addr) (cr cz cl cs : Nat) (s : DSource) (bits : Int) (w : World) (hA : RdSource w Ar Az Al As cr cz cl cs s) (hn : s.zones.length ≤ 1000) :
  Does Tryz.prog 26 [srcV Ar Az Al As cr cz cl cs s, .int .u8 bits] w (NewSl 9 1 strEnc (someD s bits)) := by
 have hs1 := hA.zle
 refine Does_of_W Tryz.func26 rfl rfl rfl rfl ?_
 repeat (first | (refine js ?_; (refine bx ?_; intro bk)) | refine walk ?_)
 rename_i b2
 refine W_toRow1 (by repeat' constructor) ?_
 refine W_loopF [(1, .int .u8 bits), (10, .slice Az s.zones.length cz), (11, .int .i64 s.zones.length)] [] (fun g : RG => [(12, .int .i64 g.k), (5, .slice g.A g.m g.c)]) (fun g => [.row (.slice g.A g.m g.c) 9 1 g.m g.xs]) (fun g => g.k ≤ s.zones.length ∧ g.m = (nNone :: pickZ bits 0 (s.zones.take g.k)).length ∧ g.xs = (nNone :: pickZ bits 0 (s.zones.take g.k)).flatMap strEnc) (fun g => s.zones.length - g.k) ⟨0, some ⟨bk, 0, none⟩, 1, 1, [.string nNone]⟩ SFA SOA ⟨Nat.zero_le _, by simp [pickZ], by simp [pickZ, strEnc]⟩ ?_
 rintro ⟨k, A0, c0, m0, x0⟩ ⟨hk, hm0, hx0⟩
 dsimp only at hk hm0 hx0 ⊢
 have hl := pickZ_len bits (s.zones.take k) 0
 rw [List.length_take, Nat.min_eq_left hk] at hl
 rw [List.length_cons] at hm0
 repeat (first | (refine js ?_; (refine bx ?_; intro bk)) | refine walk ?_)
 refine W_cond rfl (fun h => ?_) (fun h => ?_)
 ·have hk2 : k < s.zones.length := by simpa using h
  obtain ⟨hna, cs1, ⟨Ae, ce, hE, rfl⟩, hca⟩ := hA.z k _ (List.getElem?_eq_getElem hk2)
  have hst : pickZ bits 0 (s.zones.take (k + 1)) = pickZ bits 0 (s.zones.take k) ++ if bitOn bits k then [s.zones[k].name] else [] := by
   rw [← List.take_append_getElem hk2, pickZ_snoc, List.length_take, Nat.min_eq_left hk, Nat.zero_add]
  generalize s.zones[k] = z at *
  repeat (first | (apply RL_pu; rfl; (first | exact PuI | (apply Pu_shrW; rfl; rfl; omega) | (apply Pu_andW; rfl; rfl))) | (refine js ?_; (refine bx ?_; intro bk)) | refine walk1 ?_)
  refine W_cond rfl (fun h2 => ?_) (fun h2 => ?_)
  ·replace h2 : bitOn bits k = true := h2
   rw [h2] at hst
   repeat (first | (refine js ?_; (first | (apply Stp_append; rfl; rfl; (intro A' c'; (focus repeat' constructor)); (intro w' _ hO; exact blkRaw (hO.of (by repeat' constructor))); rfl; rfl; (simp only [maxLen]; omega); omega; intro A' c' hc1 hc2 hc3) | (refine bx ?_; intro bk))) | refine walk ?_)
   exact ⟨⟨k + 1, A', c', m0 + 1, x0 ++ strEnc z.name⟩, OA, ⟨OA, by rw [hst, hm0]; simp, by rw [hst, hx0]; simp⟩, SFA, SOA⟩
  replace h2 : bitOn bits k = false := h2
  rw [h2] at hst
  repeat (first | (refine js ?_; (refine bx ?_; intro bk)) | refine walk ?_)
  exact ⟨⟨k + 1, A0, c0, m0, x0⟩, OA, ⟨OA, by rw [hst, hm0]; simp, by rw [hst, hx0]; simp⟩, SFA, SOA⟩
 have hkl : k = s.zones.length := by simp only [decide_eq_false_iff_not, Int.ofNat_lt] at h; omega
 subst hkl
 rw [List.take_length] at hm0 hx0
 have e : m0 = (someD s bits).length := hm0
 subst e
 repeat (first | (refine js ?_; (refine bx ?_; intro bk)) | refine walk ?_)
 exact ret_1 _ [.row (.slice A0 (someD s bits).length c0) 9 1 (someD s bits).length x0] (.tmp rfl) SOA ⟨A0, c0, rfl, by rw [hx0]; rfl⟩
end Go.Proofs.YtbjkhnlnedfceaaGreatDoor
