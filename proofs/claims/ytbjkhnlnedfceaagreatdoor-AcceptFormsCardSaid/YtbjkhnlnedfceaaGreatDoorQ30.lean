/- Contracts: events.In at the years that apart looks at, apart.Check. Contracts: accept.looker.sizes, rule, names. Contracts: accept.looker.rule, sets. -/
import Derived.Test.YtbjkhnlnedfceaaGreatDoorQ16
import Derived.Test.YtbjkhnlnedfceaaGreatDoorQ29
import Derived.Test.YtbjkhnlnedfceaaGreatDoorQ26
import Derived.Test.YtbjkhnlnedfceaaGreatDoorQ22
import Derived.Test.YtbjkhnlnedfceaaGreatDoorQ25
set_option maxHeartbeats 4000000
set_option linter.unusedVariables false
set_option linter.unusedSimpArgs false
namespace Go.Proofs.YtbjkhnlnedfceaaGreatDoor
open Go Go.RowKit Go.Wk
attribute [local irreducible] W RL Does thenQ blockQ retQ Calls Pu Stp RD Qy Ay DoesIn
structure IG where
 k : Nat
 A : Option Addr
 c : Nat
 m : Nat
 xs : List Value
 acc : List DEvent
def NewEv (l : List DEvent) (v : Value) (O : List It) : Prop := ∃ A c, v = .tuple #[.slice A l.length c, .int .i64 0] ∧ O = [evRow A c l]
theorem u64_big : decide ((1000 : Int) < IntKind.u64.wrap (IntKind.u64.wrap 2550 - IntKind.u64.wrap 1850)) = false := by decide +kernel
theorem in_spec (A : Option Addr) (c : Nat) (l : List DRule) (w : World) (hG : Glob w) (hA : RdSl w A c DRule.enc 11 l) (hn : l.length ≤ 1000000) (hR : ∀ r ∈ l, -4611686018427387904 ≤ r.save ∧ r.save ≤ 4611686018427387904) :
  Does Tryz.prog 119 [.slice A l.length c, .int .i64 1850, .int .i64 2550] w (NewEv (sortedE (allC l (leastD l) 1850 701))) := by
 have hon := fun (i : Nat) r (hi : l[i]? = some r) y w' (hw : Bel w.heap.size w w') => evOn_spec A c l i y r w' (hG.up hw) (hA.up hw) hi hn hR
 generalize leastD l = least at *
 obtain ⟨res, hres⟩ : ∃ res, allC l least 1850 701 = res := ⟨_, rfl⟩
 rw [hres]
 refine Does_of_W Tryz.func119 rfl rfl rfl rfl ?_
 repeat (first | (apply RL_pu; rfl; (first | (apply Pu_sub'; rfl; rfl; (constructor <;> omega)) | (apply Pu_subW; rfl; rfl) | (apply Pu_gtrB; rfl; rfl; exact u64_big) | (apply Pu_convI; rfl))) | (refine js ?_; (refine bx ?_; intro bk)) | refine walk1 ?_)
 refine W_nil 137 3 ?_
 obtain ⟨N, hN⟩ : ∃ N : Int, N = 701 := ⟨_, rfl⟩
 rw [show (2550 : Int) - 1850 + 1 = N by omega]
 refine W_loopF [(0, .slice A l.length c), (1, .int .i64 1850), (27, .int .i64 N)] [] (fun g : IG => [(8, .slice g.A g.m g.c), (28, .int .i64 g.k)]) (fun g => [.row (.slice g.A g.m g.c) 137 3 g.m g.xs])
  (fun g => g.k ≤ 701 ∧ g.m = g.acc.length ∧ g.xs = g.acc.flatMap DEvent.enc ∧ g.m ≤ g.k * 1000000 ∧ g.acc = allC l least 1850 g.k) (fun g => 701 - g.k) ⟨0, none, 0, 0, [], []⟩ SFA SOA ⟨Nat.zero_le _, rfl, rfl, Nat.le_refl _, rfl⟩ ?_
 rintro ⟨k, A1, c1, m, xs, acc⟩ ⟨hk, hm, hx, hmk, hi⟩
 dsimp only at hk hm hx hmk hi ⊢
 repeat (first | (refine js ?_; (refine bx ?_; intro bk)) | refine walk ?_)
 refine W_cond rfl (fun hc => ?_) (fun hc => ?_)
 ·have hk2 : k < 701 := by have := of_decide_eq_true hc; omega
  obtain ⟨nxt, hnxt⟩ : ∃ nxt, allC l least 1850 (k + 1) = nxt := ⟨_, rfl⟩
  have hst : acc ++ yearC least (1850 + k) l 0 = nxt := by rw [← hnxt, allC, hi]
  repeat (first | (refine js ?_; (refine bx ?_; intro bk)) | refine walk ?_)
  refine W_loopF [(0, .slice A l.length c), (1, .int .i64 1850), (27, .int .i64 N), (28, .int .i64 k), (9, .int .i64 k), (31, .slice A l.length c), (32, .int .i64 l.length)] [] (fun g : IG => [(8, .slice g.A g.m g.c), (33, .int .i64 g.k)]) (fun g => [.row (.slice g.A g.m g.c) 137 3 g.m g.xs])
   (fun g => g.k ≤ l.length ∧ g.m = g.acc.length ∧ g.xs = g.acc.flatMap DEvent.enc ∧ g.m ≤ k * 1000000 + g.k ∧ g.acc ++ yearC least (1850 + k) (l.drop g.k) g.k = nxt) (fun g => l.length - g.k) ⟨0, A1, c1, m, xs, acc⟩ SFA SOA ⟨Nat.zero_le _, hm, hx, Nat.le_trans hmk (Nat.le_add_right _ _), by dsimp only; rw [List.drop_zero]; exact hst⟩ ?_
  clear hm hx hmk hi hst hc
  rintro ⟨i, A1, c1, m, xs, acc⟩ ⟨hil, hm, hx, hmk, hi⟩
  dsimp only at hil hm hx hmk hi ⊢
  repeat (first | (refine js ?_; (refine bx ?_; intro bk)) | refine walk ?_)
  refine W_cond rfl (fun hc => ?_) (fun hc => ?_)
  ·simp only [decide_eq_true_eq, Int.ofNat_lt] at hc
   have ho := hon i _ (List.getElem?_eq_getElem hc) (1850 + (k : Int))
   rw [drop_cons hc, yearC] at hi
   generalize onR least l[i] i (1850 + (k : Int)) = o at *
   cases o with
   | none =>
    simp only [evV, DEvent.enc, dEv0, Option.isSome, Option.toList, List.nil_append] at ho hi
    repeat (first | (refine js ?_; (first | (refine callE ho ?_) | (refine bx ?_; intro bk))) | refine walk ?_)
    exact ⟨⟨i + 1, A1, c1, m, xs, acc⟩, OA, ⟨OA, hm, hx, OA, hi⟩, SFA, SOA⟩
   | some e =>
    obtain ⟨ey, er, en⟩ := e
    simp only [evV, DEvent.enc, Option.isSome, Option.toList] at ho hi
    repeat (first | (refine js ?_; (first | (refine callE ho ?_) | (apply Stp_append; rfl; rfl; (intro A' c'; (focus repeat' constructor)); (intro w' _ hO; exact blkRaw (hO.of (by repeat' constructor))); rfl; rfl; (simp only [maxLen]; omega); omega; intro A' c' hc1 hc2 hc3) | (refine bx ?_; intro bk))) | refine walk ?_)
    exact ⟨⟨i + 1, A', c', m + 1, xs ++ [.int .i64 ey, .int .i64 er, .int .i64 en], acc ++ [⟨ey, er, en⟩]⟩, OA, ⟨OA, by simp [hm], by rw [hx]; simp [DEvent.enc], OA, by rw [← hi]; simp⟩, SFA, SOA⟩
  ·simp only [decide_eq_false_iff_not, Int.ofNat_lt] at hc
   rw [List.drop_eq_nil_of_le (by omega), yearC, List.append_nil] at hi
   repeat (first | (refine js ?_; (refine bx ?_; intro bk)) | refine walk ?_)
   exact ⟨⟨k + 1, A1, c1, m, xs, acc⟩, OA, ⟨OA, hm, hx, OA, hi.trans hnxt.symm⟩, SFA, SOA⟩
 ·obtain rfl : k = 701 := by have := of_decide_eq_false hc; omega
  rw [hres] at hi
  subst hi hm hx
  repeat (first | (refine js ?_; (first | (apply Stp_callIn; rfl; exact sortEv_in A1 c1 acc w (by omega); exact .refl _; rintro v O' ⟨rfl, rfl⟩) | (refine bx ?_; intro bk))) | refine walk ?_)
  exact ret_2 _ _ [evRow A1 c1 (sortedE acc)] (.tmp rfl) (.tmp rfl) SOA ⟨A1, c1, by rw [sortedE_len], rfl⟩
def apV : Option DEvent → Value
 | none => .tuple #[.agg (DEvent.enc dEv0).toArray, .int .i64 0]
 | some e => .tuple #[.agg (DEvent.enc e).toArray, .int .i64 13]
theorem closeA_drop {l : List DEvent} {k : Nat} (h : k + 1 < l.length) : closeA (l.drop k) = if (l[k + 1]'h).nominal - (l[k]'(by omega)).nominal < 259200 then some (l[k + 1]'h) else closeA (l.drop (k + 1)) := by
 rw [drop_cons (show k < l.length by omega), drop_cons h, closeA]
theorem closeA_end {l : List DEvent} {k : Nat} (h : l.length ≤ k + 1) : closeA (l.drop k) = none := by
 by_cases hk : k < l.length
 ·rw [drop_cons hk, List.drop_eq_nil_of_le h]; rfl
 ·rw [List.drop_eq_nil_of_le (by omega)]; rfl
theorem evRow_get {l : List DEvent} {k : Nat} (h : k < l.length) (j : Nat) (v : Value) (hj : (DEvent.enc l[k])[j]? = some v) : (l.flatMap DEvent.enc)[k * 3 + j]? = some v := flat_get DEvent.len l k _ j v (List.getElem?_eq_getElem h) hj
def NomOk (e : DEvent) : Prop := -200000000000000000 ≤ e.nominal ∧ e.nominal ≤ 200000000000000000
theorem yearC_ok (least y : Int) (hl : least ≤ 0) : ∀ (l : List DRule) (i : Nat), (yearC least y l i).length ≤ l.length ∧ ∀ e ∈ yearC least y l i, NomOk e
 | [], _ => ⟨Nat.le_refl _, fun _ h => by cases h⟩
 | r :: l, i => by
  obtain ⟨h1, h2⟩ := yearC_ok least y hl l (i + 1)
  have h3 := onR_bd least hl r i y
  simp only [yearC, List.length_append, List.length_cons, List.mem_append]
  generalize onR least r i y = o at *
  cases o with
  | none => exact ⟨by simp only [Option.toList, List.length_nil]; omega, fun e he => by rcases he with h | h; cases h; exact h2 e h⟩
  | some x => exact ⟨by simp only [Option.toList, List.length_cons, List.length_nil]; omega, fun e he => by
    rcases he with h | h
    ·simp only [Option.toList, List.mem_singleton] at h; subst h; exact h3 _ rfl
    ·exact h2 e h⟩
theorem allC_ok (l : List DRule) (least from_ : Int) (hl : least ≤ 0) : ∀ k, (allC l least from_ k).length ≤ k * l.length ∧ ∀ e ∈ allC l least from_ k, NomOk e
 | 0 => ⟨Nat.zero_le _, fun _ h => by cases h⟩
 | k + 1 => by
  obtain ⟨h1, h2⟩ := allC_ok l least from_ hl k
  obtain ⟨h3, h4⟩ := yearC_ok least (from_ + k) hl l 0
  simp only [allC, List.length_append, List.mem_append, Nat.succ_mul]
  exact ⟨by omega, fun e he => he.elim (h2 e) (h4 e)⟩
theorem allC_len (l : List DRule) (least from_ : Int) (hl : least ≤ 0) (hn : l.length ≤ 1000000) : (allC l least from_ 701).length ≤ 701000000 := by
 have := (allC_ok l least from_ hl 701).1
 omega
theorem PuEvI1 {G : Prop} (h : G := by (apply Pu_maxK; rfl; rfl; exact hmx)) : G := h
theorem QyEvI1 {G : Prop} (h : G := by first | (apply Qy_y; rfl; exact PuEvI1) | exact QyA) : G := h
theorem QFEvI1 {G : Prop} (h : G := by repeat (first | exact QF.nil | (apply QF.mk; rfl; rfl; decide +kernel; exact QyEvI1))) : G := h
theorem PuEvI2 {G : Prop} (h : G := by (first | (apply Pu_indexAddrH; rfl; rfl; omega; omega; (intro w' _ hO; exact (row_cell (hO.of (A := .row (.slice A1 s.length c1) 137 3 s.length (s.flatMap DEvent.enc)) (by repeat' constructor)) hg1).1)) | (apply Pu_loadRF; rfl; (focus repeat' constructor); exact hg1) | (apply Pu_loadRF; rfl; (focus repeat' constructor); exact hg2) | (apply Pu_loadRN; rfl; (focus repeat' constructor); exact hgn; rfl) | (apply Pu_lssB; rfl; rfl; exact hb))) : G := h
theorem QyEvI2 {G : Prop} (h : G := by first | (apply Qy_y; rfl; exact PuEvI2) | exact QyA) : G := h
theorem QFEvI2 {G : Prop} (h : G := by repeat (first | exact QF.nil | (apply QF.mk; rfl; rfl; decide +kernel; exact QyEvI2))) : G := h
theorem apart_spec (A : Option Addr) (c : Nat) (l : List DRule) (w : World) (hG : Glob w) (hA : RdSl w A c DRule.enc 11 l) (hn : l.length ≤ 1000000) (hR : ∀ r ∈ l, -4611686018427387904 ≤ r.save ∧ r.save ≤ 4611686018427387904) :
  Does Tryz.prog 84 [.slice A l.length c] w (fun v O => v = apV (apartD l) ∧ O = []) := by
 have hin := fun w' (hw : Bel w.heap.size w w') => in_spec A c l w' (hG.up hw) (hA.up hw) hn hR
 have hle := (leastD_le l hR).2
 have hal := allC_len l (leastD l) 1850 hle hn
 have hok := (allC_ok l (leastD l) 1850 hle 701).2
 rw [← apartD_eq]
 rw [show ((allC l (leastD l) 1850 701).mergeSort fun x y => !ltE y x) = sortedE (allC l (leastD l) 1850 701) from rfl]
 have hsl := sortedE_len (allC l (leastD l) 1850 701)
 have hso : ∀ e ∈ sortedE (allC l (leastD l) 1850 701), NomOk e := fun e he => hok e (List.mem_mergeSort.1 he)
 generalize sortedE (allC l (leastD l) 1850 701) = s at *
 have hsl2 : s.length ≤ 701000000 := by omega
 clear hal hok hsl
 obtain ⟨res, hres⟩ : ∃ res, closeA s = res := ⟨_, rfl⟩
 rw [hres]
 have hmx : (if (s.length : Int) - 1 < 0 then 0 else (s.length : Int) - 1) = ((s.length - 1 : Nat) : Int) := by split <;> omega
 refine Does_of_W Tryz.func84 rfl rfl rfl rfl ?_
 repeat (first | (apply RL_pu; rfl; exact PuEvI1) | (apply RD_Q; rfl; rfl; decide +kernel; rfl; rfl; exact QyEvI1) | refine walk1 ?_ | (refine jg ?_; (try intro F); (first | (apply Stp_call (h := fun w' hw _ => hin w' hw); rfl; rintro v O' ⟨A1, c1, rfl, rfl⟩) | (refine bx ?_; intro bk) | (refine stA ?_)); first | refine ⟨_, EndsA, QFEvI1, ?_⟩ | refine fin ?_) | (refine jn ?_; (try intro F); (first | (refine bx ?_; intro bk) | (refine stA ?_) | (apply Stp_pu; first | exact PuEvI1 | exact PuA)); first | refine ⟨_, EndsA, QFEvI1, ?_⟩ | refine fin ?_) | (apply RD_W; rfl; intro bk))
 have hn1 : s.length - 1 ≤ 701000000 := by omega
 obtain ⟨b2, hb2⟩ : ∃ b2, bk = b2 := ⟨_, rfl⟩
 rw [hb2]
 clear hb2 bk
 refine W_loopF [(2, .pointer (some ⟨b2, 0, none⟩)), (4, .slice A1 s.length c1), (19, .int .i64 (s.length - 1 : Nat))] [.row (.slice A1 s.length c1) 137 3 s.length (s.flatMap DEvent.enc), .blk b2 [.int .i64 0, .int .i64 0, .int .i64 0] 137] (fun k : Nat => [(20, .int .i64 k)]) (fun _ => []) (fun k => k ≤ s.length - 1 ∧ closeA (s.drop k) = res) (fun k => s.length - 1 - k) 0 SFA SOA ⟨Nat.zero_le _, hres⟩ ?_
 rintro k ⟨hk, hi⟩
 repeat (first | refine walk ?_ | (refine jn ?_; (try intro F); (first | (refine bx ?_; intro bk) | (refine stA ?_) | (apply Stp_pu; exact PuA)); refine fin ?_) | (apply RD_W; rfl; intro bk))
 refine W_cond rfl (fun hc => ?_) (fun hc => ?_)
 ·simp only [decide_eq_true_eq, Int.ofNat_lt] at hc
  have hk1 : k + 1 < s.length := by omega
  rw [closeA_drop hk1] at hi
  have hg1 := evRow_get hk1 2 _ rfl
  have hg2 := evRow_get (show k < s.length by omega) 2 _ rfl
  have hgn : ∀ j v, (DEvent.enc s[k + 1])[j]? = some v → (s.flatMap DEvent.enc)[(k + 1) * 3 + j]? = some v := fun j v hj => evRow_get hk1 j v hj
  have o1 := hso _ (List.getElem_mem hk1)
  have o2 := hso _ (List.getElem_mem (show k < s.length by omega))
  generalize s[k + 1] = e1 at *
  generalize s[k] = e2 at *
  obtain ⟨y1, r1, n1⟩ := e1
  obtain ⟨y2, r2, n2⟩ := e2
  simp only [DEvent.enc, NomOk] at hg1 hg2 hgn o1 o2 hi
  have hlen : (s.length : Int) ≤ 701000000 := by omega
  have hkk : (k : Int) + 1 < s.length := by omega
  by_cases h3 : n1 - n2 < 259200
  ·rw [if_pos h3] at hi
   subst hi
   have hb : decide (n1 - n2 < 259200) = true := decide_eq_true h3
   repeat (first | (apply RL_pu; rfl; exact PuEvI2) | (apply RD_Q; rfl; rfl; decide +kernel; rfl; rfl; exact QyEvI2) | refine walk1 ?_ | (refine jn ?_; (try intro F); (first | (refine bx ?_; intro bk) | (refine stA ?_) | (apply Stp_pu; first | exact PuEvI2 | exact PuA)); first | refine ⟨_, EndsA, QFEvI2, ?_⟩ | refine fin ?_) | (apply RD_W; rfl; intro bk))
   exact rtC
  ·rw [if_neg h3] at hi
   have hb : decide (n1 - n2 < 259200) = false := decide_eq_false h3
   repeat (first | (apply RL_pu; rfl; exact PuEvI2) | (apply RD_Q; rfl; rfl; decide +kernel; rfl; rfl; exact QyEvI2) | refine walk1 ?_ | (refine jn ?_; (try intro F); (first | (refine bx ?_; intro bk) | (refine stA ?_) | (apply Stp_pu; first | exact PuEvI2 | exact PuA)); first | refine ⟨_, EndsA, QFEvI2, ?_⟩ | refine fin ?_) | (apply RD_W; rfl; intro bk))
   exact ⟨k + 1, OA, ⟨OA, hi⟩, SFA, SOA⟩
 ·simp only [decide_eq_false_iff_not, Int.ofNat_lt] at hc
  rw [closeA_end (show s.length ≤ k + 1 by omega)] at hi
  subst hi
  repeat (first | refine walk ?_ | (refine jn ?_; (try intro F); (first | (refine bx ?_; intro bk) | (refine stA ?_) | (apply Stp_pu; exact PuA)); refine fin ?_) | (apply RD_W; rfl; intro bk))
  exact rtC
def manyE (z : DZone) : Bool := decide (60 < z.eras.length)
theorem findI_idx {α : Type} (p : α → Bool) : ∀ (l : List α) (k : Nat), findI p l k = match l.findIdx? p with | some i => ((k + i : Nat) : Int) | none => -1
 | [], _ => rfl
 | x :: l, k => by
  rw [findI, List.findIdx?_cons]
  by_cases h : p x = true
  ·rw [if_pos h, if_pos h]; rfl
  ·rw [if_neg h, if_neg h, findI_idx p l (k + 1)]
   cases l.findIdx? p with
   | none => rfl
   | some i => simp only [Option.map_some]; congr 1; omega
theorem sizes1_spec (n : ByteArray) (A : Option Addr) (m c : Nat) (w : World) : Does Tryz.prog 80 [.agg #[.string n, .slice A m c]] w (fun v O => v = .bool (decide (60 < m)) ∧ O = []) := by
 have hb : decide ((60 : Int) < (m : Int)) = decide (60 < m) := by rw [decide_eq_decide]; omega
 refine Does_of_W Tryz.func80 rfl rfl rfl rfl ?_
 repeat (first | (apply RL_pu; rfl; (apply Pu_gtrB; rfl; rfl; exact hb)) | (refine js ?_; (refine bx ?_; intro bk)) | refine walk1 ?_)
 exact rtA
theorem indexZ_spec (Ar Az Al As : Option Addr) (cr cz cl cs : Nat) (a : DSource) (w : World) (hA : RdSource w Ar Az Al As cr cz cl cs a) (hn : a.zones.length ≤ 1000000) :
  Does Tryz.prog 69 [.slice Az a.zones.length cz, .func (.func 80) #[] #[]] w (fun v O => v = .int .i64 (findI manyE a.zones 0) ∧ O = []) := by
 obtain ⟨res, hres⟩ : ∃ res, findI manyE a.zones 0 = res := ⟨_, rfl⟩
 rw [hres]
 refine Does_of_W Tryz.func69 rfl rfl rfl rfl ?_
 repeat (first | refine walk ?_)
 refine W_loopF [(0, .slice Az a.zones.length cz), (1, .func (.func 80) #[] #[]), (7, .int .i64 a.zones.length)] [] (fun k : Nat => [(8, .int .i64 k)]) (fun _ => []) (fun k => k ≤ a.zones.length ∧ findI manyE (a.zones.drop k) k = res) (fun k => a.zones.length - k) 0 SFA .nil ⟨Nat.zero_le _, hres⟩ ?_
 rintro k ⟨hk, hi⟩
 repeat (first | refine walk ?_)
 refine W_cond rfl (fun hc => ?_) (fun hc => ?_)
 ·simp only [decide_eq_true_eq, Int.ofNat_lt] at hc
  obtain ⟨hna, cs1, ⟨Ae, ce, _, rfl⟩, hca⟩ := hA.z k _ (List.getElem?_eq_getElem hc)
  rw [drop_cons hc, findI] at hi
  generalize a.zones[k] = z at *
  have h1 : ∀ w', Does Tryz.prog 80 ([] ++ [.agg #[.string z.name, .slice Ae z.eras.length ce]] ++ []) w' (fun v O => v = .bool (decide (60 < z.eras.length)) ∧ O = []) := fun w' => sizes1_spec z.name Ae z.eras.length ce w'
  rw [show decide (60 < z.eras.length) = manyE z from rfl] at h1
  generalize manyE z = mb at *
  cases mb with
  | true =>
   rw [if_pos rfl] at hi
   subst hi
   repeat (first | (apply RL_pu; rfl; exact PuI) | (refine js ?_; (refine callV (fun w' hw _ => h1 w') ?_)) | refine walk1 ?_)
   exact rtA
  | false =>
   rw [if_neg (by decide)] at hi
   repeat (first | (apply RL_pu; rfl; exact PuI) | (refine js ?_; (refine callV (fun w' hw _ => h1 w') ?_)) | refine walk1 ?_)
   exact ⟨k + 1, OA, ⟨OA, hi⟩, SFA, .nil⟩
 ·simp only [decide_eq_false_iff_not, Int.ofNat_lt] at hc
  rw [List.drop_eq_nil_of_le (by omega), findI] at hi
  subst hi
  repeat (first | refine walk ?_)
  exact rtA
theorem PuAccA1 {G : Prop} (h : G := by (apply Pu_gtrB; rfl; rfl; exact b1)) : G := h
theorem PuAccA2 {G : Prop} (h : G := by (first | exact PuAccA1 | (apply Pu_gtrB; rfl; rfl; exact b2))) : G := h
theorem PuAccA4 {G : Prop} (h : G := by (first | exact PuAccA2 | (apply Pu_gtrB; rfl; rfl; exact b3))) : G := h
theorem PuAccA5 {G : Prop} (h : G := by (first | exact PuAccA4 | (apply Pu_gtrB; rfl; rfl; exact b4))) : G := h
theorem sizes_spec (Ar Az Al As : Option Addr) (cr cz cl cs : Nat) (a : DSource) (w : World) (hA : RdSource w Ar Az Al As cr cz cl cs a) (hn : a.zones.length ≤ 1000000) :
  Does Tryz.prog 42 [srcV Ar Az Al As cr cz cl cs a] w (fun v O => v = ptV (sizesD a) ∧ O = []) := by
 have hix := fun w' (hw : Bel w.heap.size w w') => indexZ_spec Ar Az Al As cr cz cl cs a w' (hA.up hw) hn
 rw [findI_idx] at hix
 unfold sizesD
 rw [show (fun z : DZone => decide (60 < z.eras.length)) = manyE from rfl]
 generalize a.zones.findIdx? manyE = fi at *
 refine Does_of_W Tryz.func42 rfl rfl rfl rfl ?_
 by_cases h1 : 2000 < a.rules.length
 ·have b1 : decide ((2000 : Int) < a.rules.length) = true := decide_eq_true (by omega)
  rw [if_pos h1]
  repeat (first | (apply RL_pu; rfl; exact PuAccA1) | (refine js ?_; (refine bx ?_; intro bk)) | refine walk1 ?_)
  exact rtC
 have b1 : decide ((2000 : Int) < a.rules.length) = false := decide_eq_false (by omega)
 rw [if_neg h1]
 by_cases h2 : 500 < a.zones.length
 ·have b2 : decide ((500 : Int) < a.zones.length) = true := decide_eq_true (by omega)
  rw [if_pos h2]
  repeat (first | (apply RL_pu; rfl; exact PuAccA2) | (refine js ?_; (refine bx ?_; intro bk)) | refine walk1 ?_)
  exact rtC
 have b2 : decide ((500 : Int) < a.zones.length) = false := decide_eq_false (by omega)
 rw [if_neg h2]
 cases fi with
 | some i =>
  dsimp only at hix ⊢
  rw [Nat.zero_add] at hix
  have b3 : decide ((0 : Int) ≤ (i : Int)) = true := decide_eq_true (by omega)
  repeat (first | (apply RL_pu; rfl; (first | exact PuAccA2 | (apply Pu_geqB; rfl; rfl; exact b3))) | (refine js ?_; (first | (refine callE hix ?_) | (refine bx ?_; intro bk))) | refine walk1 ?_)
  exact rtC
 | none =>
  dsimp only at hix ⊢
  by_cases h3 : 1000 < a.links.length
  ·have b3 : decide ((1000 : Int) < a.links.length) = true := decide_eq_true (by omega)
   rw [if_pos h3]
   repeat (first | (apply RL_pu; rfl; exact PuAccA4) | (refine js ?_; (first | (refine callE hix ?_) | (refine bx ?_; intro bk))) | refine walk1 ?_)
   exact rtC
  have b3 : decide ((1000 : Int) < a.links.length) = false := decide_eq_false (by omega)
  rw [if_neg h3]
  by_cases h4 : 2000 < a.shifts.length
  ·have b4 : decide ((2000 : Int) < a.shifts.length) = true := decide_eq_true (by omega)
   rw [if_pos h4]
   repeat (first | (apply RL_pu; rfl; exact PuAccA5) | (refine js ?_; (first | (refine callE hix ?_) | (refine bx ?_; intro bk))) | refine walk1 ?_)
   exact rtC
  have b4 : decide ((2000 : Int) < a.shifts.length) = false := decide_eq_false (by omega)
  rw [if_neg h4]
  repeat (first | (apply RL_pu; rfl; exact PuAccA5) | (refine js ?_; (first | (refine callE hix ?_) | (refine bx ?_; intro bk))) | refine walk1 ?_)
  exact rtC
theorem lnames_spec (Ar Az Al As : Option Addr) (cr cz cl cs : Nat) (a : DSource) (w : World) (hA : RdSource w Ar Az Al As cr cz cl cs a) (hS : SrcOk a) :
  Does Tryz.prog 45 [srcV Ar Az Al As cr cz cl cs a] w (fun v O => v = ptV (linksD a) ∧ O = []) := by
 have h := fun w' (hw : Bel w.heap.size w w') => links_spec Ar Az Al As cr cz cl cs a w' (hA.up hw) hS
 refine Does_of_W Tryz.func45 rfl rfl rfl rfl ?_
 generalize linksD a = o at *
 cases o with
 | none =>
  simp only [ptV, plV, DPlace.enc] at h ⊢
  repeat (first | (refine js ?_; (first | (refine callE h ?_) | (refine bx ?_; intro bk))) | refine walk ?_)
  exact rtC
 | some pe =>
  obtain ⟨⟨p1, p2, p3⟩, e⟩ := pe
  simp only [ptV, plV, DPlace.enc] at h ⊢
  repeat (first | (refine js ?_; (first | (refine callE h ?_) | (refine bx ?_; intro bk))) | refine walk ?_)
  exact rtC
structure RlG where
 k : Nat
 i : Nat
theorem ruleAt_cons (x : ByteArray) (r : DRule) (l : List DRule) (i k : Nat) : ruleAt x (r :: l) i k = if r.name = x then (match i with | 0 => ⟨1, k, 0⟩ | i + 1 => ruleAt x l i (k + 1)) else ruleAt x l i (k + 1) := by cases i <;> rfl
theorem ruleAt_nil (x : ByteArray) (i k : Nat) : ruleAt x [] i k = ⟨0, 0, 0⟩ := by cases i <;> rfl
theorem PuAccB0 {G : Prop} (h : G := by (first | exact PuI | (apply Pu_neqSB; rfl; rfl; exact hb))) : G := h
theorem rule_spec (Ar Az Al As : Option Addr) (cr cz cl cs : Nat) (a : DSource) (x : ByteArray) (i : Nat) (w : World) (hA : RdSource w Ar Az Al As cr cz cl cs a) (hn : a.rules.length ≤ 1000000) (hi : i ≤ 1000000) :
  Does Tryz.prog 85 [srcV Ar Az Al As cr cz cl cs a, .string x, .int .i64 i] w (fun v O => v = plV (ruleAt x a.rules i 0) ∧ O = []) := by
 obtain ⟨res, hres⟩ : ∃ res, ruleAt x a.rules i 0 = res := ⟨_, rfl⟩
 rw [hres]
 refine Does_of_W Tryz.func85 rfl rfl rfl rfl ?_
 repeat (first | (refine js ?_; (refine bx ?_; intro bk)) | refine walk ?_)
 obtain ⟨b6, hb6⟩ : ∃ b6, bk = b6 := ⟨_, rfl⟩
 rw [hb6]
 clear hb6 bk
 refine W_loopF [(1, .string x), (6, .pointer (some ⟨b6, 0, none⟩)), (11, .slice Ar a.rules.length cr), (12, .int .i64 a.rules.length)] [.blk b6 [.int .i64 0, .int .i64 0, .int .i64 0] 54] (fun g : RlG => [(2, .int .i64 g.i), (13, .int .i64 g.k)]) (fun _ => []) (fun g => g.k ≤ a.rules.length ∧ g.i ≤ 1000000 ∧ ruleAt x (a.rules.drop g.k) g.i g.k = res) (fun g => a.rules.length - g.k) ⟨0, i⟩ SFA SOA ⟨Nat.zero_le _, hi, hres⟩ ?_
 clear hi hres
 rintro ⟨k, i⟩ ⟨hk, hi6, hi⟩
 dsimp only at hk hi6 hi ⊢
 repeat (first | (refine js ?_; (refine bx ?_; intro bk)) | refine walk ?_)
 refine W_cond rfl (fun hc => ?_) (fun hc => ?_)
 ·simp only [decide_eq_true_eq, Int.ofNat_lt] at hc
  obtain ⟨hna, hca⟩ := hA.r.rd k _ (List.getElem?_eq_getElem hc)
  rw [drop_cons hc, ruleAt_cons] at hi
  generalize a.rules[k] = r at *
  by_cases hx : r.name = x
  ·have hb : (!decide (r.name = x)) = false := by rw [decide_eq_true hx]; rfl
   rw [if_pos hx] at hi
   cases i with
   | zero =>
    dsimp only at hi
    subst hi
    repeat (first | (apply RL_pu; rfl; exact PuAccB0) | (refine js ?_; (refine bx ?_; intro bk)) | refine walk1 ?_)
    exact ret_1 _ [] (.cellB rfl (by repeat' constructor) rfl rfl) .nil ⟨rfl, rfl⟩
   | succ i =>
    dsimp only at hi
    have hb2 : decide (((i + 1 : Nat) : Int) = 0) = false := decide_eq_false (by omega)
    repeat (first | (apply RL_pu; rfl; (first | exact PuAccB0 | (apply Pu_eqlB; rfl; rfl; exact hb2))) | (refine js ?_; (refine bx ?_; intro bk)) | refine walk1 ?_)
    rw [show ((i + 1 : Nat) : Int) - 1 = (i : Int) by omega]
    exact ⟨⟨k + 1, i⟩, OA, ⟨OA, OA, hi⟩, SFA, SOA⟩
  ·have hb : (!decide (r.name = x)) = true := by rw [decide_eq_false hx]; rfl
   rw [if_neg hx] at hi
   repeat (first | (apply RL_pu; rfl; exact PuAccB0) | (refine js ?_; (refine bx ?_; intro bk)) | refine walk1 ?_)
   exact ⟨⟨k + 1, i⟩, OA, ⟨OA, OA, hi⟩, SFA, SOA⟩
 ·simp only [decide_eq_false_iff_not, Int.ofNat_lt] at hc
  rw [List.drop_eq_nil_of_le (by omega), ruleAt_nil] at hi
  subst hi
  repeat (first | (refine js ?_; (refine bx ?_; intro bk)) | refine walk ?_)
  exact ret_1 _ [] (.cellB rfl (by repeat' constructor) rfl rfl) .nil ⟨rfl, rfl⟩
theorem namesB_mem : ∀ (l : List DRule) (acc : List ByteArray) (x : ByteArray), x ∈ namesB l acc → x ∈ acc ∨ ∃ r ∈ l, r.name = x
 | [], acc, x, h => .inl h
 | r :: l, acc, x, h => by
  rw [namesB] at h
  split at h
  ·rcases namesB_mem l acc x h with h | ⟨q, hq, e⟩
   ·exact .inl h
   ·exact .inr ⟨q, List.mem_cons_of_mem _ hq, e⟩
  ·rcases namesB_mem l _ x h with h | ⟨q, hq, e⟩
   ·rcases List.mem_append.1 h with h | h
    ·exact .inl h
    ·simp only [List.mem_singleton] at h; exact .inr ⟨r, List.mem_cons_self, h.symm⟩
   ·exact .inr ⟨q, List.mem_cons_of_mem _ hq, e⟩
theorem namesB_len : ∀ (l : List DRule) (acc : List ByteArray), (namesB l acc).length ≤ acc.length + l.length
 | [], acc => Nat.le_refl _
 | r :: l, acc => by
  rw [namesB]
  split
  ·have := namesB_len l acc; simp only [List.length_cons]; omega
  ·have := namesB_len l (acc ++ [r.name]); simp only [List.length_append, List.length_cons, List.length_nil] at this ⊢; omega
theorem closeA_mem : ∀ (l : List DEvent) (e : DEvent), closeA l = some e → e ∈ l
 | [], _, h => by cases h
 | [_], _, h => by cases h
 | a :: b :: l, e, h => by
  rw [closeA] at h
  split at h
  ·simp only [Option.some.injEq] at h; subst h; exact List.mem_cons_of_mem _ List.mem_cons_self
  ·exact List.mem_cons_of_mem _ (closeA_mem (b :: l) e h)
theorem yearC_rule (least y : Int) : ∀ (l : List DRule) (i : Nat), ∀ e ∈ yearC least y l i, ∃ j : Nat, e.rule = j ∧ j < i + l.length
 | [], _ => fun e h => by cases h
 | r :: l, i => fun e he => by
  rw [yearC] at he
  rcases List.mem_append.1 he with h | h
  ·have : onR least r i y = some e := by
    cases ho : onR least r i y with
    | none => rw [ho] at h; cases h
    | some x => rw [ho] at h; simp only [Option.toList, List.mem_singleton] at h; rw [h]
   unfold onR at this
   split at this
   ·cases this
   ·split at this
    ·cases this
    ·simp only [Option.some.injEq] at this
     subst this
     exact ⟨i, rfl, by simp⟩
  ·obtain ⟨j, h1, h2⟩ := yearC_rule least y l (i + 1) e h
   exact ⟨j, h1, by simp only [List.length_cons]; omega⟩
theorem allC_rule (l : List DRule) (least from_ : Int) : ∀ k, ∀ e ∈ allC l least from_ k, ∃ j : Nat, e.rule = j ∧ j < l.length
 | 0 => fun e h => by cases h
 | k + 1 => fun e he => by
  rw [allC] at he
  rcases List.mem_append.1 he with h | h
  ·exact allC_rule l least from_ k e h
  ·have := yearC_rule _ _ _ _ e h
   simpa using this
theorem apartD_rule (l : List DRule) (e : DEvent) (h : apartD l = some e) : ∃ j : Nat, e.rule = j ∧ j < l.length := by
 rw [← apartD_eq] at h
 exact allC_rule _ _ _ _ e (List.mem_mergeSort.1 (closeA_mem _ _ h))
def SavOk (s : DSource) : Prop := ∀ r ∈ s.rules, (-4611686018427387904 ≤ r.save ∧ r.save ≤ 4611686018427387904) ∧ r.from_ ≤ 4611686018427387904
theorem ofB_sub {l : List DRule} {x : ByteArray} {r : DRule} (h : r ∈ ofB l x) : r ∈ l := (List.mem_filter.1 h).1
def SavI (s : DSource) : Prop := ∀ r ∈ s.rules, -9223372036854775808 ≤ r.save ∧ r.save ≤ 9223372036854775807
theorem firstBad_none (least : Int) : ∀ (l : List DRule) (k : Nat), firstBad least l k = none → ∀ r ∈ l, ruleErr r least = 0
 | [], _, _, _, h => by cases h
 | x :: l, k, h, r, hr => by
  rw [firstBad] at h
  by_cases h0 : ruleErr x least = 0
  ·rw [if_pos h0] at h
   rcases List.mem_cons.1 hr with rfl | hr
   ·exact h0
   ·exact firstBad_none least l (k + 1) h r hr
  ·rw [if_neg h0] at h
   cases h
theorem ruleErr_0 {r : DRule} {least : Int} (h : ruleErr r least = 0) : (-4611686018427387904 ≤ r.save ∧ r.save ≤ 4611686018427387904) ∧ r.from_ ≤ 4611686018427387904 := by
 unfold ruleErr at h
 split at h
 ·cases h
 ·rename_i h1
  split at h
  ·cases h
  ·split at h
   ·cases h
   ·split at h
    ·cases h
    ·split at h
     ·cases h
     ·rename_i h2
      have e2 : (decide (-10800 ≤ r.save) && decide (r.save ≤ 10800)) = true := by
       cases hh : (decide (-10800 ≤ r.save) && decide (r.save ≤ 10800)) with
       | true => rfl
       | false => exact absurd hh h2
      have e1 : namedY r.from_ = true := by
       cases hh : namedY r.from_ with
       | true => rfl
       | false => rw [hh] at h1; exact absurd rfl h1
      unfold namedY at e1
      simp only [Bool.and_eq_true, decide_eq_true_eq] at e1 e2
      omega
theorem rsChk_sav {l : List DRule} (h : (rsChk l).2 = 0) : ∀ r ∈ l, (-4611686018427387904 ≤ r.save ∧ r.save ≤ 4611686018427387904) ∧ r.from_ ≤ 4611686018427387904 := by
 intro r hr
 unfold rsChk at h
 cases hf : firstBad (leastD l) l 0 with
 | none => exact ruleErr_0 (firstBad_none _ l 0 hf r hr)
 | some x =>
  rw [hf] at h
  exfalso
  have : ∀ (l : List DRule) (k : Nat) (x : Nat × Int) (m : Int), firstBad m l k = some x → x.2 ≠ 0 := fun l => by
   induction l with
   | nil => intro k x m h; cases h
   | cons y l ih =>
    intro k x m h
    rw [firstBad] at h
    split at h
    ·exact ih _ _ _ h
    ·rename_i h0
     simp only [Option.some.injEq] at h
     rw [← h]
     exact h0
  exact this _ _ _ _ hf h
theorem namesB_every : ∀ (l : List DRule) (acc : List ByteArray), (∀ x ∈ acc, x ∈ namesB l acc) ∧ ∀ r ∈ l, r.name ∈ namesB l acc
 | [], acc => ⟨fun _ h => h, fun _ h => by cases h⟩
 | y :: l, acc => by
  rw [namesB]
  by_cases hm : memB y.name acc = true
  ·rw [if_pos hm]
   have ih := namesB_every l acc
   refine ⟨ih.1, fun r hr => ?_⟩
   rcases List.mem_cons.1 hr with rfl | hr
   ·refine ih.1 _ ?_
    have : ∀ (l : List ByteArray) (x : ByteArray), memB x l = true → x ∈ l := fun l => by
     induction l with
     | nil => intro x h; cases h
     | cons z l ih2 =>
      intro x h
      rw [memB, Bool.or_eq_true, decide_eq_true_eq] at h
      rcases h with rfl | h
      ·exact List.mem_cons_self
      ·exact List.mem_cons_of_mem _ (ih2 x h)
    exact this _ _ hm
   ·exact ih.2 r hr
  ·rw [if_neg hm]
   have ih := namesB_every l (acc ++ [y.name])
   refine ⟨fun x hx => ih.1 x (List.mem_append_left _ hx), fun r hr => ?_⟩
   rcases List.mem_cons.1 hr with rfl | hr
   ·exact ih.1 _ (List.mem_append_right _ (List.mem_singleton.2 rfl))
   ·exact ih.2 r hr
theorem setsGo_none (rs : List DRule) : ∀ l : List ByteArray, setsGo rs l = none → ∀ x ∈ l, (rsChk (ofB rs x)).2 = 0
 | [], _, _, h => by cases h
 | y :: l, h, x, hx => by
  rw [setsGo] at h
  cases hf : setFault rs y with
  | some z => rw [hf] at h; cases h
  | none =>
   rw [hf] at h
   rcases List.mem_cons.1 hx with rfl | hx
   ·unfold setFault at hf
    split at hf
    ·cases hf
    ·split at hf
     ·cases hf
     ·rename_i h2
      exact Decidable.of_not_not h2
   ·exact setsGo_none rs l h x hx
theorem setsD_sav {s : DSource} (h : setsD s = none) : SavOk s := fun r hr =>
 rsChk_sav (setsGo_none s.rules _ h r.name ((namesB_every s.rules []).2 r hr)) r (List.mem_filter.2 ⟨hr, decide_eq_true rfl⟩)
theorem ofB_len (l : List DRule) (x : ByteArray) : (ofB l x).length ≤ l.length := List.length_filter_le _ _
theorem firstBad_ok (least : Int) : ∀ (l : List DRule) (i : Nat) (j : Nat) (e : Int), firstBad least l i = some (j, e) → j < i + l.length
 | [], _, _, _, h => by cases h
 | r :: l, i, j, e, h => by
  rw [firstBad] at h
  split at h
  ·have := firstBad_ok least l (i + 1) j e h; simp only [List.length_cons]; omega
  ·simp only [Option.some.injEq, Prod.mk.injEq] at h; simp only [List.length_cons]; omega
end Go.Proofs.YtbjkhnlnedfceaaGreatDoor
