/- Contracts: accept.looker.sizes, rule, names. Contracts: accept.looker.rule, sets. Contract: accept.looker.sets. Contract: accept.looker.shifts. Contracts: accept.hours, unused, looker.set, states, era$1. -/
import Derived.Test.YtonjepladadmhaaGreatDoorS29
import Derived.Test.YtonjepladadmhaaGreatDoorS30
import Derived.Test.YtonjepladadmhaaGreatDoorS19
import Derived.Test.YtonjepladadmhaaGreatDoorS13
import Derived.Test.YtonjepladadmhaaGreatDoorS12
import Derived.Test.YtonjepladadmhaaGreatDoorS11
import Derived.Test.YtonjepladadmhaaGreatDoorS08
set_option maxHeartbeats 4000000
set_option linter.unusedVariables false
set_option linter.unusedSimpArgs false
namespace Go.Proofs.YtonjepladadmhaaGreatDoor
open Go Go.RowKit Go.Wk
attribute [local irreducible] W RL Does thenQ blockQ retQ Calls Pu Stp RD Qy Ay DoesIn
def manyE (z : DZone) : Bool := decide (60 < z.eras.length)
theorem findI_idx {α : Type} (p : α → Bool) : ∀ (l : List α) (k : Nat), findI p l k = match l.findIdx? p with | some i => ((k + i : Nat) : Int) | none => -1
 | [], _ => rfl
 | x :: l, k => by
  rw [findI, List.findIdx?_cons]
  by_cases h : p x = true
  ·rw [if_pos h, if_pos h]; rfl
  ·rw [if_neg h, if_neg h, findI_idx p l (k + 1)]
   cases l.findIdx? p with
   | none => rfl
   | some i => simp only [Option.map_some]; congr 1; omega
theorem sizes1_spec (n : ByteArray) (A : Option Addr) (m c : Nat) (w : World) : Does Tryz.prog 104 [.agg #[.string n, .slice A m c]] w (fun v O => v = .bool (decide (60 < m)) ∧ O = []) := by
 have hb : decide ((60 : Int) < (m : Int)) = decide (60 < m) := by rw [decide_eq_decide]; omega
 refine Does_of_W Tryz.func104 rfl rfl rfl rfl ?_
 repeat (first | (apply RL_pu; rfl; (apply Pu_gtrB; rfl; rfl; exact hb)) | (refine js ?_; (refine bx ?_; intro bk)) | refine walk1 ?_)
 exact rtA
theorem indexZ_spec (Ar Az Al As : Option Addr) (cr cz cl cs : Nat) (a : DSource) (w : World) (hA : RdSource w Ar Az Al As cr cz cl cs a) (hn : a.zones.length ≤ 1000000) :
  Does Tryz.prog 103 [.slice Az a.zones.length cz, .func (.func 104) #[] #[]] w (fun v O => v = .int .i64 (findI manyE a.zones 0) ∧ O = []) := by
 obtain ⟨res, hres⟩ : ∃ res, findI manyE a.zones 0 = res := ⟨_, rfl⟩
 rw [hres]
 refine Does_of_W Tryz.func103 rfl rfl rfl rfl ?_
 repeat (first | refine walk ?_)
 refine W_loopF [(0, .slice Az a.zones.length cz), (1, .func (.func 104) #[] #[]), (7, .int .i64 a.zones.length)] [] (fun k : Nat => [(8, .int .i64 k)]) (fun _ => []) (fun k => k ≤ a.zones.length ∧ findI manyE (a.zones.drop k) k = res) (fun k => a.zones.length - k) 0 SFA .nil ⟨Nat.zero_le _, hres⟩ ?_
 rintro k ⟨hk, hi⟩
 repeat (first | refine walk ?_)
 refine W_cond rfl (fun hc => ?_) (fun hc => ?_)
 ·simp only [decide_eq_true_eq, Int.ofNat_lt] at hc
  obtain ⟨hna, cs1, ⟨Ae, ce, _, rfl⟩, hca⟩ := hA.z k _ (List.getElem?_eq_getElem hc)
  rw [drop_cons hc, findI] at hi
  generalize a.zones[k] = z at *
  have h1 : ∀ w', Does Tryz.prog 104 ([] ++ [.agg #[.string z.name, .slice Ae z.eras.length ce]] ++ []) w' (fun v O => v = .bool (decide (60 < z.eras.length)) ∧ O = []) := fun w' => sizes1_spec z.name Ae z.eras.length ce w'
  rw [show decide (60 < z.eras.length) = manyE z from rfl] at h1
  generalize manyE z = mb at *
  cases mb with
  | true =>
   rw [if_pos rfl] at hi
   subst hi
   repeat (first | (apply RL_pu; rfl; exact PuI) | (refine js ?_; (refine callV (fun w' hw _ => h1 w') ?_)) | refine walk1 ?_)
   exact rtA
  | false =>
   rw [if_neg (by decide)] at hi
   repeat (first | (apply RL_pu; rfl; exact PuI) | (refine js ?_; (refine callV (fun w' hw _ => h1 w') ?_)) | refine walk1 ?_)
   exact ⟨k + 1, OA, ⟨OA, hi⟩, SFA, .nil⟩
 ·simp only [decide_eq_false_iff_not, Int.ofNat_lt] at hc
  rw [List.drop_eq_nil_of_le (by omega), findI] at hi
  subst hi
  repeat (first | refine walk ?_)
  exact rtA
theorem PuAccA1 {G : Prop} (h : G := by (apply Pu_gtrB; rfl; rfl; exact b1)) : G := h
theorem PuAccA2 {G : Prop} (h : G := by (first | exact PuAccA1 | (apply Pu_gtrB; rfl; rfl; exact b2))) : G := h
theorem PuAccA4 {G : Prop} (h : G := by (first | exact PuAccA2 | (apply Pu_gtrB; rfl; rfl; exact b3))) : G := h
theorem PuAccA5 {G : Prop} (h : G := by (first | exact PuAccA4 | (apply Pu_gtrB; rfl; rfl; exact b4))) : G := h
theorem sizes_spec (Ar Az Al As : Option Addr) (cr cz cl cs : Nat) (a : DSource) (w : World) (hA : RdSource w Ar Az Al As cr cz cl cs a) (hn : a.zones.length ≤ 1000000) :
  Does Tryz.prog 54 [srcV Ar Az Al As cr cz cl cs a] w (fun v O => v = ptV (sizesD a) ∧ O = []) := by
 have hix := fun w' (hw : Bel w.heap.size w w') => indexZ_spec Ar Az Al As cr cz cl cs a w' (hA.up hw) hn
 rw [findI_idx] at hix
 unfold sizesD
 rw [show (fun z : DZone => decide (60 < z.eras.length)) = manyE from rfl]
 generalize a.zones.findIdx? manyE = fi at *
 refine Does_of_W Tryz.func54 rfl rfl rfl rfl ?_
 by_cases h1 : 2000 < a.rules.length
 ·have b1 : decide ((2000 : Int) < a.rules.length) = true := decide_eq_true (by omega)
  rw [if_pos h1]
  repeat (first | (apply RL_pu; rfl; exact PuAccA1) | (refine js ?_; (refine bx ?_; intro bk)) | refine walk1 ?_)
  exact rtC
 have b1 : decide ((2000 : Int) < a.rules.length) = false := decide_eq_false (by omega)
 rw [if_neg h1]
 by_cases h2 : 500 < a.zones.length
 ·have b2 : decide ((500 : Int) < a.zones.length) = true := decide_eq_true (by omega)
  rw [if_pos h2]
  repeat (first | (apply RL_pu; rfl; exact PuAccA2) | (refine js ?_; (refine bx ?_; intro bk)) | refine walk1 ?_)
  exact rtC
 have b2 : decide ((500 : Int) < a.zones.length) = false := decide_eq_false (by omega)
 rw [if_neg h2]
 cases fi with
 | some i =>
  dsimp only at hix ⊢
  rw [Nat.zero_add] at hix
  have b3 : decide ((0 : Int) ≤ (i : Int)) = true := decide_eq_true (by omega)
  repeat (first | (apply RL_pu; rfl; (first | exact PuAccA2 | (apply Pu_geqB; rfl; rfl; exact b3))) | (refine js ?_; (first | (refine callE hix ?_) | (refine bx ?_; intro bk))) | refine walk1 ?_)
  exact rtC
 | none =>
  dsimp only at hix ⊢
  by_cases h3 : 1000 < a.links.length
  ·have b3 : decide ((1000 : Int) < a.links.length) = true := decide_eq_true (by omega)
   rw [if_pos h3]
   repeat (first | (apply RL_pu; rfl; exact PuAccA4) | (refine js ?_; (first | (refine callE hix ?_) | (refine bx ?_; intro bk))) | refine walk1 ?_)
   exact rtC
  have b3 : decide ((1000 : Int) < a.links.length) = false := decide_eq_false (by omega)
  rw [if_neg h3]
  by_cases h4 : 2000 < a.shifts.length
  ·have b4 : decide ((2000 : Int) < a.shifts.length) = true := decide_eq_true (by omega)
   rw [if_pos h4]
   repeat (first | (apply RL_pu; rfl; exact PuAccA5) | (refine js ?_; (first | (refine callE hix ?_) | (refine bx ?_; intro bk))) | refine walk1 ?_)
   exact rtC
  have b4 : decide ((2000 : Int) < a.shifts.length) = false := decide_eq_false (by omega)
  rw [if_neg h4]
  repeat (first | (apply RL_pu; rfl; exact PuAccA5) | (refine js ?_; (first | (refine callE hix ?_) | (refine bx ?_; intro bk))) | refine walk1 ?_)
  exact rtC
theorem lnames_spec (Ar Az Al As : Option Addr) (cr cz cl cs : Nat) (a : DSource) (w : World) (hA : RdSource w Ar Az Al As cr cz cl cs a) (hS : SrcOk a) :
  Does Tryz.prog 57 [srcV Ar Az Al As cr cz cl cs a] w (fun v O => v = ptV (linksD a) ∧ O = []) := by
 have h := fun w' (hw : Bel w.heap.size w w') => links_spec Ar Az Al As cr cz cl cs a w' (hA.up hw) hS
 refine Does_of_W Tryz.func57 rfl rfl rfl rfl ?_
 generalize linksD a = o at *
 cases o with
 | none =>
  simp only [ptV, plV, DPlace.enc] at h ⊢
  repeat (first | (refine js ?_; (first | (refine callE h ?_) | (refine bx ?_; intro bk))) | refine walk ?_)
  exact rtC
 | some pe =>
  obtain ⟨⟨p1, p2, p3⟩, e⟩ := pe
  simp only [ptV, plV, DPlace.enc] at h ⊢
  repeat (first | (refine js ?_; (first | (refine callE h ?_) | (refine bx ?_; intro bk))) | refine walk ?_)
  exact rtC
structure RlG where
 k : Nat
 i : Nat
theorem ruleAt_cons (x : ByteArray) (r : DRule) (l : List DRule) (i k : Nat) : ruleAt x (r :: l) i k = if r.name = x then (match i with | 0 => ⟨1, k, 0⟩ | i + 1 => ruleAt x l i (k + 1)) else ruleAt x l i (k + 1) := by cases i <;> rfl
theorem ruleAt_nil (x : ByteArray) (i k : Nat) : ruleAt x [] i k = ⟨0, 0, 0⟩ := by cases i <;> rfl
theorem PuAccB0 {G : Prop} (h : G := by (first | exact PuI | (apply Pu_neqSB; rfl; rfl; exact hb))) : G := h
theorem rule_spec (Ar Az Al As : Option Addr) (cr cz cl cs : Nat) (a : DSource) (x : ByteArray) (i : Nat) (w : World) (hA : RdSource w Ar Az Al As cr cz cl cs a) (hn : a.rules.length ≤ 1000000) (hi : i ≤ 1000000) :
  Does Tryz.prog 109 [srcV Ar Az Al As cr cz cl cs a, .string x, .int .i64 i] w (fun v O => v = plV (ruleAt x a.rules i 0) ∧ O = []) := by
 obtain ⟨res, hres⟩ : ∃ res, ruleAt x a.rules i 0 = res := ⟨_, rfl⟩
 rw [hres]
 refine Does_of_W Tryz.func109 rfl rfl rfl rfl ?_
 repeat (first | (refine js ?_; (refine bx ?_; intro bk)) | refine walk ?_)
 obtain ⟨b6, hb6⟩ : ∃ b6, bk = b6 := ⟨_, rfl⟩
 rw [hb6]
 clear hb6 bk
 refine W_loopF [(1, .string x), (6, .pointer (some ⟨b6, 0, none⟩)), (11, .slice Ar a.rules.length cr), (12, .int .i64 a.rules.length)] [.blk b6 [.int .i64 0, .int .i64 0, .int .i64 0] 65] (fun g : RlG => [(2, .int .i64 g.i), (13, .int .i64 g.k)]) (fun _ => []) (fun g => g.k ≤ a.rules.length ∧ g.i ≤ 1000000 ∧ ruleAt x (a.rules.drop g.k) g.i g.k = res) (fun g => a.rules.length - g.k) ⟨0, i⟩ SFA SOA ⟨Nat.zero_le _, hi, hres⟩ ?_
 clear hi hres
 rintro ⟨k, i⟩ ⟨hk, hi6, hi⟩
 dsimp only at hk hi6 hi ⊢
 repeat (first | (refine js ?_; (refine bx ?_; intro bk)) | refine walk ?_)
 refine W_cond rfl (fun hc => ?_) (fun hc => ?_)
 ·simp only [decide_eq_true_eq, Int.ofNat_lt] at hc
  obtain ⟨hna, hca⟩ := hA.r.rd k _ (List.getElem?_eq_getElem hc)
  rw [drop_cons hc, ruleAt_cons] at hi
  generalize a.rules[k] = r at *
  by_cases hx : r.name = x
  ·have hb : (!decide (r.name = x)) = false := by rw [decide_eq_true hx]; rfl
   rw [if_pos hx] at hi
   cases i with
   | zero =>
    dsimp only at hi
    subst hi
    repeat (first | (apply RL_pu; rfl; exact PuAccB0) | (refine js ?_; (refine bx ?_; intro bk)) | refine walk1 ?_)
    exact ret_1 _ [] (.cellB rfl (by repeat' constructor) rfl rfl) .nil ⟨rfl, rfl⟩
   | succ i =>
    dsimp only at hi
    have hb2 : decide (((i + 1 : Nat) : Int) = 0) = false := decide_eq_false (by omega)
    repeat (first | (apply RL_pu; rfl; (first | exact PuAccB0 | (apply Pu_eqlB; rfl; rfl; exact hb2))) | (refine js ?_; (refine bx ?_; intro bk)) | refine walk1 ?_)
    rw [show ((i + 1 : Nat) : Int) - 1 = (i : Int) by omega]
    exact ⟨⟨k + 1, i⟩, OA, ⟨OA, OA, hi⟩, SFA, SOA⟩
  ·have hb : (!decide (r.name = x)) = true := by rw [decide_eq_false hx]; rfl
   rw [if_neg hx] at hi
   repeat (first | (apply RL_pu; rfl; exact PuAccB0) | (refine js ?_; (refine bx ?_; intro bk)) | refine walk1 ?_)
   exact ⟨⟨k + 1, i⟩, OA, ⟨OA, OA, hi⟩, SFA, SOA⟩
 ·simp only [decide_eq_false_iff_not, Int.ofNat_lt] at hc
  rw [List.drop_eq_nil_of_le (by omega), ruleAt_nil] at hi
  subst hi
  repeat (first | (refine js ?_; (refine bx ?_; intro bk)) | refine walk ?_)
  exact ret_1 _ [] (.cellB rfl (by repeat' constructor) rfl rfl) .nil ⟨rfl, rfl⟩
theorem namesB_mem : ∀ (l : List DRule) (acc : List ByteArray) (x : ByteArray), x ∈ namesB l acc → x ∈ acc ∨ ∃ r ∈ l, r.name = x
 | [], acc, x, h => .inl h
 | r :: l, acc, x, h => by
  rw [namesB] at h
  split at h
  ·rcases namesB_mem l acc x h with h | ⟨q, hq, e⟩
   ·exact .inl h
   ·exact .inr ⟨q, List.mem_cons_of_mem _ hq, e⟩
  ·rcases namesB_mem l _ x h with h | ⟨q, hq, e⟩
   ·rcases List.mem_append.1 h with h | h
    ·exact .inl h
    ·simp only [List.mem_singleton] at h; exact .inr ⟨r, List.mem_cons_self, h.symm⟩
   ·exact .inr ⟨q, List.mem_cons_of_mem _ hq, e⟩
theorem namesB_len : ∀ (l : List DRule) (acc : List ByteArray), (namesB l acc).length ≤ acc.length + l.length
 | [], acc => Nat.le_refl _
 | r :: l, acc => by
  rw [namesB]
  split
  ·have := namesB_len l acc; simp only [List.length_cons]; omega
  ·have := namesB_len l (acc ++ [r.name]); simp only [List.length_append, List.length_cons, List.length_nil] at this ⊢; omega
theorem closeA_mem : ∀ (l : List DEvent) (e : DEvent), closeA l = some e → e ∈ l
 | [], _, h => by cases h
 | [_], _, h => by cases h
 | a :: b :: l, e, h => by
  rw [closeA] at h
  split at h
  ·simp only [Option.some.injEq] at h; subst h; exact List.mem_cons_of_mem _ List.mem_cons_self
  ·exact List.mem_cons_of_mem _ (closeA_mem (b :: l) e h)
theorem yearC_rule (least y : Int) : ∀ (l : List DRule) (i : Nat), ∀ e ∈ yearC least y l i, ∃ j : Nat, e.rule = j ∧ j < i + l.length
 | [], _ => fun e h => by cases h
 | r :: l, i => fun e he => by
  rw [yearC] at he
  rcases List.mem_append.1 he with h | h
  ·have : onR least r i y = some e := by
    cases ho : onR least r i y with
    | none => rw [ho] at h; cases h
    | some x => rw [ho] at h; simp only [Option.toList, List.mem_singleton] at h; rw [h]
   unfold onR at this
   split at this
   ·cases this
   ·split at this
    ·cases this
    ·simp only [Option.some.injEq] at this
     subst this
     exact ⟨i, rfl, by simp⟩
  ·obtain ⟨j, h1, h2⟩ := yearC_rule least y l (i + 1) e h
   exact ⟨j, h1, by simp only [List.length_cons]; omega⟩
theorem allC_rule (l : List DRule) (least from_ : Int) : ∀ k, ∀ e ∈ allC l least from_ k, ∃ j : Nat, e.rule = j ∧ j < l.length
 | 0 => fun e h => by cases h
 | k + 1 => fun e he => by
  rw [allC] at he
  rcases List.mem_append.1 he with h | h
  ·exact allC_rule l least from_ k e h
  ·have := yearC_rule _ _ _ _ e h
   simpa using this
theorem apartD_rule (l : List DRule) (e : DEvent) (h : apartD l = some e) : ∃ j : Nat, e.rule = j ∧ j < l.length := by
 rw [← apartD_eq] at h
 exact allC_rule _ _ _ _ e (List.mem_mergeSort.1 (closeA_mem _ _ h))
def SavOk (s : DSource) : Prop := ∀ r ∈ s.rules, (-4611686018427387904 ≤ r.save ∧ r.save ≤ 4611686018427387904) ∧ r.from_ ≤ 4611686018427387904
theorem ofB_sub {l : List DRule} {x : ByteArray} {r : DRule} (h : r ∈ ofB l x) : r ∈ l := (List.mem_filter.1 h).1
def SavI (s : DSource) : Prop := ∀ r ∈ s.rules, -9223372036854775808 ≤ r.save ∧ r.save ≤ 9223372036854775807
theorem firstBad_none (least : Int) : ∀ (l : List DRule) (k : Nat), firstBad least l k = none → ∀ r ∈ l, ruleErr r least = 0
 | [], _, _, _, h => by cases h
 | x :: l, k, h, r, hr => by
  rw [firstBad] at h
  by_cases h0 : ruleErr x least = 0
  ·rw [if_pos h0] at h
   rcases List.mem_cons.1 hr with rfl | hr
   ·exact h0
   ·exact firstBad_none least l (k + 1) h r hr
  ·rw [if_neg h0] at h
   cases h
theorem ruleErr_0 {r : DRule} {least : Int} (h : ruleErr r least = 0) : (-4611686018427387904 ≤ r.save ∧ r.save ≤ 4611686018427387904) ∧ r.from_ ≤ 4611686018427387904 := by
 unfold ruleErr at h
 split at h
 ·cases h
 ·rename_i h1
  split at h
  ·cases h
  ·split at h
   ·cases h
   ·split at h
    ·cases h
    ·split at h
     ·cases h
     ·rename_i h2
      have e2 : (decide (-10800 ≤ r.save) && decide (r.save ≤ 10800)) = true := by
       cases hh : (decide (-10800 ≤ r.save) && decide (r.save ≤ 10800)) with
       | true => rfl
       | false => exact absurd hh h2
      have e1 : namedY r.from_ = true := by
       cases hh : namedY r.from_ with
       | true => rfl
       | false => rw [hh] at h1; exact absurd rfl h1
      unfold namedY at e1
      simp only [Bool.and_eq_true, decide_eq_true_eq] at e1 e2
      omega
theorem rsChk_sav {l : List DRule} (h : (rsChk l).2 = 0) : ∀ r ∈ l, (-4611686018427387904 ≤ r.save ∧ r.save ≤ 4611686018427387904) ∧ r.from_ ≤ 4611686018427387904 := by
 intro r hr
 unfold rsChk at h
 cases hf : firstBad (leastD l) l 0 with
 | none => exact ruleErr_0 (firstBad_none _ l 0 hf r hr)
 | some x =>
  rw [hf] at h
  exfalso
  have : ∀ (l : List DRule) (k : Nat) (x : Nat × Int) (m : Int), firstBad m l k = some x → x.2 ≠ 0 := fun l => by
   induction l with
   | nil => intro k x m h; cases h
   | cons y l ih =>
    intro k x m h
    rw [firstBad] at h
    split at h
    ·exact ih _ _ _ h
    ·rename_i h0
     simp only [Option.some.injEq] at h
     rw [← h]
     exact h0
  exact this _ _ _ _ hf h
theorem namesB_every : ∀ (l : List DRule) (acc : List ByteArray), (∀ x ∈ acc, x ∈ namesB l acc) ∧ ∀ r ∈ l, r.name ∈ namesB l acc
 | [], acc => ⟨fun _ h => h, fun _ h => by cases h⟩
 | y :: l, acc => by
  rw [namesB]
  by_cases hm : memB y.name acc = true
  ·rw [if_pos hm]
   have ih := namesB_every l acc
   refine ⟨ih.1, fun r hr => ?_⟩
   rcases List.mem_cons.1 hr with rfl | hr
   ·refine ih.1 _ ?_
    have : ∀ (l : List ByteArray) (x : ByteArray), memB x l = true → x ∈ l := fun l => by
     induction l with
     | nil => intro x h; cases h
     | cons z l ih2 =>
      intro x h
      rw [memB, Bool.or_eq_true, decide_eq_true_eq] at h
      rcases h with rfl | h
      ·exact List.mem_cons_self
      ·exact List.mem_cons_of_mem _ (ih2 x h)
    exact this _ _ hm
   ·exact ih.2 r hr
  ·rw [if_neg hm]
   have ih := namesB_every l (acc ++ [y.name])
   refine ⟨fun x hx => ih.1 x (List.mem_append_left _ hx), fun r hr => ?_⟩
   rcases List.mem_cons.1 hr with rfl | hr
   ·exact ih.1 _ (List.mem_append_right _ (List.mem_singleton.2 rfl))
   ·exact ih.2 r hr
theorem setsGo_none (rs : List DRule) : ∀ l : List ByteArray, setsGo rs l = none → ∀ x ∈ l, (rsChk (ofB rs x)).2 = 0
 | [], _, _, h => by cases h
 | y :: l, h, x, hx => by
  rw [setsGo] at h
  cases hf : setFault rs y with
  | some z => rw [hf] at h; cases h
  | none =>
   rw [hf] at h
   rcases List.mem_cons.1 hx with rfl | hx
   ·unfold setFault at hf
    split at hf
    ·cases hf
    ·split at hf
     ·cases hf
     ·rename_i h2
      exact Decidable.of_not_not h2
   ·exact setsGo_none rs l h x hx
theorem setsD_sav {s : DSource} (h : setsD s = none) : SavOk s := fun r hr =>
 rsChk_sav (setsGo_none s.rules _ h r.name ((namesB_every s.rules []).2 r hr)) r (List.mem_filter.2 ⟨hr, decide_eq_true rfl⟩)
theorem ofB_len (l : List DRule) (x : ByteArray) : (ofB l x).length ≤ l.length := List.length_filter_le _ _
theorem firstBad_ok (least : Int) : ∀ (l : List DRule) (i : Nat) (j : Nat) (e : Int), firstBad least l i = some (j, e) → j < i + l.length
 | [], _, _, _, h => by cases h
 | r :: l, i, j, e, h => by
  rw [firstBad] at h
  split at h
  ·have := firstBad_ok least l (i + 1) j e h; simp only [List.length_cons]; omega
  ·simp only [Option.some.injEq, Prod.mk.injEq] at h; simp only [List.length_cons]; omega
theorem rsChk_ok (l : List DRule) : (rsChk l).1 ≤ l.length := by
 unfold rsChk
 split
 ·rename_i x h
  obtain ⟨j, e⟩ := x
  have := firstBad_ok _ l 0 j e h
  simp only at this ⊢
  omega
 ·repeat' split
  all_goals exact Nat.zero_le _
theorem PuAccC0 {G : Prop} (h : G := by (first | (apply Pu_indexAddrH; rfl; rfl; omega; omega; (intro w' _ hO; exact (row_cell (hO.of (A := .row (.slice An N.length cn) 9 1 N.length (N.flatMap strEnc)) (by repeat' constructor)) hg1).1)) | (apply Pu_loadR; rfl; (focus repeat' constructor); exact hg1))) : G := h
theorem lsets_spec (Ar Az Al As : Option Addr) (cr cz cl cs : Nat) (a : DSource) (w : World) (hG : Glob w) (hA : RdSource w Ar Az Al As cr cz cl cs a) (hS : SrcOk a) (hV : SavI a) :
  Does Tryz.prog 55 [srcV Ar Az Al As cr cz cl cs a] w (fun v O => v = ptV (setsD a) ∧ O = []) := by
 have hn := hS.nr
 have hnm := fun w' (hw : Bel w.heap.size w w') => names_spec Ar Az Al As cr cz cl cs a w' (hA.up hw) hn
 have hNm := namesB_mem a.rules []
 have hNl := namesB_len a.rules []
 unfold setsD
 generalize namesB a.rules [] = N at *
 simp only [List.length_nil, Nat.zero_add] at hNl
 obtain ⟨res, hres⟩ : ∃ res, setsGo a.rules N = res := ⟨_, rfl⟩
 rw [hres]
 refine Does_of_W Tryz.func55 rfl rfl rfl rfl ?_
 repeat (first | (refine js ?_; (first | (apply Stp_call (h := fun w' hw _ => hnm w' hw); rfl; rintro v O' ⟨An, cn, rfl, rfl⟩) | (refine bx ?_; intro bk))) | refine walk ?_)
 rename_i b1
 obtain ⟨b2, hb2⟩ : ∃ b2, bk = b2 := ⟨_, rfl⟩
 rw [hb2]
 clear hb2 bk
 refine W_loopF [(1, .pointer (some ⟨b1, 0, none⟩)), (2, .pointer (some ⟨b2, 0, none⟩)), (12, .slice An N.length cn), (13, .int .i64 N.length)] [.row (.slice An N.length cn) 9 1 N.length (N.flatMap strEnc), .blk b2 [.int .i64 0, .int .i64 0, .int .i64 0] 65, .blk b1 [.slice Ar a.rules.length cr, .slice Az a.zones.length cz, .slice Al a.links.length cl, .slice As a.shifts.length cs] 137]
  (fun k : Nat => [(14, .int .i64 k)]) (fun _ => []) (fun k => k ≤ N.length ∧ setsGo a.rules (N.drop k) = res) (fun k => N.length - k) 0 SFA SOA ⟨Nat.zero_le _, hres⟩ ?_
 clear hnm hres
 rintro k ⟨hk, hi⟩
 repeat (first | (refine js ?_; (refine bx ?_; intro bk)) | refine walk ?_)
 refine W_cond rfl (fun hc => ?_) (fun hc => ?_)
 ·simp only [decide_eq_true_eq, Int.ofNat_lt] at hc
  have hg1 : (N.flatMap strEnc)[k * 1]? = some (.string N[k]) := by
   have := flat_get (enc := strEnc) (fun _ => rfl) N k _ 0 (.string N[k]) (List.getElem?_eq_getElem hc) rfl
   simpa using this
  have hxm := hNm _ (List.getElem_mem hc)
  rw [drop_cons hc, setsGo] at hi
  generalize N[k] = x at *
  have hxs : x.size ≤ 1000000000 := by
   rcases hxm with h | ⟨r, hr, rfl⟩
   ·cases h
   ·exact (hS.rs r hr).1
  have hof := fun w' (hw : Bel w.heap.size w w') => ofN_spec Ar Az Al As cr cz cl cs a x w' (hA.up hw) hn
  have hset := fun w' => set_spec x (by omega) w'
  have hRs : ∀ r ∈ ofB a.rules x, r ∈ a.rules := fun r h => ofB_sub h
  have hRl := ofB_len a.rules x
  have hck := fun A3 c3 w' (hw : Bel w.heap.size w w') h => rscheck_spec A3 c3 (ofB a.rules x) w' (hG.up hw) h (by omega) (fun r hr => ⟨hV r (hRs r hr), by have := (hS.rs r (hRs r hr)).2; omega⟩)
  have hap := fun (hz : (rsChk (ofB a.rules x)).2 = 0) A3 c3 w' (hw : Bel w.heap.size w w') h => apart_spec A3 c3 (ofB a.rules x) w' (hG.up hw) h (by omega) (fun r hr => (rsChk_sav hz r hr).1)
  have hru0 := fun (i : Nat) (hi : i ≤ 1000000) w' (hw : Bel w.heap.size w w') => rule_spec Ar Az Al As cr cz cl cs a x i w' (hA.up hw) hn hi
  have hcl := rsChk_ok (ofB a.rules x)
  have har := apartD_rule (ofB a.rules x)
  unfold setFault at hi
  generalize ofB a.rules x = R at *
  cases hsb : setB x with
  | false =>
   rw [hsb] at hi hset
   rw [if_pos rfl] at hi
   dsimp only at hi
   have hru := hru0 0 (Nat.zero_le _)
   generalize ruleAt x a.rules 0 0 = pl at *
   obtain ⟨p1, p2, p3⟩ := pl
   simp only [plV, DPlace.enc] at hru
   subst hi
   simp only [ptV, plV, DPlace.enc]
   repeat (first | (apply RL_pu; rfl; exact PuAccC0) | (refine js ?_; (first | (apply Stp_call (h := fun w' hw _ => hof w' hw); rfl; rintro v O' ⟨A3, c3, rfl, rfl⟩) | (refine callE (fun w' hw => hset w') ?_) | (refine callE hru ?_) | (refine bx ?_; intro bk))) | refine walk1 ?_)
   exact rtC
  | true =>
   rw [hsb] at hi hset
   rw [if_neg (by decide)] at hi
   generalize rsChk R = rc at *
   obtain ⟨ci, ce⟩ := rc
   dsimp only at hi hck hcl hap
   by_cases hce : ce = 0
   ·subst hce
    replace hap := hap rfl
    rw [if_neg (fun h => h rfl)] at hi
    generalize apartD R = ap at *
    cases ap with
    | none =>
     simp only [apV, DEvent.enc, dEv0] at hap
     dsimp only at hi
     repeat (first | (apply RL_pu; rfl; exact PuAccC0) | (refine js ?_; (first | (apply Stp_call (h := fun w' hw _ => hof w' hw); rfl; rintro v O' ⟨A3, c3, rfl, rfl⟩) | (refine callE (fun w' hw => hset w') ?_) | (refine callO (fun w' hw hO => hck A3 c3 w' hw (rowRd DRule.len (hO.of (A := .row (.slice A3 R.length c3) 27 11 R.length (R.flatMap DRule.enc)) (by repeat' constructor)))) ?_) | (refine callO (fun w' hw hO => hap A3 c3 w' hw (rowRd DRule.len (hO.of (A := .row (.slice A3 R.length c3) 27 11 R.length (R.flatMap DRule.enc)) (by repeat' constructor)))) ?_) | (refine bx ?_; intro bk))) | refine walk1 ?_)
     exact ⟨k + 1, OA, ⟨OA, hi⟩, SFA, SOA⟩
    | some e =>
     obtain ⟨j, hj, hjl⟩ := har e rfl
     obtain ⟨ey, er, en⟩ := e
     dsimp only at hj
     subst hj
     simp only [apV, DEvent.enc] at hap
     simp only [Int.toNat_natCast] at hi
     have hru := hru0 j (by omega)
     generalize ruleAt x a.rules j 0 = pl at *
     obtain ⟨p1, p2, p3⟩ := pl
     simp only [plV, DPlace.enc] at hru
     subst hi
     simp only [ptV, plV, DPlace.enc]
     repeat (first | (apply RL_pu; rfl; exact PuAccC0) | (refine js ?_; (first | (apply Stp_call (h := fun w' hw _ => hof w' hw); rfl; rintro v O' ⟨A3, c3, rfl, rfl⟩) | (refine callE (fun w' hw => hset w') ?_) | (refine callO (fun w' hw hO => hck A3 c3 w' hw (rowRd DRule.len (hO.of (A := .row (.slice A3 R.length c3) 27 11 R.length (R.flatMap DRule.enc)) (by repeat' constructor)))) ?_) | (refine callO (fun w' hw hO => hap A3 c3 w' hw (rowRd DRule.len (hO.of (A := .row (.slice A3 R.length c3) 27 11 R.length (R.flatMap DRule.enc)) (by repeat' constructor)))) ?_) | (refine callE hru ?_) | (refine bx ?_; intro bk))) | refine walk1 ?_)
     exact rtC
   ·rw [if_pos hce] at hi
    dsimp only at hi
    have hb : decide (ce = 0) = false := decide_eq_false hce
    have hb2 : (!decide (ce = 0)) = true := by rw [hb]; rfl
    have hru := hru0 ci (by omega)
    generalize ruleAt x a.rules ci 0 = pl at *
    obtain ⟨p1, p2, p3⟩ := pl
    simp only [plV, DPlace.enc] at hru
    subst hi
    simp only [ptV, plV, DPlace.enc]
    repeat (first | (apply RL_pu; rfl; (first | exact PuAccC0 | (apply Pu_eqlB; rfl; rfl; exact hb) | (apply Pu_neqB'; rfl; rfl; exact hb2))) | (refine js ?_; (first | (apply Stp_call (h := fun w' hw _ => hof w' hw); rfl; rintro v O' ⟨A3, c3, rfl, rfl⟩) | (refine callE (fun w' hw => hset w') ?_) | (refine callO (fun w' hw hO => hck A3 c3 w' hw (rowRd DRule.len (hO.of (A := .row (.slice A3 R.length c3) 27 11 R.length (R.flatMap DRule.enc)) (by repeat' constructor)))) ?_) | (refine callE hru ?_) | (refine bx ?_; intro bk))) | refine walk1 ?_)
    exact rtC
 ·simp only [decide_eq_false_iff_not, Int.ofNat_lt] at hc
  rw [List.drop_eq_nil_of_le (by omega), setsGo] at hi
  subst hi
  repeat (first | (refine js ?_; (refine bx ?_; intro bk)) | refine walk ?_)
  exact rtC
theorem rdTake {α : Type} {w : World} {A : Option Addr} {c sz : Nat} {enc : α → List Value} {l : List α} (h : RdSl w A c enc sz l) (k : Nat) : RdSl w A c enc sz (l.take k) where
 le := by have := h.le; rw [List.length_take]; omega
 cap := h.cap
 rd := fun j x hj => h.rd j x (by
  rw [List.getElem?_take] at hj
  split at hj
  ·exact hj
  ·cases hj)
theorem PuAccD0 {G : Prop} (h : G := by (first | exact PuI | (apply Pu_eqlB; rfl; rfl; exact hb))) : G := h
theorem PuAccD1 {G : Prop} (h : G := by (first | exact PuAccD0 | (apply Pu_sliceH; rfl; rfl; omega; omega))) : G := h
theorem wkAccD0 {G G' : Prop} (k : G') (h : Hold G' → G := by intro k9; (first | (apply RL_pu; rfl; exact PuAccD1) | (refine js ?_; (first | (refine callO (fun w' hw hO => hot A3 c3 w' (rowRd DRule.len (hO.of (A := .row (.slice A3 R.length c3) 27 11 R.length (R.flatMap DRule.enc)) (by repeat' constructor)))) ?_) | (refine callE hco ?_) | (refine callO (fun w' hw hO => hle A3 c3 w' (rowRd DRule.len (hO.of (A := .row (.slice A3 R.length c3) 27 11 R.length (R.flatMap DRule.enc)) (by repeat' constructor)))) ?_))) | refine walk1 ?_); exact k9.out) : G := h ⟨k⟩
theorem lshifts_spec (Ar Az Al As : Option Addr) (cr cz cl cs : Nat) (a : DSource) (w : World) (hA : RdSource w Ar Az Al As cr cz cl cs a) (hS : SrcOk a) :
  Does Tryz.prog 56 [srcV Ar Az Al As cr cz cl cs a] w (fun v O => v = ptV (shiftsGo a a.shifts [] 0) ∧ O = []) := by
 have hn := hS.nr
 have hns := hS.ns
 have hcap := hA.s.le
 obtain ⟨res, hres⟩ : ∃ res, shiftsGo a a.shifts [] 0 = res := ⟨_, rfl⟩
 rw [hres]
 refine Does_of_W Tryz.func56 rfl rfl rfl rfl ?_
 repeat (first | (refine js ?_; (refine bx ?_; intro bk)) | refine walk ?_)
 rename_i b1
 obtain ⟨b2, hb2⟩ : ∃ b2, bk = b2 := ⟨_, rfl⟩
 rw [hb2]
 clear hb2 bk
 refine W_loopF [(1, .pointer (some ⟨b1, 0, none⟩)), (2, .pointer (some ⟨b2, 0, none⟩)), (12, .slice As a.shifts.length cs), (13, .int .i64 a.shifts.length)] [.blk b2 [.int .i64 0, .int .i64 0, .int .i64 0] 65, .blk b1 [.slice Ar a.rules.length cr, .slice Az a.zones.length cz, .slice Al a.links.length cl, .slice As a.shifts.length cs] 137]
  (fun k : Nat => [(14, .int .i64 k)]) (fun _ => []) (fun k => k ≤ a.shifts.length ∧ shiftsGo a (a.shifts.drop k) (a.shifts.take k) k = res) (fun k => a.shifts.length - k) 0 SFA SOA ⟨Nat.zero_le _, hres⟩ ?_
 clear hres
 rintro k ⟨hk, hi⟩
 repeat (first | (refine js ?_; (refine bx ?_; intro bk)) | refine walk ?_)
 refine W_cond rfl (fun hc => ?_) (fun hc => ?_)
 ·simp only [decide_eq_true_eq, Int.ofNat_lt] at hc
  obtain ⟨hna, hca⟩ := hA.s.rd k _ (List.getElem?_eq_getElem hc)
  have htk := List.take_append_getElem hc
  have hco := fun w' (hw : Bel w.heap.size w w') => contains_spec As cs (a.shifts.take k) a.shifts[k] w' ((rdTake hA.s k).up hw)
  rw [show (a.shifts.take k).length = k by rw [List.length_take]; omega] at hco
  rw [drop_cons hc, shiftsGo] at hi
  rw [htk] at hi
  generalize a.shifts[k] = x at *
  have hof := fun w' (hw : Bel w.heap.size w w') => ofN_spec Ar Az Al As cr cz cl cs a x w' (hA.up hw) hn
  have hot := fun A3 c3 w' h => other_spec A3 c3 (ofB a.rules x) w' h
  have hle := fun A3 c3 w' h => least_spec A3 c3 (ofB a.rules x) w' h
  generalize ofB a.rules x = R at *
  generalize otherD R = od at *
  obtain ⟨ox, ob⟩ := od
  dsimp only at hi hot
  by_cases hR : R = []
  ·rw [if_pos hR] at hi
   subst hi
   have hb : decide ((R.length : Int) = 0) = true := by rw [hR]; rfl
   simp only [ptV, plV, DPlace.enc]
   repeat (first | (apply RL_pu; rfl; exact PuAccD0) | (refine js ?_; (first | (apply Stp_call (h := fun w' hw _ => hof w' hw); rfl; rintro v O' ⟨A3, c3, rfl, rfl⟩) | (refine callO (fun w' hw hO => hot A3 c3 w' (rowRd DRule.len (hO.of (A := .row (.slice A3 R.length c3) 27 11 R.length (R.flatMap DRule.enc)) (by repeat' constructor)))) ?_) | (refine bx ?_; intro bk))) | refine walk1 ?_)
   exact rtC
  rw [if_neg hR] at hi
  have hb : decide ((R.length : Int) = 0) = false := decide_eq_false (fun h => hR (List.eq_nil_of_length_eq_zero (by omega)))
  cases hm : memB x (a.shifts.take k) with
  | true =>
   rw [hm] at hi hco
   rw [if_pos rfl] at hi
   subst hi
   simp only [ptV, plV, DPlace.enc]
   repeat (first | (apply RL_pu; rfl; exact PuAccD1) | (refine js ?_; (first | (apply Stp_call (h := fun w' hw _ => hof w' hw); rfl; rintro v O' ⟨A3, c3, rfl, rfl⟩) | (refine callO (fun w' hw hO => hot A3 c3 w' (rowRd DRule.len (hO.of (A := .row (.slice A3 R.length c3) 27 11 R.length (R.flatMap DRule.enc)) (by repeat' constructor)))) ?_) | (refine callE hco ?_) | (refine bx ?_; intro bk))) | refine walk1 ?_)
   exact rtC
  | false =>
   rw [hm] at hi hco
   rw [if_neg (by decide)] at hi
   generalize leastD R = lt at *
   by_cases hl : lt = 0
   ·subst hl
    cases ob with
    | false =>
     rw [if_pos (.inr rfl)] at hi
     subst hi
     simp only [ptV, plV, DPlace.enc]
     repeat (first | refine wkAccD0 ?_ | (refine js ?_; (first | (apply Stp_call (h := fun w' hw _ => hof w' hw); rfl; rintro v O' ⟨A3, c3, rfl, rfl⟩) | (refine bx ?_; intro bk))))
     exact rtC
    | true =>
     rw [if_neg (by rintro (h | h); exact h rfl; cases h)] at hi
     repeat (first | refine wkAccD0 ?_ | (refine js ?_; (first | (apply Stp_call (h := fun w' hw _ => hof w' hw); rfl; rintro v O' ⟨A3, c3, rfl, rfl⟩) | (refine bx ?_; intro bk))))
     exact ⟨k + 1, OA, ⟨OA, hi⟩, SFA, SOA⟩
   ·rw [if_pos (.inl hl)] at hi
    subst hi
    have hb2 : (!decide (lt = 0)) = true := by rw [decide_eq_false hl]; rfl
    simp only [ptV, plV, DPlace.enc]
    repeat (first | (apply RL_pu; rfl; (first | exact PuAccD1 | (apply Pu_neqB'; rfl; rfl; exact hb2))) | (refine js ?_; (first | (apply Stp_call (h := fun w' hw _ => hof w' hw); rfl; rintro v O' ⟨A3, c3, rfl, rfl⟩) | (refine callO (fun w' hw hO => hot A3 c3 w' (rowRd DRule.len (hO.of (A := .row (.slice A3 R.length c3) 27 11 R.length (R.flatMap DRule.enc)) (by repeat' constructor)))) ?_) | (refine callE hco ?_) | (refine callO (fun w' hw hO => hle A3 c3 w' (rowRd DRule.len (hO.of (A := .row (.slice A3 R.length c3) 27 11 R.length (R.flatMap DRule.enc)) (by repeat' constructor)))) ?_) | (refine bx ?_; intro bk))) | refine walk1 ?_)
    exact rtC
 ·simp only [decide_eq_false_iff_not, Int.ofNat_lt] at hc
  rw [List.drop_eq_nil_of_le (by omega), shiftsGo] at hi
  subst hi
  repeat (first | (refine js ?_; (refine bx ?_; intro bk)) | refine walk ?_)
  exact rtC
theorem PuAccE0 {G : Prop} (h : G := by (apply Pu_geqB; rfl; rfl; exact b1)) : G := h
theorem hours_spec (off save : Int) (ho : I64 off) (hs : I64 save) (w : World) : Does Tryz.prog 166 [.int .i64 off, .int .i64 save] w (fun v O => v = .bool (hoursB off save) ∧ O = []) := by
 have hsm := fun w' => addAny_spec off save ho hs w'
 refine Does_of_W Tryz.func166 rfl rfl rfl rfl ?_
 cases hok : i64ok (off + save) with
 | false =>
  rw [hok] at hsm
  have hb : hoursB off save = false := by
   unfold hoursB
   by_cases h1 : -54000 ≤ off + save
   ·by_cases h2 : off + save ≤ 54000
    ·exfalso
     have : i64ok (off + save) = true := by unfold i64ok; rw [decide_eq_true (by omega), decide_eq_true (by omega)]; rfl
     rw [this] at hok
     cases hok
    ·rw [decide_eq_false h2, Bool.and_false]
   ·rw [decide_eq_false h1, Bool.false_and]
  rw [hb]
  repeat (first | refine und ?_ | (refine js ?_; (refine callE (fun w' hw => hsm w') ?_)) | refine walk ?_)
  exact rtA
 | true =>
  rw [hok, if_pos rfl] at hsm
  unfold hoursB
  generalize off + save = x at *
  by_cases h1 : -54000 ≤ x
  ·have b1 : decide (-54000 ≤ x) = true := decide_eq_true h1
   rw [b1]
   repeat (first | refine und ?_ | (apply RL_pu; rfl; exact PuAccE0) | (refine js ?_; (refine callE (fun w' hw => hsm w') ?_)) | refine walk1 ?_)
   exact rtA
  ·have b1 : decide (-54000 ≤ x) = false := decide_eq_false h1
   rw [b1]
   repeat (first | refine und ?_ | (apply RL_pu; rfl; exact PuAccE0) | (refine js ?_; (refine callE (fun w' hw => hsm w') ?_)) | refine walk1 ?_)
   exact rtA
theorem lset_spec (Ar Az Al As : Option Addr) (cr cz cl cs : Nat) (a : DSource) (e : DEra) (w : World) (hA : RdSource w Ar Az Al As cr cz cl cs a) (hn : a.rules.length ≤ 1000000) :
  Does Tryz.prog 167 [srcV Ar Az Al As cr cz cl cs a, .agg e.enc.toArray] w (NewSl 27 11 DRule.enc (setOf a.rules e)) := by
 have hof := fun w' (hw : Bel w.heap.size w w') => ofN_spec Ar Az Al As cr cz cl cs a e.set w' (hA.up hw) hn
 unfold setOf
 obtain ⟨off, kind, save, set, format, til⟩ := e
 dsimp only at hof ⊢
 simp only [DEra.enc]
 refine Does_of_W Tryz.func167 rfl rfl rfl rfl ?_
 by_cases hk : kind = 2
 ·subst hk
  rw [if_pos rfl]
  generalize ofB a.rules set = R at *
  repeat (first | (refine js ?_; (first | (apply Stp_call (h := fun w' hw _ => hof w' hw); rfl; rintro v O' ⟨A3, c3, rfl, rfl⟩) | (refine bx ?_; intro bk))) | refine walk ?_)
  exact ret_1 _ [.row (.slice A3 R.length c3) 27 11 R.length (R.flatMap DRule.enc)] (.tmp rfl) SOA ⟨A3, c3, rfl, rfl⟩
 ·rw [if_neg hk]
  have hb : (!decide (kind = 2)) = true := by rw [decide_eq_false hk]; rfl
  refine W_nil 27 11 ?_
  repeat (first | (apply RL_pu; rfl; (apply Pu_neqB'; rfl; rfl; exact hb)) | (refine js ?_; (refine bx ?_; intro bk)) | refine walk1 ?_)
  exact ret_1 _ [.row (.slice none 0 0) 27 11 0 []] (.tmp rfl) SOA ⟨none, 0, rfl, rfl⟩
def stEnc (x : Int × ByteArray) : List Value := [.int .i64 x.1, .string x.2]
theorem stEnc.len (x : Int × ByteArray) : (stEnc x).length = 2 := rfl
structure StG where
 k : Nat
 A : Option Addr
 c : Nat
 m : Nat
 ys : List Value
def StR (l : List (Int × ByteArray)) (v : Value) (O : List It) : Prop := NewSl 88 2 stEnc l v O ∨ ∃ b x, l = [x] ∧ v = .slice (some ⟨b, 0, none⟩) 1 1 ∧ O = [.blk b (stEnc x) 88]
theorem PuAccE2 {G : Prop} (h : G := by (apply Pu_eqlB; rfl; rfl; exact b1)) : G := h
theorem states0_spec (Ar Az Al As : Option Addr) (cr cz cl cs : Nat) (a : DSource) (e : DEra) (w : World) (hA : RdSource w Ar Az Al As cr cz cl cs a) (hn : a.rules.length ≤ 1000000) :
  Does Tryz.prog 169 [srcV Ar Az Al As cr cz cl cs a, .agg e.enc.toArray] w (StR (statesOf a.rules e)) := by
 have hst := fun w' (hw : Bel w.heap.size w w') => lset_spec Ar Az Al As cr cz cl cs a e w' (hA.up hw) hn
 have hRl : (setOf a.rules e).length ≤ 1000000 := by
  unfold setOf
  split
  ·exact Nat.le_trans (ofB_len _ _) hn
  ·exact Nat.zero_le _
 unfold statesOf
 generalize setOf a.rules e = R at *
 obtain ⟨off, kind, save, set, format, til⟩ := e
 dsimp only at hst ⊢
 simp only [DEra.enc] at hst ⊢
 refine Does_of_W Tryz.func169 rfl rfl rfl rfl ?_
 by_cases hk1 : kind = 1
 ·subst hk1
  rw [if_pos rfl]
  repeat (first | (refine js ?_; (refine bx ?_; intro bk)) | refine walk ?_)
  exact ret_1 _ [.blk bk [.int .i64 save, .string ByteArray.empty] 88] (.tmp rfl) SOA (.inr ⟨bk, (save, ByteArray.empty), rfl, rfl, rfl⟩)
 have b1 : decide (kind = 1) = false := decide_eq_false hk1
 rw [if_neg hk1]
 by_cases hk2 : kind = 2
 ·subst hk2
  rw [if_pos rfl]
  repeat (first | (apply RL_pu; rfl; exact PuAccE2) | (refine js ?_; (first | (apply Stp_call (h := fun w' hw _ => hst w' hw); rfl; rintro v O' ⟨A3, c3, rfl, rfl⟩) | (refine bx ?_; intro bk))) | refine walk1 ?_)
  refine W_nil 88 2 ?_
  refine W_loopF [(20, .slice A3 R.length c3), (21, .int .i64 R.length)] [.row (.slice A3 R.length c3) 27 11 R.length (R.flatMap DRule.enc)] (fun g : StG => [(5, .slice g.A g.m g.c), (22, .int .i64 g.k)]) (fun g => [.row (.slice g.A g.m g.c) 88 2 g.m g.ys])
   (fun g => g.k ≤ R.length ∧ g.m = g.k ∧ g.ys = ((R.take g.k).map fun r => (r.save, r.letter)).flatMap stEnc) (fun g => R.length - g.k) ⟨0, none, 0, 0, []⟩ SFA SOA ⟨Nat.zero_le _, rfl, rfl⟩ ?_
  rintro ⟨k, A1, c1, m, ys⟩ ⟨hkl, hm, hy⟩
  dsimp only at hkl hm hy ⊢
  repeat (first | (refine js ?_; (refine bx ?_; intro bk)) | refine walk ?_)
  refine W_cond rfl (fun hc => ?_) (fun hc => ?_)
  ·simp only [decide_eq_true_eq, Int.ofNat_lt] at hc
   have hg1 := flat_get DRule.len R k _ 0 _ (List.getElem?_eq_getElem hc) rfl
   have hgn : ∀ j v, (DRule.enc R[k])[j]? = some v → (R.flatMap DRule.enc)[k * 11 + j]? = some v := fun j v hj => flat_get DRule.len R k _ j v (List.getElem?_eq_getElem hc) hj
   have htk := List.take_append_getElem hc
   generalize R[k] = r at *
   simp only [DRule.enc] at hgn hg1
   repeat (first | (apply RL_pu; rfl; (first | (apply Pu_indexAddrH; rfl; rfl; omega; omega; (intro w' _ hO; exact (row_cell (hO.of (A := .row (.slice A3 R.length c3) 27 11 R.length (R.flatMap DRule.enc)) (by repeat' constructor)) hg1).1)) | (apply Pu_loadRN; rfl; (focus repeat' constructor); exact hgn; rfl))) | (refine js ?_; (first | (apply Stp_append; rfl; rfl; (intro A' c'; (focus repeat' constructor)); (intro w' _ hO; exact blkRaw (hO.of (by repeat' constructor))); rfl; rfl; (simp only [maxLen]; omega); omega; intro A' c' hc1 hc2 hc3) | (refine bx ?_; intro bk))) | refine walk1 ?_)
   exact ⟨⟨k + 1, A', c', m + 1, ys ++ [.int .i64 r.save, .string r.letter]⟩, OA, ⟨OA, OA, by dsimp only; rw [hy, ← htk]; simp [stEnc]⟩, SFA, SOA⟩
  ·obtain rfl : k = R.length := by simp only [decide_eq_false_iff_not, Int.ofNat_lt] at hc; omega
   rw [List.take_length] at hy
   subst hm hy
   repeat (first | (refine js ?_; (refine bx ?_; intro bk)) | refine walk ?_)
   exact ret_1 _ [.row (.slice A1 R.length c1) 88 2 R.length ((R.map fun r => (r.save, r.letter)).flatMap stEnc)] (.tmp rfl) SOA (.inl ⟨A1, c1, by rw [List.length_map], by rw [List.length_map]⟩)
 have b2 : decide (kind = 2) = false := decide_eq_false hk2
 rw [if_neg hk2]
 repeat (first | (apply RL_pu; rfl; (first | exact PuAccE2 | (apply Pu_eqlB; rfl; rfl; exact b2))) | (refine js ?_; (refine bx ?_; intro bk)) | refine walk1 ?_)
 exact ret_1 _ [.blk bk [.int .i64 0, .string ByteArray.empty] 88] (.tmp rfl) SOA (.inr ⟨bk, (0, ByteArray.empty), rfl, rfl, rfl⟩)
theorem states_spec (Ar Az Al As : Option Addr) (cr cz cl cs : Nat) (a : DSource) (e : DEra) (w : World) (hA : RdSource w Ar Az Al As cr cz cl cs a) (hn : a.rules.length ≤ 1000000) :
  Does Tryz.prog 169 [srcV Ar Az Al As cr cz cl cs a, .agg e.enc.toArray] w (NewSl 88 2 stEnc (statesOf a.rules e)) :=
 (states0_spec Ar Az Al As cr cz cl cs a e w hA hn).monoH fun v O base w' hR hH => by
  rcases hR with h | ⟨b, x, hl, rfl, rfl⟩
  ·exact ⟨O, h, hH⟩
  ·rw [hl]
   exact ⟨_, ⟨some ⟨b, 0, none⟩, 1, rfl, rfl⟩, hH.toRow (m := 1) 2 rfl (by decide) (by simpa using Upd.here)⟩
end Go.Proofs.YtonjepladadmhaaGreatDoor
