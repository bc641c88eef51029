/- Parts of the proof. -/
import Derived.Test.YtbjomhdhkpgbaaaGreatDoorY17
import Derived.Test.YtbjomhdhkpgbaaaGreatDoorY15
import Derived.Test.YtbjomhdhkpgbaaaGreatDoorY11
import Derived.Test.YtbjomhdhkpgbaaaGreatDoorY09
import Derived.Test.YtbjomhdhkpgbaaaGreatDoorY16
import Derived.Test.YtbjomhdhkpgbaaaGreatDoorY12
import Derived.Test.YtbjomhdhkpgbaaaGreatDoorY08
import Derived.Test.YtbjomhdhkpgbaaaGreatDoorY05
set_option maxHeartbeats 4000000
set_option linter.unusedVariables false
set_option linter.unusedSimpArgs false
namespace Go.Proofs.YtbjomhdhkpgbaaaGreatDoor
open Go Go.RowKit Go.Wk
attribute [local irreducible] W RL Does Zap Zak retQ Calls Pu Stp RD Qy Ay Zal
def Zok (z : ZaX) : Bool := decide (60 < z.eras.length)
theorem Zgm {α : Type} (p : α -> Bool) : ∀ (l : List α) (k : Nat), ZbG p l k = match l.findIdx? p with | some i => ((k + i : Nat) : Int) | none => -1
 | [], _ => rfl
 | x :: l, k => by
  rw [ZbG, List.findIdx?_cons]
  by_cases h : p x = true
  ·rw [if_pos h, if_pos h]; rfl
  ·rw [if_neg h, if_neg h, Zgm p l (k + 1)]
   cases l.findIdx? p with
   | none => rfl
   | some i => simp only [Option.map_some]; congr 1; omega
theorem Zn0 (n : ByteArray) (A : Option Addr) (m c : Nat) (w : World) : Does Tryz.prog 85 [.agg #[.string n, .slice A m c]] w (fun v O => v = .bool (decide (60 < m)) /\ O = []) := by
 have hb : decide ((60 : Int) < (m : Int)) = decide (60 < m) := by rw [decide_eq_decide]; omega
 refine Zaa Tryz.func85 rfl rfl rfl rfl ?_
 repeat (first | (apply RL_pu; rfl; (apply Za0; rfl; rfl; exact hb)) | (refine js ?_; (refine bx ?_; intro bk)) | refine walk1 ?_)
 exact rtA
theorem Zot (Ar Az Al As : Option Addr) (cr cz cl cs : Nat) (a : Zab) (w : World) (hA : Zaj w Ar Az Al As cr cz cl cs a) (hn : a.zones.length <= 1000000) :
  Does Tryz.prog 84 [.slice Az a.zones.length cz, .func (.func 85) #[] #[]] w (fun v O => v = .int .i64 (ZbG Zok a.zones 0) /\ O = []) := by
 obtain ⟨res, hres⟩ : ∃ res, ZbG Zok a.zones 0 = res := ⟨_, rfl⟩
 rw [hres]
 refine Zaa Tryz.func84 rfl rfl rfl rfl ?_
 repeat (first | refine walk ?_)
 refine Zaq [(0, .slice Az a.zones.length cz), (1, .func (.func 85) #[] #[]), (7, .int .i64 a.zones.length)] [] (fun k : Nat => [(8, .int .i64 k)]) (fun _ => []) (fun k => k <= a.zones.length /\ ZbG Zok (a.zones.drop k) k = res) (fun k => a.zones.length - k) 0 SFA .nil ⟨Nat.zero_le _, hres⟩ ?_
 rintro k ⟨hk, hi⟩
 repeat (first | refine walk ?_)
 refine Zah rfl (fun hc => ?_) (fun hc => ?_)
 ·simp only [decide_eq_true_eq, Int.ofNat_lt] at hc
  obtain ⟨hna, cs1, ⟨Ae, ce, _, rfl⟩, hca⟩ := hA.z k _ (List.getElem?_eq_getElem hc)
  rw [Zan hc, ZbG] at hi
  generalize a.zones[k] = z at *
  have h1 : ∀ w', Does Tryz.prog 85 ([] ++ [.agg #[.string z.name, .slice Ae z.eras.length ce]] ++ []) w' (fun v O => v = .bool (decide (60 < z.eras.length)) /\ O = []) := fun w' => Zn0 z.name Ae z.eras.length ce w'
  rw [show decide (60 < z.eras.length) = Zok z from rfl] at h1
  generalize Zok z = mb at *
  cases mb with
  | true =>
   rw [if_pos rfl] at hi
   subst hi
   repeat (first | (apply RL_pu; rfl; exact PuI) | (refine js ?_; (refine ZdT (fun w' hw _ => h1 w') ?_)) | refine walk1 ?_)
   exact rtA
  | false =>
   rw [if_neg (by decide)] at hi
   repeat (first | (apply RL_pu; rfl; exact PuI) | (refine js ?_; (refine ZdT (fun w' hw _ => h1 w') ?_)) | refine walk1 ?_)
   exact ⟨k + 1, OA, ⟨OA, hi⟩, SFA, .nil⟩
 ·simp only [decide_eq_false_iff_not, Int.ofNat_lt] at hc
  rw [List.drop_eq_nil_of_le (by omega), ZbG] at hi
  subst hi
  repeat (first | refine walk ?_)
  exact rtA
theorem ZvU {G : Prop} (h : G := by (apply Za0; rfl; rfl; exact b1)) : G := h
theorem ZpE {G : Prop} (h : G := by (first | exact ZvU | (apply Za0; rfl; rfl; exact b2))) : G := h
theorem ZvT {G : Prop} (h : G := by (first | exact ZpE | (apply Za0; rfl; rfl; exact b3))) : G := h
theorem ZvS {G : Prop} (h : G := by (first | exact ZvT | (apply Za0; rfl; rfl; exact b4))) : G := h
theorem Zrk (Ar Az Al As : Option Addr) (cr cz cl cs : Nat) (a : Zab) (w : World) (hA : Zaj w Ar Az Al As cr cz cl cs a) (hn : a.zones.length <= 1000000) :
  Does Tryz.prog 50 [srcV Ar Az Al As cr cz cl cs a] w (fun v O => v = ptV (ZcU a) /\ O = []) := by
 have hix := fun w' (hw : Bel w.heap.size w w') => Zot Ar Az Al As cr cz cl cs a w' (hA.up hw) hn
 rw [Zgm] at hix
 unfold ZcU
 rw [show (fun z : ZaX => decide (60 < z.eras.length)) = Zok from rfl]
 generalize a.zones.findIdx? Zok = fi at *
 refine Zaa Tryz.func50 rfl rfl rfl rfl ?_
 by_cases h1 : 2000 < a.rules.length
 ·have b1 : decide ((2000 : Int) < a.rules.length) = true := decide_eq_true (by omega)
  rw [if_pos h1]
  repeat (first | (apply RL_pu; rfl; exact ZvU) | (refine js ?_; (refine bx ?_; intro bk)) | refine walk1 ?_)
  exact rtC
 have b1 : decide ((2000 : Int) < a.rules.length) = false := decide_eq_false (by omega)
 rw [if_neg h1]
 by_cases h2 : 500 < a.zones.length
 ·have b2 : decide ((500 : Int) < a.zones.length) = true := decide_eq_true (by omega)
  rw [if_pos h2]
  repeat (first | (apply RL_pu; rfl; exact ZpE) | (refine js ?_; (refine bx ?_; intro bk)) | refine walk1 ?_)
  exact rtC
 have b2 : decide ((500 : Int) < a.zones.length) = false := decide_eq_false (by omega)
 rw [if_neg h2]
 cases fi with
 | some i =>
  dsimp only at hix ⊢
  rw [Nat.zero_add] at hix
  have b3 : decide ((0 : Int) <= (i : Int)) = true := decide_eq_true (by omega)
  repeat (first | (apply RL_pu; rfl; (first | exact ZpE | (apply Ze3; rfl; rfl; exact b3))) | (refine js ?_; (first | (refine Zad hix ?_) | (refine bx ?_; intro bk))) | refine walk1 ?_)
  exact rtC
 | none =>
  dsimp only at hix ⊢
  by_cases h3 : 1000 < a.links.length
  ·have b3 : decide ((1000 : Int) < a.links.length) = true := decide_eq_true (by omega)
   rw [if_pos h3]
   repeat (first | (apply RL_pu; rfl; exact ZvT) | (refine js ?_; (first | (refine Zad hix ?_) | (refine bx ?_; intro bk))) | refine walk1 ?_)
   exact rtC
  have b3 : decide ((1000 : Int) < a.links.length) = false := decide_eq_false (by omega)
  rw [if_neg h3]
  by_cases h4 : 2000 < a.shifts.length
  ·have b4 : decide ((2000 : Int) < a.shifts.length) = true := decide_eq_true (by omega)
   rw [if_pos h4]
   repeat (first | (apply RL_pu; rfl; exact ZvS) | (refine js ?_; (first | (refine Zad hix ?_) | (refine bx ?_; intro bk))) | refine walk1 ?_)
   exact rtC
  have b4 : decide ((2000 : Int) < a.shifts.length) = false := decide_eq_false (by omega)
  rw [if_neg h4]
  repeat (first | (apply RL_pu; rfl; exact ZvS) | (refine js ?_; (first | (refine Zad hix ?_) | (refine bx ?_; intro bk))) | refine walk1 ?_)
  exact rtC
theorem Zop (Ar Az Al As : Option Addr) (cr cz cl cs : Nat) (a : Zab) (w : World) (hA : Zaj w Ar Az Al As cr cz cl cs a) (hS : Zg8 a) :
  Does Tryz.prog 53 [srcV Ar Az Al As cr cz cl cs a] w (fun v O => v = ptV (ZcI a) /\ O = []) := by
 have h := fun w' (hw : Bel w.heap.size w w') => ZrH Ar Az Al As cr cz cl cs a w' (hA.up hw) hS
 refine Zaa Tryz.func53 rfl rfl rfl rfl ?_
 generalize ZcI a = o at *
 cases o with
 | none =>
  simp only [ptV, plV, Zao.enc] at h ⊢
  repeat (first | (refine js ?_; (first | (refine Zad h ?_) | (refine bx ?_; intro bk))) | refine walk ?_)
  exact rtC
 | some pe =>
  obtain ⟨⟨p1, p2, p3⟩, e⟩ := pe
  simp only [ptV, plV, Zao.enc] at h ⊢
  repeat (first | (refine js ?_; (first | (refine Zad h ?_) | (refine bx ?_; intro bk))) | refine walk ?_)
  exact rtC
structure RlG where
 k : Nat
 i : Nat
theorem Zn6 (x : ByteArray) (r : DRule) (l : List DRule) (i k : Nat) : Zdx x (r :: l) i k = if r.name = x then (match i with | 0 => ⟨1, k, 0⟩ | i + 1 => Zdx x l i (k + 1)) else Zdx x l i (k + 1) := by cases i <;> rfl
theorem Zrq (x : ByteArray) (i k : Nat) : Zdx x [] i k = ⟨0, 0, 0⟩ := by cases i <;> rfl
theorem ZpD {G : Prop} (h : G := by (first | exact PuI | (apply Zgy; rfl; rfl; exact hb))) : G := h
theorem Zta (Ar Az Al As : Option Addr) (cr cz cl cs : Nat) (a : Zab) (x : ByteArray) (i : Nat) (w : World) (hA : Zaj w Ar Az Al As cr cz cl cs a) (hn : a.rules.length <= 1000000) (hi : i <= 1000000) :
  Does Tryz.prog 91 [srcV Ar Az Al As cr cz cl cs a, .string x, .int .i64 i] w (fun v O => v = plV (Zdx x a.rules i 0) /\ O = []) := by
 obtain ⟨res, hres⟩ : ∃ res, Zdx x a.rules i 0 = res := ⟨_, rfl⟩
 rw [hres]
 refine Zaa Tryz.func91 rfl rfl rfl rfl ?_
 repeat (first | (refine js ?_; (refine bx ?_; intro bk)) | refine walk ?_)
 obtain ⟨b6, hb6⟩ : ∃ b6, bk = b6 := ⟨_, rfl⟩
 rw [hb6]
 clear hb6 bk
 refine Zaq [(1, .string x), (6, .pointer (some ⟨b6, 0, none⟩)), (11, .slice Ar a.rules.length cr), (12, .int .i64 a.rules.length)] [.blk b6 [.int .i64 0, .int .i64 0, .int .i64 0] 36] (fun g : RlG => [(2, .int .i64 g.i), (13, .int .i64 g.k)]) (fun _ => []) (fun g => g.k <= a.rules.length /\ g.i <= 1000000 /\ Zdx x (a.rules.drop g.k) g.i g.k = res) (fun g => a.rules.length - g.k) ⟨0, i⟩ SFA SOA ⟨Nat.zero_le _, hi, hres⟩ ?_
 clear hi hres
 rintro ⟨k, i⟩ ⟨hk, hi6, hi⟩
 dsimp only at hk hi6 hi ⊢
 repeat (first | (refine js ?_; (refine bx ?_; intro bk)) | refine walk ?_)
 refine Zah rfl (fun hc => ?_) (fun hc => ?_)
 ·simp only [decide_eq_true_eq, Int.ofNat_lt] at hc
  obtain ⟨hna, hca⟩ := hA.r.rd k _ (List.getElem?_eq_getElem hc)
  rw [Zan hc, Zn6] at hi
  generalize a.rules[k] = r at *
  by_cases hx : r.name = x
  ·have hb : (!decide (r.name = x)) = false := by rw [decide_eq_true hx]; rfl
   rw [if_pos hx] at hi
   cases i with
   | zero =>
    dsimp only at hi
    subst hi
    repeat (first | (apply RL_pu; rfl; exact ZpD) | (refine js ?_; (refine bx ?_; intro bk)) | refine walk1 ?_)
    exact ret_1 _ [] (.cellB rfl (by repeat' constructor) rfl rfl) .nil ⟨rfl, rfl⟩
   | succ i =>
    dsimp only at hi
    have hb2 : decide (((i + 1 : Nat) : Int) = 0) = false := decide_eq_false (by omega)
    repeat (first | (apply RL_pu; rfl; (first | exact ZpD | (apply ZaH; rfl; rfl; exact hb2))) | (refine js ?_; (refine bx ?_; intro bk)) | refine walk1 ?_)
    rw [show ((i + 1 : Nat) : Int) - 1 = (i : Int) by omega]
    exact ⟨⟨k + 1, i⟩, OA, ⟨OA, OA, hi⟩, SFA, SOA⟩
  ·have hb : (!decide (r.name = x)) = true := by rw [decide_eq_false hx]; rfl
   rw [if_neg hx] at hi
   repeat (first | (apply RL_pu; rfl; exact ZpD) | (refine js ?_; (refine bx ?_; intro bk)) | refine walk1 ?_)
   exact ⟨⟨k + 1, i⟩, OA, ⟨OA, OA, hi⟩, SFA, SOA⟩
 ·simp only [decide_eq_false_iff_not, Int.ofNat_lt] at hc
  rw [List.drop_eq_nil_of_le (by omega), Zrq] at hi
  subst hi
  repeat (first | (refine js ?_; (refine bx ?_; intro bk)) | refine walk ?_)
  exact ret_1 _ [] (.cellB rfl (by repeat' constructor) rfl rfl) .nil ⟨rfl, rfl⟩
theorem ZgP : ∀ (l : List DRule) (acc : List ByteArray) (x : ByteArray), x ∈ ZaP l acc -> x ∈ acc \/ ∃ r ∈ l, r.name = x
 | [], acc, x, h => .inl h
 | r :: l, acc, x, h => by
  rw [ZaP] at h
  split at h
  ·rcases ZgP l acc x h with h | ⟨q, hq, e⟩
   ·exact .inl h
   ·exact .inr ⟨q, List.mem_cons_of_mem _ hq, e⟩
  ·rcases ZgP l _ x h with h | ⟨q, hq, e⟩
   ·rcases List.mem_append.1 h with h | h
    ·exact .inl h
    ·simp only [List.mem_singleton] at h; exact .inr ⟨r, List.mem_cons_self, h.symm⟩
   ·exact .inr ⟨q, List.mem_cons_of_mem _ hq, e⟩
theorem Zfd : ∀ (l : List DRule) (acc : List ByteArray), (ZaP l acc).length <= acc.length + l.length
 | [], acc => Nat.le_refl _
 | r :: l, acc => by
  rw [ZaP]
  split
  ·have := Zfd l acc; simp only [List.length_cons]; omega
  ·have := Zfd l (acc ++ [r.name]); simp only [List.length_append, List.length_cons, List.length_nil] at this ⊢; omega
theorem Zki : ∀ (l : List Zaf) (e : Zaf), ZcV l = some e -> e ∈ l
 | [], _, h => by cases h
 | [_], _, h => by cases h
 | a :: b :: l, e, h => by
  rw [ZcV] at h
  split at h
  ·simp only [Option.some.injEq] at h; subst h; exact List.mem_cons_of_mem _ List.mem_cons_self
  ·exact List.mem_cons_of_mem _ (Zki (b :: l) e h)
theorem ZjI (least y : Int) : ∀ (l : List DRule) (i : Nat), ∀ e ∈ ZdW least y l i, ∃ j : Nat, e.rule = j /\ j < i + l.length
 | [], _ => fun e h => by cases h
 | r :: l, i => fun e he => by
  rw [ZdW] at he
  rcases List.mem_append.1 he with h | h
  ·have : onR least r i y = some e := by
    cases ho : onR least r i y with
    | none => rw [ho] at h; cases h
    | some x => rw [ho] at h; simp only [Option.toList, List.mem_singleton] at h; rw [h]
   unfold onR at this
   split at this
   ·cases this
   ·split at this
    ·cases this
    ·simp only [Option.some.injEq] at this
     subst this
     exact ⟨i, rfl, by simp⟩
  ·obtain ⟨j, h1, h2⟩ := ZjI least y l (i + 1) e h
   exact ⟨j, h1, by simp only [List.length_cons]; omega⟩
theorem Znh (l : List DRule) (least from_ : Int) : ∀ k, ∀ e ∈ allC l least from_ k, ∃ j : Nat, e.rule = j /\ j < l.length
 | 0 => fun e h => by cases h
 | k + 1 => fun e he => by
  rw [allC] at he
  rcases List.mem_append.1 he with h | h
  ·exact Znh l least from_ k e h
  ·have := ZjI _ _ _ _ e h
   simpa using this
theorem ZoX (l : List DRule) (e : Zaf) (h : ZfA l = some e) : ∃ j : Nat, e.rule = j /\ j < l.length := by
 rw [<- Zne] at h
 exact Znh _ _ _ _ e (List.mem_mergeSort.1 (Zki _ _ h))
def Zlv (s : Zab) : Prop := ∀ r ∈ s.rules, (-4611686018427387904 <= r.save /\ r.save <= 4611686018427387904) /\ r.from_ <= 4611686018427387904
theorem Ztp {l : List DRule} {x : ByteArray} {r : DRule} (h : r ∈ ofB l x) : r ∈ l := (List.mem_filter.1 h).1
def SavI (s : Zab) : Prop := ∀ r ∈ s.rules, -9223372036854775808 <= r.save /\ r.save <= 9223372036854775807
theorem Zgl (least : Int) : ∀ (l : List DRule) (k : Nat), Zbc least l k = none -> ∀ r ∈ l, ZbJ r least = 0
 | [], _, _, _, h => by cases h
 | x :: l, k, h, r, hr => by
  rw [Zbc] at h
  by_cases h0 : ZbJ x least = 0
  ·rw [if_pos h0] at h
   rcases List.mem_cons.1 hr with rfl | hr
   ·exact h0
   ·exact Zgl least l (k + 1) h r hr
  ·rw [if_neg h0] at h
   cases h
theorem Ztb {r : DRule} {least : Int} (h : ZbJ r least = 0) : (-4611686018427387904 <= r.save /\ r.save <= 4611686018427387904) /\ r.from_ <= 4611686018427387904 := by
 unfold ZbJ at h
 split at h
 ·cases h
 ·rename_i h1
  split at h
  ·cases h
  ·split at h
   ·cases h
   ·split at h
    ·cases h
    ·split at h
     ·cases h
     ·rename_i h2
      have e2 : (decide (-10800 <= r.save) && decide (r.save <= 10800)) = true := by
       cases hh : (decide (-10800 <= r.save) && decide (r.save <= 10800)) with
       | true => rfl
       | false => exact absurd hh h2
      have e1 : Zck r.from_ = true := by
       cases hh : Zck r.from_ with
       | true => rfl
       | false => rw [hh] at h1; exact absurd rfl h1
      unfold Zck at e1
      simp only [Bool.and_eq_true, decide_eq_true_eq] at e1 e2
      omega
theorem Zmg {l : List DRule} (h : (ZdE l).2 = 0) : ∀ r ∈ l, (-4611686018427387904 <= r.save /\ r.save <= 4611686018427387904) /\ r.from_ <= 4611686018427387904 := by
 intro r hr
 unfold ZdE at h
 cases hf : Zbc (Zai l) l 0 with
 | none => exact Ztb (Zgl _ l 0 hf r hr)
 | some x =>
  rw [hf] at h
  exfalso
  have : ∀ (l : List DRule) (k : Nat) (x : Nat × Int) (m : Int), Zbc m l k = some x -> x.2 ≠ 0 := fun l => by
   induction l with
   | nil => intro k x m h; cases h
   | cons y l ih =>
    intro k x m h
    rw [Zbc] at h
    split at h
    ·exact ih _ _ _ h
    ·rename_i h0
     simp only [Option.some.injEq] at h
     rw [<- h]
     exact h0
  exact this _ _ _ _ hf h
theorem ZeM : ∀ (l : List DRule) (acc : List ByteArray), (∀ x ∈ acc, x ∈ ZaP l acc) /\ ∀ r ∈ l, r.name ∈ ZaP l acc
 | [], acc => ⟨fun _ h => h, fun _ h => by cases h⟩
 | y :: l, acc => by
  rw [ZaP]
  by_cases hm : memB y.name acc = true
  ·rw [if_pos hm]
   have ih := ZeM l acc
   refine ⟨ih.1, fun r hr => ?_⟩
   rcases List.mem_cons.1 hr with rfl | hr
   ·refine ih.1 _ ?_
    have : ∀ (l : List ByteArray) (x : ByteArray), memB x l = true -> x ∈ l := fun l => by
     induction l with
     | nil => intro x h; cases h
     | cons z l ih2 =>
      intro x h
      rw [memB, Bool.or_eq_true, decide_eq_true_eq] at h
      rcases h with rfl | h
      ·exact List.mem_cons_self
      ·exact List.mem_cons_of_mem _ (ih2 x h)
    exact this _ _ hm
   ·exact ih.2 r hr
  ·rw [if_neg hm]
   have ih := ZeM l (acc ++ [y.name])
   refine ⟨fun x hx => ih.1 x (List.mem_append_left _ hx), fun r hr => ?_⟩
   rcases List.mem_cons.1 hr with rfl | hr
   ·exact ih.1 _ (List.mem_append_right _ (List.mem_singleton.2 rfl))
   ·exact ih.2 r hr
theorem Zic (rs : List DRule) : ∀ l : List ByteArray, Zdv rs l = none -> ∀ x ∈ l, (ZdE (ofB rs x)).2 = 0
 | [], _, _, h => by cases h
 | y :: l, h, x, hx => by
  rw [Zdv] at h
  cases hf : ZbY rs y with
  | some z => rw [hf] at h; cases h
  | none =>
   rw [hf] at h
   rcases List.mem_cons.1 hx with rfl | hx
   ·unfold ZbY at hf
    split at hf
    ·cases hf
    ·split at hf
     ·cases hf
     ·rename_i h2
      exact Decidable.of_not_not h2
   ·exact Zic rs l h x hx
theorem Zs5 {s : Zab} (h : ZfL s = none) : Zlv s := fun r hr =>
 Zmg (Zic s.rules _ h r.name ((ZeM s.rules []).2 r hr)) r (List.mem_filter.2 ⟨hr, decide_eq_true rfl⟩)
theorem Zof (l : List DRule) (x : ByteArray) : (ofB l x).length <= l.length := List.length_filter_le _ _
theorem ZiL (least : Int) : ∀ (l : List DRule) (i : Nat) (j : Nat) (e : Int), Zbc least l i = some (j, e) -> j < i + l.length
 | [], _, _, _, h => by cases h
 | r :: l, i, j, e, h => by
  rw [Zbc] at h
  split at h
  ·have := ZiL least l (i + 1) j e h; simp only [List.length_cons]; omega
  ·simp only [Option.some.injEq, Prod.mk.injEq] at h; simp only [List.length_cons]; omega
end Go.Proofs.YtbjomhdhkpgbaaaGreatDoor
set_option maxHeartbeats 8000000
namespace Go.Proofs.YtbjomhdhkpgbaaaGreatDoor
open Go Go.RowKit Go.Wk
attribute [local irreducible] W RL Does Zap Zak retQ Calls Pu Stp RD Qy Ay Zal WI RLI
set_option maxRecDepth 20000 in
theorem Ztd (b : Nat) (wr : World) (O : List It) (w : World) (hB : Bel wr.heap.size wr w) (hH : Zat wr.heap.size O w) : CallsD Tryz.prog 61 #[.pointer (some ⟨b, 0, none⟩)] .returning w (fun e u' w' => e = .returned (.tuple #[]) /\ u' = .returning /\ Bel wr.heap.size wr w' /\ Zat wr.heap.size O w') := by
 refine callsD_of_wpS Tryz.func61 rfl fun c₀ cs hu => ?_
 -- Zaa Tryz.func61
 refine wpS_seq (wpS_region ?_)
 show wpOpsS _ _ _ [0, 1] _ _ _
 refine Zre rfl (ZkP hu) ?_
 have hs0 : St 17 wr [] O { tmps := #[.pointer (some ⟨b, 0, none⟩)] ++ Array.replicate (Tryz.f61.ntmps - 1) undef, defers := [] } w := ⟨⟨rfl, by rfl, fun t v hv => (by cases hv)⟩, hB, hH⟩
 have hs1 := St.mk (hs0.sim.put (d := 4) rfl .nilIface) hB hH
 refine Zrd rfl hs1 (v := .nilIface) (by apply Pu_assign; rfl) ?_
 have hs2 := St.mk (hs1.sim.put (d := 1) rfl .nilIface) hB hH
 refine Zrf ?_
 refine wpS_of_wp ?_
 have hW : ∀ y Q, (∀ e a' w', lift 17 wr (fun e fr' O' => e = .normal /\ SubO O O') e a' w' -> Q e a' w') -> W Tryz.prog 17 wr y (fun e fr' O' => e = .normal /\ SubO O O') [(1, .nilIface), (4, .nilIface)] O -> y.wp Tryz.prog Q _ w := fun y Q hq h => wp_mono (W_at h hs2) hq
 refine hW _ _ ?_ ?_
 ·rintro e a' w' ⟨fr', O', hs', rfl, hO⟩
  have hr : (results Tryz.f61 a'.tmps).run Tryz.prog w' = .ok (.tuple #[]) w' := by
   have hres : Tryz.f61.results = #[] := rfl
   unfold results
   rw [hres]
   simp
  exact ⟨hs'.sim.defers, .returning, by rw [<- hu], .tuple #[], hr, rfl, rfl, hs'.old, hs'.own.sub hO⟩
 ·repeat (first | (apply RL_pu; rfl; (apply Zg9; exact ⟨_, rfl⟩; rfl; exact .inl ⟨rfl, rfl⟩)) | (refine js ?_; (refine bx ?_; intro bk)) | refine walk1 ?_)
  exact ⟨rfl, .refl _⟩
instance zfnT : ZeroT Tryz.prog 134 [.nilFunc] := ⟨by kernel_rfl⟩
theorem Zl2 (form : Int) (h : form = 1 \/ form = 2 \/ form = 3) (w : World) : Does Tryz.prog 62 [.int .i64 form] w (fun v O => ∃ b, v = .slice (some ⟨b, 0, none⟩) (form + 1).toNat 4 /\ O = [.blk b [.func (.func 102) #[] #[], .func (.func 103) #[] #[], .func (.func 104) #[] #[], .func (.func 105) #[] #[]] 134]) := by
 have h1 : form + 1 <= 4 /\ 0 <= form := by omega
 refine Zaa Tryz.func62 rfl rfl rfl rfl ?_
 repeat (first | (refine js ?_; (refine bx ?_; intro bk)) | refine walk ?_)
 exact ret_1 _ [_] (.tmp rfl) SOA ⟨bk, rfl, rfl⟩
def stD (s : Zab) : Nat -> Zab
 | 0 => s
 | 1 => ZaA s
 | 2 => ZaN (ZaA s)
 | 3 => ZbS (ZaN (ZaA s))
 | _ => Zrs (ZbS (ZaN (ZaA s)))
theorem ZlX : ∀ (l : List ByteArray) {s : Zab}, Fits s -> Fits (unGo l s)
 | [], _, h => h
 | _ :: l, _, h => ZlX l (h.byS _ _)
theorem Zbu {s : Zab} (h : Fits s) : Fits (ZaA s) := by
 obtain ⟨h1, h2, h3, h4, h5⟩ := ZlX s.shifts h
 exact ⟨h1, h2, h3, Nat.zero_le _, h5⟩
structure ToOk (form : Int) (s : Zab) : Prop where
 fits : Fits s
 un : unB s.shifts s = true
 m1 : srcM (ZaA s) = true
 con : conB (ZaA s) = true
 m2 : 2 <= form -> srcM (ZaN (ZaA s)) = true
 ex : 2 <= form -> expB (ZaN (ZaA s)) = true
 re : 3 <= form -> reB (ZaP (ZbS (ZaN (ZaA s))).rules []) (ZbS (ZaN (ZaA s))) = true
theorem ZyL {form : Int} {s : Zab} (hf : form = 1 \/ form = 2 \/ form = 3) (h : Fits s) (ht : toB form s = true) : ToOk form s := by
 unfold toB at ht
 simp only [Bool.and_eq_true, Bool.or_eq_true, decide_eq_true_eq] at ht
 obtain ⟨a1, a2, a3, a4⟩ := ht
 refine ⟨h, a1, a2, a3, fun h2 => ?_, fun h2 => ?_, fun h3 => ?_⟩
 ·exact (a4.resolve_left (by omega)).1
 ·exact (a4.resolve_left (by omega)).2.1
 ·exact ((a4.resolve_left (by omega)).2.2.resolve_left (by omega)).2
theorem ZoT {P : Program} {f : FuncId} {args : Array Value} {u : FrameMode} {w : World} {R R' : Ending -> FrameMode -> World -> Prop} (h : CallsD P f args u w R) (hr : ∀ e u' w', R e u' w' -> R' e u' w') : CallsD P f args u w R' := fun c cs hc => by
 obtain ⟨e, u', w', fr, h1, h2⟩ := h c cs hc
 exact ⟨e, u', w', fr, hr _ _ _ h1, h2⟩
theorem ZxM {s : Zab} (h : Fits s) : (ZbS (ZaN (ZaA s))).shifts.length + (ZaP (ZbS (ZaN (ZaA s))).rules []).length <= 1000000 := by
 have h1 := (Zbu h).r
 have h2 := Zfd (ZaA s).rules []
 show 0 + (ZaP (ZaA s).rules []).length <= 1000000
 simp only [List.length_nil] at h2
 omega
def waR (bD : Nat) (t : Zab) (R : List It) (wr : World) : Ending -> World -> Prop := fun e w' => ∃ v O', e = .returned v /\ Bel wr.heap.size wr w' /\ Zat wr.heap.size O' w' /\ v = .int .i64 0 /\ DrAt wr bD t R O'
theorem Zq2 {G : Prop} (h : G := by (apply Pu_indexAddr; rfl; rfl; omega; omega; exact Option.some_ne_none _)) : G := h
theorem ZhW (bD : Nat) (form : Int) (Ar Az Al As : Option Addr) (cr cz cl cs : Nat) (S : Nat -> Prop) (s : Zab) (R : List It) (wr : World) (hL : LibW wr) (hform : form = 1 \/ form = 2 \/ form = 3) (ht : ToOk form s) :
  Zal Tryz.prog 29 [.pointer (some ⟨bD, 0, none⟩), .int .i64 form] wr (drB bD Ar Az Al As cr cz cl cs s :: .fact S (drF wr Ar Az Al As cr cz cl cs s) :: R) (fun v O => v = .int .i64 0 /\ DrAt wr bD (stD s (form + 1).toNat) R O) := by
 unfold Zal
 intro w0 hB0 hH0
 refine ZlO Tryz.func29 rfl rfl rfl hB0 hH0 ?_
 -- Zaa Tryz.func29
 apply ZpF
 repeat (first | (refine js ?_; (refine bx ?_; intro bk)) | refine walk ?_)
 apply ZnV
 generalize bk = b4
 refine ZvV rfl (by apply Pu_makeFunc; rfl; rfl) rfl ?_
 intro a1 w1 hs1
 have key : ∀ c' Q' Q3, WI Fence.wide [{ target := .fn (.func 61) [.pointer (some ⟨b4, 0, none⟩)].toArray, args := #[] }] Tryz.prog 19 wr c' Q' _ _ -> (∀ e a' w', ZtH [{ target := .fn (.func 61) [.pointer (some ⟨b4, 0, none⟩)].toArray, args := #[] }] 19 wr Q' e a' w' -> Q3 e a' w') -> c'.wp Tryz.prog Q3 (actD [{ target := .fn (.func 61) [.pointer (some ⟨b4, 0, none⟩)].toArray, args := #[] }] a1) w1 := fun c' Q' Q3 h hq => (wpIn_wide (n := 0)).1 (wpIn_mono (h.at hs1) hq)
 refine key _ (fun e fr O => (e = .normal \/ e = .ret) /\ ∃ Ar' Az' Al' As' cr' cz' cl' cs' S', Sub [(4, .pointer (some ⟨b4, 0, none⟩))] fr /\ SubO (.blk b4 [.int .i64 0] 37 :: drB bD Ar' Az' Al' As' cr' cz' cl' cs' (stD s (form + 1).toNat) :: .fact S' (drF wr Ar' Az' Al' As' cr' cz' cl' cs' (stD s (form + 1).toNat)) :: R) O) _ ?_ ?_
 ·refine ZbW (ZbW (Za8 (.inl rfl) (by repeat (first | exact .nil | (refine .plain rfl ?_) | apply Calms.call | apply Calms.append | apply Calms.len)) ?_))
  repeat (first | (refine js ?_; (first | (apply Zac (h := fun w' _ _ => Zl2 form hform w'); rfl; rintro v O' ⟨bq, rfl, rfl⟩) | (refine bx ?_; intro bk))) | refine walk ?_)
  refine Zek (ZzD (fun g : DrG => [(11, .int .i64 g.k), (9, .slice (some ⟨bq, 0, none⟩) (form + 1).toNat 4), (10, .int .i64 (form + 1).toNat), (0, .pointer (some ⟨bD, 0, none⟩)), (4, .pointer (some ⟨b4, 0, none⟩))]) (fun g => drB bD g.Ar g.Az g.Al g.As g.cr g.cz g.cl g.cs g.s :: .fact g.S (drF wr g.Ar g.Az g.Al g.As g.cr g.cz g.cl g.cs g.s) :: .blk bq [.func (.func 102) #[] #[], .func (.func 103) #[] #[], .func (.func 104) #[] #[], .func (.func 105) #[] #[]] 134 :: .blk b4 [.int .i64 0] 37 :: R) (fun g => g.k <= (form + 1).toNat /\ g.s = stD s g.k) (fun g => (form + 1).toNat - g.k) ⟨0, Ar, Az, Al, As, cr, cz, cl, cs, s, S⟩ SFA STA ⟨Nat.zero_le _, rfl⟩ ?_)
  rintro ⟨k, A1, A2, A3, A4, c1, c2, c3, c4, t, S1⟩ ⟨hk, ht2⟩
  dsimp only at hk ht2 ⊢
  subst ht2
  refine ZbW (Za8 (.inl rfl) (by repeat (first | exact .nil | (refine .plain rfl ?_) | apply Calms.call | apply Calms.append | apply Calms.len)) ?_)
  repeat (first | (refine js ?_; (refine bx ?_; intro bk)) | refine walk ?_)
  refine ZbW (Zej rfl (fun hc => ?_) (fun hc => ?_))
  ·have hkl : k < (form + 1).toNat := by
    have := of_decide_eq_true hc
    omega
   refine Zls ?_
   apply thenQ_n
   have hk4 : k = 0 \/ k = 1 \/ k = 2 \/ k = 3 := by omega
   rcases hk4 with rfl | rfl | rfl | rfl
   ·refine ZbW (Zek (ZbW (Za8 (.inl rfl) (by repeat (first | exact .nil | (refine .plain rfl ?_) | apply Calms.call | apply Calms.append | apply Calms.len)) ?_)))
    repeat (first | (apply RL_pu; rfl; exact Zq2) | (refine js ?_; (refine bx ?_; intro bk)) | refine walk1 ?_)
    refine ZbX ?_
    apply ZbF (.inl rfl); rfl; (intro c h; cases h); (apply Pu_move; rfl)
    apply ZbF (.inl rfl); rfl; (intro c h; cases h); (apply Pu_move; rfl)
    apply ZdU (.inl rfl); (intro d hd; cases hd; rfl); (intro c h; cases h); (intro a w hs; exact Zb6 (us := []) (cs := []) (xs := [_]) hs rfl)
    refine Zel (us := []) (cs := []) (xs := [_]) rfl rfl (h := ZlW bD A1 A2 A3 A4 c1 c2 c3 c4 S1 s _ wr hL ht.fits ht.un) (.cons (by repeat' constructor) (.cons (by repeat' constructor) (.refl _))) ?_
    rintro v O' ⟨rfl, B1, B2, B3, B4, d1, d2, d3, d4, S2, rfl⟩
    refine ZbB ?_
    refine blockQ_n (thenQ_n ?_)
    refine Za8 (.inl rfl) (by repeat (first | exact .nil | (refine .plain rfl ?_) | apply Calms.call | apply Calms.append | apply Calms.len)) ?_
    repeat (first | (refine js ?_; (refine bx ?_; intro bk)) | refine walk ?_)
    exact ⟨⟨0 + 1, B1, B2, B3, B4, d1, d2, d3, d4, _, S2⟩, OA, ⟨hkl, rfl⟩, SFA, STA⟩
   ·refine ZbW (Zek (ZbW (Za8 (.inl rfl) (by repeat (first | exact .nil | (refine .plain rfl ?_) | apply Calms.call | apply Calms.append | apply Calms.len)) ?_)))
    repeat (first | (apply RL_pu; rfl; exact Zq2) | (refine js ?_; (refine bx ?_; intro bk)) | refine walk1 ?_)
    refine ZbX ?_
    apply ZbF (.inl rfl); rfl; (intro c h; cases h); (apply Pu_move; rfl)
    apply ZbF (.inl rfl); rfl; (intro c h; cases h); (apply Pu_move; rfl)
    apply ZdU (.inl rfl); (intro d hd; cases hd; rfl); (intro c h; cases h); (intro a w hs; exact Zb6 (us := []) (cs := []) (xs := [_]) hs rfl)
    refine Zel (us := []) (cs := []) (xs := [_]) rfl rfl (h := Zld bD A1 A2 A3 A4 c1 c2 c3 c4 S1 (ZaA s) _ wr hL (Zbu ht.fits) ht.m1 ht.con) (.cons (by repeat' constructor) (.cons (by repeat' constructor) (.refl _))) ?_
    rintro v O' ⟨rfl, B1, B2, B3, B4, d1, d2, d3, d4, S2, rfl⟩
    refine ZbB ?_
    refine blockQ_n (thenQ_n ?_)
    refine Za8 (.inl rfl) (by repeat (first | exact .nil | (refine .plain rfl ?_) | apply Calms.call | apply Calms.append | apply Calms.len)) ?_
    repeat (first | (refine js ?_; (refine bx ?_; intro bk)) | refine walk ?_)
    exact ⟨⟨1 + 1, B1, B2, B3, B4, d1, d2, d3, d4, _, S2⟩, OA, ⟨hkl, rfl⟩, SFA, STA⟩
   ·refine ZbW (Zek (ZbW (Za8 (.inl rfl) (by repeat (first | exact .nil | (refine .plain rfl ?_) | apply Calms.call | apply Calms.append | apply Calms.len)) ?_)))
    repeat (first | (apply RL_pu; rfl; exact Zq2) | (refine js ?_; (refine bx ?_; intro bk)) | refine walk1 ?_)
    refine ZbX ?_
    apply ZbF (.inl rfl); rfl; (intro c h; cases h); (apply Pu_move; rfl)
    apply ZbF (.inl rfl); rfl; (intro c h; cases h); (apply Pu_move; rfl)
    apply ZdU (.inl rfl); (intro d hd; cases hd; rfl); (intro c h; cases h); (intro a w hs; exact Zb6 (us := []) (cs := []) (xs := [_]) hs rfl)
    refine Zel (us := []) (cs := []) (xs := [_]) rfl rfl (h := Zk7 bD A1 A2 A3 A4 c1 c2 c3 c4 S1 (ZaN (ZaA s)) _ wr ((Zbu ht.fits).erasS _) (ht.m2 (by omega)) (ht.ex (by omega))) (.cons (by repeat' constructor) (.cons (by repeat' constructor) (.refl _))) ?_
    rintro v O' ⟨rfl, B1, B2, B3, B4, d1, d2, d3, d4, S2, rfl⟩
    refine ZbB ?_
    refine blockQ_n (thenQ_n ?_)
    refine Za8 (.inl rfl) (by repeat (first | exact .nil | (refine .plain rfl ?_) | apply Calms.call | apply Calms.append | apply Calms.len)) ?_
    repeat (first | (refine js ?_; (refine bx ?_; intro bk)) | refine walk ?_)
    exact ⟨⟨2 + 1, B1, B2, B3, B4, d1, d2, d3, d4, _, S2⟩, OA, ⟨hkl, rfl⟩, SFA, STA⟩
   ·refine ZbW (Zek (ZbW (Za8 (.inl rfl) (by repeat (first | exact .nil | (refine .plain rfl ?_) | apply Calms.call | apply Calms.append | apply Calms.len)) ?_)))
    repeat (first | (apply RL_pu; rfl; exact Zq2) | (refine js ?_; (refine bx ?_; intro bk)) | refine walk1 ?_)
    refine ZbX ?_
    apply ZbF (.inl rfl); rfl; (intro c h; cases h); (apply Pu_move; rfl)
    apply ZbF (.inl rfl); rfl; (intro c h; cases h); (apply Pu_move; rfl)
    apply ZdU (.inl rfl); (intro d hd; cases hd; rfl); (intro c h; cases h); (intro a w hs; exact Zb6 (us := []) (cs := []) (xs := [_]) hs rfl)
    refine Zel (us := []) (cs := []) (xs := [_]) rfl rfl (h := Zma bD A1 A2 A3 A4 c1 c2 c3 c4 S1 (ZbS (ZaN (ZaA s))) _ wr hL (((Zbu ht.fits).erasS _).erasS _) (ZxM ht.fits) (ht.re (by omega))) (.cons (by repeat' constructor) (.cons (by repeat' constructor) (.refl _))) ?_
    rintro v O' ⟨rfl, B1, B2, B3, B4, d1, d2, d3, d4, S2, rfl⟩
    refine ZbB ?_
    refine blockQ_n (thenQ_n ?_)
    refine Za8 (.inl rfl) (by repeat (first | exact .nil | (refine .plain rfl ?_) | apply Calms.call | apply Calms.append | apply Calms.len)) ?_
    repeat (first | (refine js ?_; (refine bx ?_; intro bk)) | refine walk ?_)
    exact ⟨⟨3 + 1, B1, B2, B3, B4, d1, d2, d3, d4, _, S2⟩, OA, ⟨hkl, rfl⟩, SFA, STA⟩
  ·obtain rfl : k = (form + 1).toNat := by
    have := of_decide_eq_false hc
    omega
   refine ZzE ?_
   repeat (first | (refine js ?_; (refine bx ?_; intro bk)) | refine walk ?_)
   refine ZbW (Za8 (.inl rfl) (by repeat (first | exact .nil | (refine .plain rfl ?_) | apply Calms.call | apply Calms.append | apply Calms.len)) ?_)
   repeat (first | (refine js ?_; (refine bx ?_; intro bk)) | refine walk ?_)
   refine Zjh ?_
   exact ⟨.inr rfl, A1, A2, A3, A4, c1, c2, c3, c4, S1, SFA, STA⟩
 ·rintro e a' w' ⟨hd, fr', O', hs', he, B1, B2, B3, B4, d1, d2, d3, d4, S2, hf, hO⟩
  have hs2 := hs'.sub hf hO
  have hl : Leaves Tryz.prog Tryz.f29 a'.tmps (waR bD (stD s (form + 1).toNat) R wr) a'.defers .returning w' := by
   rw [hd]
   unfold Leaves
   refine ⟨by simp, .func 61, [.pointer (some ⟨b4, 0, none⟩)].toArray, 61, #[.pointer (some ⟨b4, 0, none⟩)], rfl, by simp [invoke, Zbv], ?_⟩
   refine ZoT (Ztd b4 wr _ w' hs2.old hs2.own) ?_
   rintro e u' w2 ⟨rfl, rfl, hB, hH⟩
   dsimp only
   have hs3 := St.mk hs2.sim hB hH
   unfold settle Leaves
   refine ⟨.int .i64 0, ?_, .int .i64 0, _, rfl, hB, hH.sub (.drop (.refl _)), rfl, B1, B2, B3, B4, d1, d2, d3, d4, S2, rfl⟩
   have hres : Tryz.f29.results = [ResultVar.cell 4 37].toArray := rfl
   show (results Tryz.f29 (actD [] a').tmps).run Tryz.prog _ = _
   unfold results
   rw [hres, List.mapM_toArray]
   simp only [Sem.run_bind, Sem.run_map]
   rw [Zcp (P := Tryz.prog) hs3 _ (fun _ => rfl) (fun _ _ => rfl) [ResultVar.cell 4 37] [.int .i64 0] ⟨_, [], rfl, .cell1 rfl (by repeat' constructor), rfl⟩]
   simp only [Result.andThen_ok, Sem.run_pure]
   rfl
  rcases he with rfl | rfl
  ·exact hl
  ·exact hl
end Go.Proofs.YtbjomhdhkpgbaaaGreatDoor
set_option maxHeartbeats 8000000
namespace Go.Proofs.YtbjomhdhkpgbaaaGreatDoor
open Go Go.RowKit Go.Wk
attribute [local irreducible] W RL Does Zap Zak retQ Calls Pu Stp RD Qy Ay Zal
theorem Zi4 (Ar Az Al As : Option Addr) (cr cz cl cs : Nat) (a : Zab) (w : World) (hA : Zaj w Ar Az Al As cr cz cl cs a) (hn : Fits a) :
  Does Tryz.prog 30 [srcV Ar Az Al As cr cz cl cs a] w (Zdq a) := by
 obtain ⟨hnr, hnz, hnl, hns, hne⟩ := hn
 refine Zaa Tryz.func30 rfl rfl rfl rfl ?_
 refine Zdu 46 2 ?_
 unfold srcV
 repeat (first | refine walk ?_ | (refine jg ?_; (try intro F); (first | (apply Zac (h := fun w' hw _ => Zcs Ar cr a.rules w' (hA.r.up hw) hnr); rfl; rintro v O' ⟨A3, c3, rfl, rfl⟩) | (apply Zac (h := fun w' hw _ => Zed Al cl a.links w' (hA.l.up hw) hnl); rfl; rintro v O' ⟨A4, c4, rfl, rfl⟩) | (apply Zac (h := fun w' hw _ => Zcr As cs a.shifts w' (hA.s.up hw) hns); rfl; rintro v O' ⟨A5, c5, rfl, rfl⟩) | (refine bx ?_; intro bk) | (refine stA ?_)); refine fin ?_) | (refine jn ?_; (try intro F); (first | (refine bx ?_; intro bk) | (refine stA ?_) | (apply Zag; exact PuA)); refine fin ?_) | (apply RD_W; rfl; intro bk))
 generalize bk = b3
 refine ZfC (fun g : EoG => [(19, .int .i64 g.k), (2, _), (3, _), (17, _), (18, _)]) (fun g => .row (.slice g.Az g.m g.cz) 46 2 g.m g.xs :: .blk b3 [.slice A3 a.rules.length c3, .slice g.Az g.m g.cz, .slice A4 a.links.length c4, .slice A5 a.shifts.length c5] 32 :: rowS A5 c5 a.shifts :: rowL A4 c4 a.links :: rowR A3 c3 a.rules :: .blk _ _ _ :: .blk _ _ _ :: g.Zr.map Zau)
  (fun h => h.k <= a.zones.length /\ h.m = h.Zr.length /\ h.xs = h.Zr.reverse.flatMap ZE.enc /\ h.Zr.reverse.map ZE.z = a.zones.take h.k)
  (fun h => a.zones.length - h.k) ⟨0, none, 0, 0, [], []⟩ SFA STA ⟨by simp, rfl, rfl, by simp⟩ ?_
 rintro ⟨k, Az', cz', m, xs, Zr⟩ ⟨hk, hm, hx, hz⟩
 dsimp only at hk hm hx hz ⊢
 generalize hT : Zr.map Zau = T
 repeat (first | refine walk ?_ | (refine jn ?_; (try intro F); (first | (refine bx ?_; intro bk) | (refine stA ?_) | (apply Zag; exact PuA)); refine fin ?_) | (apply RD_W; rfl; intro bk))
 refine Zah rfl (fun hc => ?_) (fun hc => ?_)
 ·simp only [decide_eq_true_eq, Int.ofNat_lt] at hc
  obtain ⟨hna, cs1, ⟨Ae, ce, hE, rfl⟩, hca⟩ := hA.z k _ (List.getElem?_eq_getElem hc)
  have ht := List.take_append_getElem hc
  have hl := hne _ (List.getElem_mem hc)
  have hzl : Zr.length = k := by rw [<- List.length_reverse, <- List.length_map (f := ZE.z), hz, List.length_take]; omega
  generalize a.zones[k] = z at *
  obtain ⟨nm, es⟩ := z
  dsimp only at hE hl hca
  repeat (first | (apply RL_pu; rfl; exact PuI) | (apply RD_Q; rfl; rfl; decide +kernel; rfl; rfl; exact QyI) | refine walk1 ?_ | (refine jg ?_; (try intro F); (first | (apply Zac (h := fun w' hw _ => Zct Ae ce es w' (hE.up hw) hl); rfl; rintro v O' ⟨A2, c2, rfl, rfl⟩) | (apply ZaC; rfl; rfl; (intro A' c'; (focus repeat' constructor)); (intro w' _ hO; exact ZbD (hO.of (by repeat' constructor))); rfl; rfl; (simp only [maxLen]; omega); omega; intro A' c' hc1 hc2 hc3) | (refine bx ?_; intro bk) | (refine stA ?_)); first | refine ⟨_, EndsA, QFI, ?_⟩ | refine fin ?_) | (refine jn ?_; (try intro F); (first | (apply ZaC; rfl; rfl; (intro A' c'; (focus repeat' constructor)); (intro w' _ hO; exact ZbD (hO.of (by repeat' constructor))); rfl; rfl; (simp only [maxLen]; omega); omega; intro A' c' hc1 hc2 hc3) | (refine bx ?_; intro bk) | (refine stA ?_) | (apply Zag; first | exact PuI | exact PuA)); first | refine ⟨_, EndsA, QFI, ?_⟩ | refine fin ?_) | (apply RD_W; rfl; intro bk))
  subst hT
  exact ⟨⟨k + 1, A', c', m + 1, xs ++ ZE.enc ⟨⟨nm, es⟩, A2, c2⟩, ⟨⟨nm, es⟩, A2, c2⟩ :: Zr⟩, OA, ⟨OA, by simp [hm], by simp [hx], by rw [List.reverse_cons, List.map_append, hz]; exact ht⟩, SFA, STA⟩
 simp only [decide_eq_false_iff_not, Int.ofNat_lt] at hc
 rw [List.take_of_length_le (by omega)] at hz
 subst hT
 refine ZqR _ (SubO.permT (l := [_, _, _, _, _, _, _]) (.refl _) ((List.reverse_perm Zr).symm.map Zau)) ?_
 rw [<- List.length_reverse] at hm
 generalize Zr.reverse = Zs at *
 repeat (first | refine walk ?_ | (refine jn ?_; (try intro F); (first | (refine bx ?_; intro bk) | (refine stA ?_) | (apply Zag; exact PuA)); refine fin ?_) | (apply RD_W; rfl; intro bk))
 subst hm hx
 have hl : Zs.length = a.zones.length := by rw [<- hz, List.length_map]
 exact ret_1 _ (rowR A3 c3 a.rules :: rowZ Az' cz' Zs :: rowL A4 c4 a.links :: rowS A5 c5 a.shifts :: Zs.map Zau) (.cellB rfl (by repeat' constructor) rfl rfl) STA ⟨A3, c3, Az', cz', A4, c4, A5, c5, Zs, by rw [srcV, <- hl]; rfl, hz, rfl⟩
theorem Zwl (l : List DRule) : (ZdE l).1 <= l.length := by
 unfold ZdE
 split
 ·rename_i x h
  obtain ⟨j, e⟩ := x
  have := ZiL _ l 0 j e h
  simp only at this ⊢
  omega
 ·repeat' split
  all_goals exact Nat.zero_le _
theorem ZlN {G : Prop} (h : G := by (first | (apply Zav; rfl; rfl; omega; omega; (intro w' _ hO; exact (ZbP (hO.of (A := .row (.slice An N.length cn) 9 1 N.length (N.flatMap ZaI)) (by repeat' constructor)) hg1).1)) | (apply Zfo; rfl; (focus repeat' constructor); exact hg1))) : G := h
theorem ZrE (Ar Az Al As : Option Addr) (cr cz cl cs : Nat) (a : Zab) (w : World) (hG : Glob w) (hA : Zaj w Ar Az Al As cr cz cl cs a) (hS : Zg8 a) (hV : SavI a) :
  Does Tryz.prog 51 [srcV Ar Az Al As cr cz cl cs a] w (fun v O => v = ptV (ZfL a) /\ O = []) := by
 have hn := hS.nr
 have hnm := fun w' (hw : Bel w.heap.size w w') => ZjV Ar Az Al As cr cz cl cs a w' (hA.up hw) hn
 have hNm := ZgP a.rules []
 have hNl := Zfd a.rules []
 unfold ZfL
 generalize ZaP a.rules [] = N at *
 simp only [List.length_nil, Nat.zero_add] at hNl
 obtain ⟨res, hres⟩ : ∃ res, Zdv a.rules N = res := ⟨_, rfl⟩
 rw [hres]
 refine Zaa Tryz.func51 rfl rfl rfl rfl ?_
 repeat (first | (refine js ?_; (first | (apply Zac (h := fun w' hw _ => hnm w' hw); rfl; rintro v O' ⟨An, cn, rfl, rfl⟩) | (refine bx ?_; intro bk))) | refine walk ?_)
 rename_i b1
 obtain ⟨b2, hb2⟩ : ∃ b2, bk = b2 := ⟨_, rfl⟩
 rw [hb2]
 clear hb2 bk
 refine Zaq [(1, .pointer (some ⟨b1, 0, none⟩)), (2, .pointer (some ⟨b2, 0, none⟩)), (12, .slice An N.length cn), (13, .int .i64 N.length)] [.row (.slice An N.length cn) 9 1 N.length (N.flatMap ZaI), .blk b2 [.int .i64 0, .int .i64 0, .int .i64 0] 36, .blk b1 [.slice Ar a.rules.length cr, .slice Az a.zones.length cz, .slice Al a.links.length cl, .slice As a.shifts.length cs] 117]
  (fun k : Nat => [(14, .int .i64 k)]) (fun _ => []) (fun k => k <= N.length /\ Zdv a.rules (N.drop k) = res) (fun k => N.length - k) 0 SFA SOA ⟨Nat.zero_le _, hres⟩ ?_
 clear hnm hres
 rintro k ⟨hk, hi⟩
 repeat (first | (refine js ?_; (refine bx ?_; intro bk)) | refine walk ?_)
 refine Zah rfl (fun hc => ?_) (fun hc => ?_)
 ·simp only [decide_eq_true_eq, Int.ofNat_lt] at hc
  have hg1 : (N.flatMap ZaI)[k * 1]? = some (.string N[k]) := by
   have := ZaF (enc := ZaI) (fun _ => rfl) N k _ 0 (.string N[k]) (List.getElem?_eq_getElem hc) rfl
   simpa using this
  have hxm := hNm _ (List.getElem_mem hc)
  rw [Zan hc, Zdv] at hi
  generalize N[k] = x at *
  have hxs : x.size <= 1000000000 := by
   rcases hxm with h | ⟨r, hr, rfl⟩
   ·cases h
   ·exact (hS.rs r hr).1
  have hof := fun w' (hw : Bel w.heap.size w w') => Zd2 Ar Az Al As cr cz cl cs a x w' (hA.up hw) hn
  have hset := fun w' => Zwj x (by omega) w'
  have hRs : ∀ r ∈ ofB a.rules x, r ∈ a.rules := fun r h => Ztp h
  have hRl := Zof a.rules x
  have hck := fun A3 c3 w' (hw : Bel w.heap.size w w') h => Zmf A3 c3 (ofB a.rules x) w' (hG.up hw) h (by omega) (fun r hr => ⟨hV r (hRs r hr), by have := (hS.rs r (hRs r hr)).2; omega⟩)
  have hap := fun (hz : (ZdE (ofB a.rules x)).2 = 0) A3 c3 w' (hw : Bel w.heap.size w w') h => Zsb A3 c3 (ofB a.rules x) w' (hG.up hw) h (by omega) (fun r hr => (Zmg hz r hr).1)
  have hru0 := fun (i : Nat) (hi : i <= 1000000) w' (hw : Bel w.heap.size w w') => Zta Ar Az Al As cr cz cl cs a x i w' (hA.up hw) hn hi
  have hcl := Zwl (ofB a.rules x)
  have har := ZoX (ofB a.rules x)
  unfold ZbY at hi
  generalize ofB a.rules x = R at *
  cases hsb : setB x with
  | false =>
   rw [hsb] at hi hset
   rw [if_pos rfl] at hi
   dsimp only at hi
   have hru := hru0 0 (Nat.zero_le _)
   generalize Zdx x a.rules 0 0 = pl at *
   obtain ⟨p1, p2, p3⟩ := pl
   simp only [plV, Zao.enc] at hru
   subst hi
   simp only [ptV, plV, Zao.enc]
   repeat (first | (apply RL_pu; rfl; exact ZlN) | (refine js ?_; (first | (apply Zac (h := fun w' hw _ => hof w' hw); rfl; rintro v O' ⟨A3, c3, rfl, rfl⟩) | (refine Zad (fun w' hw => hset w') ?_) | (refine Zad hru ?_) | (refine bx ?_; intro bk))) | refine walk1 ?_)
   exact rtC
  | true =>
   rw [hsb] at hi hset
   rw [if_neg (by decide)] at hi
   generalize ZdE R = rc at *
   obtain ⟨ci, ce⟩ := rc
   dsimp only at hi hck hcl hap
   by_cases hce : ce = 0
   ·subst hce
    replace hap := hap rfl
    rw [if_neg (fun h => h rfl)] at hi
    generalize ZfA R = ap at *
    cases ap with
    | none =>
     simp only [apV, Zaf.enc, dEv0] at hap
     dsimp only at hi
     repeat (first | (apply RL_pu; rfl; exact ZlN) | (refine js ?_; (first | (apply Zac (h := fun w' hw _ => hof w' hw); rfl; rintro v O' ⟨A3, c3, rfl, rfl⟩) | (refine Zad (fun w' hw => hset w') ?_) | (refine ZaW (fun w' hw hO => hck A3 c3 w' hw (Za4 DRule.len (hO.of (A := .row (.slice A3 R.length c3) 56 11 R.length (R.flatMap DRule.enc)) (by repeat' constructor)))) ?_) | (refine ZaW (fun w' hw hO => hap A3 c3 w' hw (Za4 DRule.len (hO.of (A := .row (.slice A3 R.length c3) 56 11 R.length (R.flatMap DRule.enc)) (by repeat' constructor)))) ?_) | (refine bx ?_; intro bk))) | refine walk1 ?_)
     exact ⟨k + 1, OA, ⟨OA, hi⟩, SFA, SOA⟩
    | some e =>
     obtain ⟨j, hj, hjl⟩ := har e rfl
     obtain ⟨ey, er, en⟩ := e
     dsimp only at hj
     subst hj
     simp only [apV, Zaf.enc] at hap
     simp only [Int.toNat_natCast] at hi
     have hru := hru0 j (by omega)
     generalize Zdx x a.rules j 0 = pl at *
     obtain ⟨p1, p2, p3⟩ := pl
     simp only [plV, Zao.enc] at hru
     subst hi
     simp only [ptV, plV, Zao.enc]
     repeat (first | (apply RL_pu; rfl; exact ZlN) | (refine js ?_; (first | (apply Zac (h := fun w' hw _ => hof w' hw); rfl; rintro v O' ⟨A3, c3, rfl, rfl⟩) | (refine Zad (fun w' hw => hset w') ?_) | (refine ZaW (fun w' hw hO => hck A3 c3 w' hw (Za4 DRule.len (hO.of (A := .row (.slice A3 R.length c3) 56 11 R.length (R.flatMap DRule.enc)) (by repeat' constructor)))) ?_) | (refine ZaW (fun w' hw hO => hap A3 c3 w' hw (Za4 DRule.len (hO.of (A := .row (.slice A3 R.length c3) 56 11 R.length (R.flatMap DRule.enc)) (by repeat' constructor)))) ?_) | (refine Zad hru ?_) | (refine bx ?_; intro bk))) | refine walk1 ?_)
     exact rtC
   ·rw [if_pos hce] at hi
    dsimp only at hi
    have hb : decide (ce = 0) = false := decide_eq_false hce
    have hb2 : (!decide (ce = 0)) = true := by rw [hb]; rfl
    have hru := hru0 ci (by omega)
    generalize Zdx x a.rules ci 0 = pl at *
    obtain ⟨p1, p2, p3⟩ := pl
    simp only [plV, Zao.enc] at hru
    subst hi
    simp only [ptV, plV, Zao.enc]
    repeat (first | (apply RL_pu; rfl; (first | exact ZlN | (apply ZaH; rfl; rfl; exact hb) | (apply ZaG; rfl; rfl; exact hb2))) | (refine js ?_; (first | (apply Zac (h := fun w' hw _ => hof w' hw); rfl; rintro v O' ⟨A3, c3, rfl, rfl⟩) | (refine Zad (fun w' hw => hset w') ?_) | (refine ZaW (fun w' hw hO => hck A3 c3 w' hw (Za4 DRule.len (hO.of (A := .row (.slice A3 R.length c3) 56 11 R.length (R.flatMap DRule.enc)) (by repeat' constructor)))) ?_) | (refine Zad hru ?_) | (refine bx ?_; intro bk))) | refine walk1 ?_)
    exact rtC
 ·simp only [decide_eq_false_iff_not, Int.ofNat_lt] at hc
  rw [List.drop_eq_nil_of_le (by omega), Zdv] at hi
  subst hi
  repeat (first | (refine js ?_; (refine bx ?_; intro bk)) | refine walk ?_)
  exact rtC
theorem ZAg {α : Type} {w : World} {A : Option Addr} {c sz : Nat} {enc : α -> List Value} {l : List α} (h : RdSl w A c enc sz l) (k : Nat) : RdSl w A c enc sz (l.take k) where
 le := by have := h.le; rw [List.length_take]; omega
 cap := h.cap
 rd := fun j x hj => h.rd j x (by
  rw [List.getElem?_take] at hj
  split at hj
  ·exact hj
  ·cases hj)
theorem ZvR {G : Prop} (h : G := by (first | exact PuI | (apply ZaH; rfl; rfl; exact hb))) : G := h
theorem ZpC {G : Prop} (h : G := by (first | exact ZvR | (apply Pu_sliceH; rfl; rfl; omega; omega))) : G := h
theorem Zsw {G G' : Prop} (k : G') (h : Hold G' -> G := by intro k9; (first | (apply RL_pu; rfl; exact ZpC) | (refine js ?_; (first | (refine ZaW (fun w' hw hO => hot A3 c3 w' (Za4 DRule.len (hO.of (A := .row (.slice A3 R.length c3) 56 11 R.length (R.flatMap DRule.enc)) (by repeat' constructor)))) ?_) | (refine Zad hco ?_) | (refine ZaW (fun w' hw hO => hle A3 c3 w' (Za4 DRule.len (hO.of (A := .row (.slice A3 R.length c3) 56 11 R.length (R.flatMap DRule.enc)) (by repeat' constructor)))) ?_))) | refine walk1 ?_); exact k9.out) : G := h ⟨k⟩
theorem ZmC (Ar Az Al As : Option Addr) (cr cz cl cs : Nat) (a : Zab) (w : World) (hA : Zaj w Ar Az Al As cr cz cl cs a) (hS : Zg8 a) :
  Does Tryz.prog 52 [srcV Ar Az Al As cr cz cl cs a] w (fun v O => v = ptV (Zbb a a.shifts [] 0) /\ O = []) := by
 have hn := hS.nr
 have hns := hS.ns
 have hcap := hA.s.le
 obtain ⟨res, hres⟩ : ∃ res, Zbb a a.shifts [] 0 = res := ⟨_, rfl⟩
 rw [hres]
 refine Zaa Tryz.func52 rfl rfl rfl rfl ?_
 repeat (first | (refine js ?_; (refine bx ?_; intro bk)) | refine walk ?_)
 rename_i b1
 obtain ⟨b2, hb2⟩ : ∃ b2, bk = b2 := ⟨_, rfl⟩
 rw [hb2]
 clear hb2 bk
 refine Zaq [(1, .pointer (some ⟨b1, 0, none⟩)), (2, .pointer (some ⟨b2, 0, none⟩)), (12, .slice As a.shifts.length cs), (13, .int .i64 a.shifts.length)] [.blk b2 [.int .i64 0, .int .i64 0, .int .i64 0] 36, .blk b1 [.slice Ar a.rules.length cr, .slice Az a.zones.length cz, .slice Al a.links.length cl, .slice As a.shifts.length cs] 117]
  (fun k : Nat => [(14, .int .i64 k)]) (fun _ => []) (fun k => k <= a.shifts.length /\ Zbb a (a.shifts.drop k) (a.shifts.take k) k = res) (fun k => a.shifts.length - k) 0 SFA SOA ⟨Nat.zero_le _, hres⟩ ?_
 clear hres
 rintro k ⟨hk, hi⟩
 repeat (first | (refine js ?_; (refine bx ?_; intro bk)) | refine walk ?_)
 refine Zah rfl (fun hc => ?_) (fun hc => ?_)
 ·simp only [decide_eq_true_eq, Int.ofNat_lt] at hc
  obtain ⟨hna, hca⟩ := hA.s.rd k _ (List.getElem?_eq_getElem hc)
  have htk := List.take_append_getElem hc
  have hco := fun w' (hw : Bel w.heap.size w w') => Zle As cs (a.shifts.take k) a.shifts[k] w' ((ZAg hA.s k).up hw)
  rw [show (a.shifts.take k).length = k by rw [List.length_take]; omega] at hco
  rw [Zan hc, Zbb] at hi
  rw [htk] at hi
  generalize a.shifts[k] = x at *
  have hof := fun w' (hw : Bel w.heap.size w w') => Zd2 Ar Az Al As cr cz cl cs a x w' (hA.up hw) hn
  have hot := fun A3 c3 w' h => ZgN A3 c3 (ofB a.rules x) w' h
  have hle := fun A3 c3 w' h => Zcq A3 c3 (ofB a.rules x) w' h
  generalize ofB a.rules x = R at *
  generalize Zbg R = od at *
  obtain ⟨ox, ob⟩ := od
  dsimp only at hi hot
  by_cases hR : R = []
  ·rw [if_pos hR] at hi
   subst hi
   have hb : decide ((R.length : Int) = 0) = true := by rw [hR]; rfl
   simp only [ptV, plV, Zao.enc]
   repeat (first | (apply RL_pu; rfl; exact ZvR) | (refine js ?_; (first | (apply Zac (h := fun w' hw _ => hof w' hw); rfl; rintro v O' ⟨A3, c3, rfl, rfl⟩) | (refine ZaW (fun w' hw hO => hot A3 c3 w' (Za4 DRule.len (hO.of (A := .row (.slice A3 R.length c3) 56 11 R.length (R.flatMap DRule.enc)) (by repeat' constructor)))) ?_) | (refine bx ?_; intro bk))) | refine walk1 ?_)
   exact rtC
  rw [if_neg hR] at hi
  have hb : decide ((R.length : Int) = 0) = false := decide_eq_false (fun h => hR (List.eq_nil_of_length_eq_zero (by omega)))
  cases hm : memB x (a.shifts.take k) with
  | true =>
   rw [hm] at hi hco
   rw [if_pos rfl] at hi
   subst hi
   simp only [ptV, plV, Zao.enc]
   repeat (first | (apply RL_pu; rfl; exact ZpC) | (refine js ?_; (first | (apply Zac (h := fun w' hw _ => hof w' hw); rfl; rintro v O' ⟨A3, c3, rfl, rfl⟩) | (refine ZaW (fun w' hw hO => hot A3 c3 w' (Za4 DRule.len (hO.of (A := .row (.slice A3 R.length c3) 56 11 R.length (R.flatMap DRule.enc)) (by repeat' constructor)))) ?_) | (refine Zad hco ?_) | (refine bx ?_; intro bk))) | refine walk1 ?_)
   exact rtC
  | false =>
   rw [hm] at hi hco
   rw [if_neg (by decide)] at hi
   generalize Zai R = lt at *
   by_cases hl : lt = 0
   ·subst hl
    cases ob with
    | false =>
     rw [if_pos (.inr rfl)] at hi
     subst hi
     simp only [ptV, plV, Zao.enc]
     repeat (first | refine Zsw ?_ | (refine js ?_; (first | (apply Zac (h := fun w' hw _ => hof w' hw); rfl; rintro v O' ⟨A3, c3, rfl, rfl⟩) | (refine bx ?_; intro bk))))
     exact rtC
    | true =>
     rw [if_neg (by rintro (h | h); exact h rfl; cases h)] at hi
     repeat (first | refine Zsw ?_ | (refine js ?_; (first | (apply Zac (h := fun w' hw _ => hof w' hw); rfl; rintro v O' ⟨A3, c3, rfl, rfl⟩) | (refine bx ?_; intro bk))))
     exact ⟨k + 1, OA, ⟨OA, hi⟩, SFA, SOA⟩
   ·rw [if_pos (.inl hl)] at hi
    subst hi
    have hb2 : (!decide (lt = 0)) = true := by rw [decide_eq_false hl]; rfl
    simp only [ptV, plV, Zao.enc]
    repeat (first | (apply RL_pu; rfl; (first | exact ZpC | (apply ZaG; rfl; rfl; exact hb2))) | (refine js ?_; (first | (apply Zac (h := fun w' hw _ => hof w' hw); rfl; rintro v O' ⟨A3, c3, rfl, rfl⟩) | (refine ZaW (fun w' hw hO => hot A3 c3 w' (Za4 DRule.len (hO.of (A := .row (.slice A3 R.length c3) 56 11 R.length (R.flatMap DRule.enc)) (by repeat' constructor)))) ?_) | (refine Zad hco ?_) | (refine ZaW (fun w' hw hO => hle A3 c3 w' (Za4 DRule.len (hO.of (A := .row (.slice A3 R.length c3) 56 11 R.length (R.flatMap DRule.enc)) (by repeat' constructor)))) ?_) | (refine bx ?_; intro bk))) | refine walk1 ?_)
    exact rtC
 ·simp only [decide_eq_false_iff_not, Int.ofNat_lt] at hc
  rw [List.drop_eq_nil_of_le (by omega), Zbb] at hi
  subst hi
  repeat (first | (refine js ?_; (refine bx ?_; intro bk)) | refine walk ?_)
  exact rtC
end Go.Proofs.YtbjomhdhkpgbaaaGreatDoor
