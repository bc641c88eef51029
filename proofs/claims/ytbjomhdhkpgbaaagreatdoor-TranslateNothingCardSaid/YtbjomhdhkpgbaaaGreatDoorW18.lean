/- Parts of the proof. -/
import Derived.Test.YtbjomhdhkpgbaaaGreatDoorW17
import Derived.Test.YtbjomhdhkpgbaaaGreatDoorW15
import Derived.Test.YtbjomhdhkpgbaaaGreatDoorW11
import Derived.Test.YtbjomhdhkpgbaaaGreatDoorW09
import Derived.Test.YtbjomhdhkpgbaaaGreatDoorW16
import Derived.Test.YtbjomhdhkpgbaaaGreatDoorW12
import Derived.Test.YtbjomhdhkpgbaaaGreatDoorW08
import Derived.Test.YtbjomhdhkpgbaaaGreatDoorW05
set_option maxHeartbeats 4000000
set_option linter.unusedVariables false
set_option linter.unusedSimpArgs false
namespace Go.Proofs.YtbjomhdhkpgbaaaGreatDoor
open Go Go.RowKit Go.Wk
attribute [local irreducible] W RL Does Zap Zak retQ Calls Pu Stp RD Qy Ay Zal
def Zoi (z : Za6) : Bool := decide (60 < z.eras.length)
theorem Zgk {α : Type} (p : α -> Bool) : ∀ (l : List α) (k : Nat), ZbK p l k = match l.findIdx? p with | some i => ((k + i : Nat) : Int) | none => -1
 | [], _ => rfl
 | x :: l, k => by
  rw [ZbK, List.findIdx?_cons]
  by_cases h : p x = true
  ·rw [if_pos h, if_pos h]; rfl
  ·rw [if_neg h, if_neg h, Zgk p l (k + 1)]
   cases l.findIdx? p with
   | none => rfl
   | some i => simp only [Option.map_some]; congr 1; omega
theorem ZnZ (n : ByteArray) (A : Option Addr) (m c : Nat) (w : World) : Does Tryz.prog 85 [.agg #[.string n, .slice A m c]] w (fun v O => v = .bool (decide (60 < m)) /\ O = []) := by
 have hb : decide ((60 : Int) < (m : Int)) = decide (60 < m) := by rw [decide_eq_decide]; omega
 refine Zaa Tryz.func85 rfl rfl rfl rfl ?_
 repeat (first | (apply RL_pu; rfl; (apply Za5; rfl; rfl; exact hb)) | (refine js ?_; (refine bx ?_; intro bk)) | refine walk1 ?_)
 exact rtA
theorem Zos (Ar Az Al As : Option Addr) (cr cz cl cs : Nat) (a : Zac) (w : World) (hA : Zan w Ar Az Al As cr cz cl cs a) (hn : a.zones.length <= 1000000) :
  Does Tryz.prog 84 [.slice Az a.zones.length cz, .func (.func 85) #[] #[]] w (fun v O => v = .int .i64 (ZbK Zoi a.zones 0) /\ O = []) := by
 obtain ⟨res, hres⟩ : ∃ res, ZbK Zoi a.zones 0 = res := ⟨_, rfl⟩
 rw [hres]
 refine Zaa Tryz.func84 rfl rfl rfl rfl ?_
 repeat (first | refine walk ?_)
 refine Zat [(0, .slice Az a.zones.length cz), (1, .func (.func 85) #[] #[]), (7, .int .i64 a.zones.length)] [] (fun k : Nat => [(8, .int .i64 k)]) (fun _ => []) (fun k => k <= a.zones.length /\ ZbK Zoi (a.zones.drop k) k = res) (fun k => a.zones.length - k) 0 SFA .nil ⟨Nat.zero_le _, hres⟩ ?_
 rintro k ⟨hk, hi⟩
 repeat (first | refine walk ?_)
 refine Zaf rfl (fun hc => ?_) (fun hc => ?_)
 ·simp only [decide_eq_true_eq, Int.ofNat_lt] at hc
  obtain ⟨hna, cs1, ⟨Ae, ce, _, rfl⟩, hca⟩ := hA.z k _ (List.getElem?_eq_getElem hc)
  rw [Zao hc, ZbK] at hi
  generalize a.zones[k] = z at *
  have h1 : ∀ w', Does Tryz.prog 85 ([] ++ [.agg #[.string z.name, .slice Ae z.eras.length ce]] ++ []) w' (fun v O => v = .bool (decide (60 < z.eras.length)) /\ O = []) := fun w' => ZnZ z.name Ae z.eras.length ce w'
  rw [show decide (60 < z.eras.length) = Zoi z from rfl] at h1
  generalize Zoi z = mb at *
  cases mb with
  | true =>
   rw [if_pos rfl] at hi
   subst hi
   repeat (first | (apply RL_pu; rfl; exact PuI) | (refine js ?_; (refine ZdQ (fun w' hw _ => h1 w') ?_)) | refine walk1 ?_)
   exact rtA
  | false =>
   rw [if_neg (by decide)] at hi
   repeat (first | (apply RL_pu; rfl; exact PuI) | (refine js ?_; (refine ZdQ (fun w' hw _ => h1 w') ?_)) | refine walk1 ?_)
   exact ⟨k + 1, OA, ⟨OA, hi⟩, SFA, .nil⟩
 ·simp only [decide_eq_false_iff_not, Int.ofNat_lt] at hc
  rw [List.drop_eq_nil_of_le (by omega), ZbK] at hi
  subst hi
  repeat (first | refine walk ?_)
  exact rtA
theorem Zvk {G : Prop} (h : G := by (apply Za5; rfl; rfl; exact b1)) : G := h
theorem Zpx {G : Prop} (h : G := by (first | exact Zvk | (apply Za5; rfl; rfl; exact b2))) : G := h
theorem Zvj {G : Prop} (h : G := by (first | exact Zpx | (apply Za5; rfl; rfl; exact b3))) : G := h
theorem Zvi {G : Prop} (h : G := by (first | exact Zvj | (apply Za5; rfl; rfl; exact b4))) : G := h
theorem Zq3 (Ar Az Al As : Option Addr) (cr cz cl cs : Nat) (a : Zac) (w : World) (hA : Zan w Ar Az Al As cr cz cl cs a) (hn : a.zones.length <= 1000000) :
  Does Tryz.prog 50 [srcV Ar Az Al As cr cz cl cs a] w (fun v O => v = ptV (Zeq a) /\ O = []) := by
 have hix := fun w' (hw : Bel w.heap.size w w') => Zos Ar Az Al As cr cz cl cs a w' (hA.up hw) hn
 rw [Zgk] at hix
 unfold Zeq
 rw [show (fun z : Za6 => decide (60 < z.eras.length)) = Zoi from rfl]
 generalize a.zones.findIdx? Zoi = fi at *
 refine Zaa Tryz.func50 rfl rfl rfl rfl ?_
 by_cases h1 : 2000 < a.rules.length
 ·have b1 : decide ((2000 : Int) < a.rules.length) = true := decide_eq_true (by omega)
  rw [if_pos h1]
  repeat (first | (apply RL_pu; rfl; exact Zvk) | (refine js ?_; (refine bx ?_; intro bk)) | refine walk1 ?_)
  exact rtC
 have b1 : decide ((2000 : Int) < a.rules.length) = false := decide_eq_false (by omega)
 rw [if_neg h1]
 by_cases h2 : 500 < a.zones.length
 ·have b2 : decide ((500 : Int) < a.zones.length) = true := decide_eq_true (by omega)
  rw [if_pos h2]
  repeat (first | (apply RL_pu; rfl; exact Zpx) | (refine js ?_; (refine bx ?_; intro bk)) | refine walk1 ?_)
  exact rtC
 have b2 : decide ((500 : Int) < a.zones.length) = false := decide_eq_false (by omega)
 rw [if_neg h2]
 cases fi with
 | some i =>
  dsimp only at hix ⊢
  rw [Nat.zero_add] at hix
  have b3 : decide ((0 : Int) <= (i : Int)) = true := decide_eq_true (by omega)
  repeat (first | (apply RL_pu; rfl; (first | exact Zpx | (apply Ze0; rfl; rfl; exact b3))) | (refine js ?_; (first | (refine Zae hix ?_) | (refine bx ?_; intro bk))) | refine walk1 ?_)
  exact rtC
 | none =>
  dsimp only at hix ⊢
  by_cases h3 : 1000 < a.links.length
  ·have b3 : decide ((1000 : Int) < a.links.length) = true := decide_eq_true (by omega)
   rw [if_pos h3]
   repeat (first | (apply RL_pu; rfl; exact Zvj) | (refine js ?_; (first | (refine Zae hix ?_) | (refine bx ?_; intro bk))) | refine walk1 ?_)
   exact rtC
  have b3 : decide ((1000 : Int) < a.links.length) = false := decide_eq_false (by omega)
  rw [if_neg h3]
  by_cases h4 : 2000 < a.shifts.length
  ·have b4 : decide ((2000 : Int) < a.shifts.length) = true := decide_eq_true (by omega)
   rw [if_pos h4]
   repeat (first | (apply RL_pu; rfl; exact Zvi) | (refine js ?_; (first | (refine Zae hix ?_) | (refine bx ?_; intro bk))) | refine walk1 ?_)
   exact rtC
  have b4 : decide ((2000 : Int) < a.shifts.length) = false := decide_eq_false (by omega)
  rw [if_neg h4]
  repeat (first | (apply RL_pu; rfl; exact Zvi) | (refine js ?_; (first | (refine Zae hix ?_) | (refine bx ?_; intro bk))) | refine walk1 ?_)
  exact rtC
theorem Zon (Ar Az Al As : Option Addr) (cr cz cl cs : Nat) (a : Zac) (w : World) (hA : Zan w Ar Az Al As cr cz cl cs a) (hS : Zg4 a) :
  Does Tryz.prog 53 [srcV Ar Az Al As cr cz cl cs a] w (fun v O => v = ptV (ZcZ a) /\ O = []) := by
 have h := fun w' (hw : Bel w.heap.size w w') => Zro Ar Az Al As cr cz cl cs a w' (hA.up hw) hS
 refine Zaa Tryz.func53 rfl rfl rfl rfl ?_
 generalize ZcZ a = o at *
 cases o with
 | none =>
  simp only [ptV, plV, Zar.enc] at h ⊢
  repeat (first | (refine js ?_; (first | (refine Zae h ?_) | (refine bx ?_; intro bk))) | refine walk ?_)
  exact rtC
 | some pe =>
  obtain ⟨⟨p1, p2, p3⟩, e⟩ := pe
  simp only [ptV, plV, Zar.enc] at h ⊢
  repeat (first | (refine js ?_; (first | (refine Zae h ?_) | (refine bx ?_; intro bk))) | refine walk ?_)
  exact rtC
structure RlG where
 k : Nat
 i : Nat
theorem Zn4 (x : ByteArray) (r : Zab) (l : List Zab) (i k : Nat) : ZdL x (r :: l) i k = if r.name = x then (match i with | 0 => ⟨1, k, 0⟩ | i + 1 => ZdL x l i (k + 1)) else ZdL x l i (k + 1) := by cases i <;> rfl
theorem Zq9 (x : ByteArray) (i k : Nat) : ZdL x [] i k = ⟨0, 0, 0⟩ := by cases i <;> rfl
theorem Zpw {G : Prop} (h : G := by (first | exact PuI | (apply Zgy; rfl; rfl; exact hb))) : G := h
theorem ZsH (Ar Az Al As : Option Addr) (cr cz cl cs : Nat) (a : Zac) (x : ByteArray) (i : Nat) (w : World) (hA : Zan w Ar Az Al As cr cz cl cs a) (hn : a.rules.length <= 1000000) (hi : i <= 1000000) :
  Does Tryz.prog 91 [srcV Ar Az Al As cr cz cl cs a, .string x, .int .i64 i] w (fun v O => v = plV (ZdL x a.rules i 0) /\ O = []) := by
 obtain ⟨res, hres⟩ : ∃ res, ZdL x a.rules i 0 = res := ⟨_, rfl⟩
 rw [hres]
 refine Zaa Tryz.func91 rfl rfl rfl rfl ?_
 repeat (first | (refine js ?_; (refine bx ?_; intro bk)) | refine walk ?_)
 obtain ⟨b6, hb6⟩ : ∃ b6, bk = b6 := ⟨_, rfl⟩
 rw [hb6]
 clear hb6 bk
 refine Zat [(1, .string x), (6, .pointer (some ⟨b6, 0, none⟩)), (11, .slice Ar a.rules.length cr), (12, .int .i64 a.rules.length)] [.blk b6 [.int .i64 0, .int .i64 0, .int .i64 0] 36] (fun g : RlG => [(2, .int .i64 g.i), (13, .int .i64 g.k)]) (fun _ => []) (fun g => g.k <= a.rules.length /\ g.i <= 1000000 /\ ZdL x (a.rules.drop g.k) g.i g.k = res) (fun g => a.rules.length - g.k) ⟨0, i⟩ SFA SOA ⟨Nat.zero_le _, hi, hres⟩ ?_
 clear hi hres
 rintro ⟨k, i⟩ ⟨hk, hi6, hi⟩
 dsimp only at hk hi6 hi ⊢
 repeat (first | (refine js ?_; (refine bx ?_; intro bk)) | refine walk ?_)
 refine Zaf rfl (fun hc => ?_) (fun hc => ?_)
 ·simp only [decide_eq_true_eq, Int.ofNat_lt] at hc
  obtain ⟨hna, hca⟩ := hA.r.rd k _ (List.getElem?_eq_getElem hc)
  rw [Zao hc, Zn4] at hi
  generalize a.rules[k] = r at *
  by_cases hx : r.name = x
  ·have hb : (!decide (r.name = x)) = false := by rw [decide_eq_true hx]; rfl
   rw [if_pos hx] at hi
   cases i with
   | zero =>
    dsimp only at hi
    subst hi
    repeat (first | (apply RL_pu; rfl; exact Zpw) | (refine js ?_; (refine bx ?_; intro bk)) | refine walk1 ?_)
    exact ret_1 _ [] (.cellB rfl (by repeat' constructor) rfl rfl) .nil ⟨rfl, rfl⟩
   | succ i =>
    dsimp only at hi
    have hb2 : decide (((i + 1 : Nat) : Int) = 0) = false := decide_eq_false (by omega)
    repeat (first | (apply RL_pu; rfl; (first | exact Zpw | (apply ZaF; rfl; rfl; exact hb2))) | (refine js ?_; (refine bx ?_; intro bk)) | refine walk1 ?_)
    rw [show ((i + 1 : Nat) : Int) - 1 = (i : Int) by omega]
    exact ⟨⟨k + 1, i⟩, OA, ⟨OA, OA, hi⟩, SFA, SOA⟩
  ·have hb : (!decide (r.name = x)) = true := by rw [decide_eq_false hx]; rfl
   rw [if_neg hx] at hi
   repeat (first | (apply RL_pu; rfl; exact Zpw) | (refine js ?_; (refine bx ?_; intro bk)) | refine walk1 ?_)
   exact ⟨⟨k + 1, i⟩, OA, ⟨OA, OA, hi⟩, SFA, SOA⟩
 ·simp only [decide_eq_false_iff_not, Int.ofNat_lt] at hc
  rw [List.drop_eq_nil_of_le (by omega), Zq9] at hi
  subst hi
  repeat (first | (refine js ?_; (refine bx ?_; intro bk)) | refine walk ?_)
  exact ret_1 _ [] (.cellB rfl (by repeat' constructor) rfl rfl) .nil ⟨rfl, rfl⟩
theorem ZgP : ∀ (l : List Zab) (acc : List ByteArray) (x : ByteArray), x ∈ ZaV l acc -> x ∈ acc \/ ∃ r ∈ l, r.name = x
 | [], acc, x, h => .inl h
 | r :: l, acc, x, h => by
  rw [ZaV] at h
  split at h
  ·rcases ZgP l acc x h with h | ⟨q, hq, e⟩
   ·exact .inl h
   ·exact .inr ⟨q, List.mem_cons_of_mem _ hq, e⟩
  ·rcases ZgP l _ x h with h | ⟨q, hq, e⟩
   ·rcases List.mem_append.1 h with h | h
    ·exact .inl h
    ·simp only [List.mem_singleton] at h; exact .inr ⟨r, List.mem_cons_self, h.symm⟩
   ·exact .inr ⟨q, List.mem_cons_of_mem _ hq, e⟩
theorem Ze8 : ∀ (l : List Zab) (acc : List ByteArray), (ZaV l acc).length <= acc.length + l.length
 | [], acc => Nat.le_refl _
 | r :: l, acc => by
  rw [ZaV]
  split
  ·have := Ze8 l acc; simp only [List.length_cons]; omega
  ·have := Ze8 l (acc ++ [r.name]); simp only [List.length_append, List.length_cons, List.length_nil] at this ⊢; omega
theorem Zkc : ∀ (l : List Zag) (e : Zag), Zc0 l = some e -> e ∈ l
 | [], _, h => by cases h
 | [_], _, h => by cases h
 | a :: b :: l, e, h => by
  rw [Zc0] at h
  split at h
  ·simp only [Option.some.injEq] at h; subst h; exact List.mem_cons_of_mem _ List.mem_cons_self
  ·exact List.mem_cons_of_mem _ (Zkc (b :: l) e h)
theorem ZjD (least y : Int) : ∀ (l : List Zab) (i : Nat), ∀ e ∈ ZdU least y l i, ∃ j : Nat, e.rule = j /\ j < i + l.length
 | [], _ => fun e h => by cases h
 | r :: l, i => fun e he => by
  rw [ZdU] at he
  rcases List.mem_append.1 he with h | h
  ·have : onR least r i y = some e := by
    cases ho : onR least r i y with
    | none => rw [ho] at h; cases h
    | some x => rw [ho] at h; simp only [Option.toList, List.mem_singleton] at h; rw [h]
   unfold onR at this
   split at this
   ·cases this
   ·split at this
    ·cases this
    ·simp only [Option.some.injEq] at this
     subst this
     exact ⟨i, rfl, by simp⟩
  ·obtain ⟨j, h1, h2⟩ := ZjD least y l (i + 1) e h
   exact ⟨j, h1, by simp only [List.length_cons]; omega⟩
theorem Znh (l : List Zab) (least from_ : Int) : ∀ k, ∀ e ∈ allC l least from_ k, ∃ j : Nat, e.rule = j /\ j < l.length
 | 0 => fun e h => by cases h
 | k + 1 => fun e he => by
  rw [allC] at he
  rcases List.mem_append.1 he with h | h
  ·exact Znh l least from_ k e h
  ·have := ZjD _ _ _ _ e h
   simpa using this
theorem ZoV (l : List Zab) (e : Zag) (h : Zfu l = some e) : ∃ j : Nat, e.rule = j /\ j < l.length := by
 rw [<- Zne] at h
 exact Znh _ _ _ _ e (List.mem_mergeSort.1 (Zkc _ _ h))
def Zlr (s : Zac) : Prop := ∀ r ∈ s.rules, (-4611686018427387904 <= r.save /\ r.save <= 4611686018427387904) /\ r.from_ <= 4611686018427387904
theorem ZsY {l : List Zab} {x : ByteArray} {r : Zab} (h : r ∈ ofB l x) : r ∈ l := (List.mem_filter.1 h).1
def SavI (s : Zac) : Prop := ∀ r ∈ s.rules, -9223372036854775808 <= r.save /\ r.save <= 9223372036854775807
theorem Zgj (least : Int) : ∀ (l : List Zab) (k : Nat), Zbj least l k = none -> ∀ r ∈ l, Zce r least = 0
 | [], _, _, _, h => by cases h
 | x :: l, k, h, r, hr => by
  rw [Zbj] at h
  by_cases h0 : Zce x least = 0
  ·rw [if_pos h0] at h
   rcases List.mem_cons.1 hr with rfl | hr
   ·exact h0
   ·exact Zgj least l (k + 1) h r hr
  ·rw [if_neg h0] at h
   cases h
theorem ZsI {r : Zab} {least : Int} (h : Zce r least = 0) : (-4611686018427387904 <= r.save /\ r.save <= 4611686018427387904) /\ r.from_ <= 4611686018427387904 := by
 unfold Zce at h
 split at h
 ·cases h
 ·rename_i h1
  split at h
  ·cases h
  ·split at h
   ·cases h
   ·split at h
    ·cases h
    ·split at h
     ·cases h
     ·rename_i h2
      have e2 : (decide (-10800 <= r.save) && decide (r.save <= 10800)) = true := by
       cases hh : (decide (-10800 <= r.save) && decide (r.save <= 10800)) with
       | true => rfl
       | false => exact absurd hh h2
      have e1 : Zco r.from_ = true := by
       cases hh : Zco r.from_ with
       | true => rfl
       | false => rw [hh] at h1; exact absurd rfl h1
      unfold Zco at e1
      simp only [Bool.and_eq_true, decide_eq_true_eq] at e1 e2
      omega
theorem Zmc {l : List Zab} (h : (ZdZ l).2 = 0) : ∀ r ∈ l, (-4611686018427387904 <= r.save /\ r.save <= 4611686018427387904) /\ r.from_ <= 4611686018427387904 := by
 intro r hr
 unfold ZdZ at h
 cases hf : Zbj (Zaj l) l 0 with
 | none => exact ZsI (Zgj _ l 0 hf r hr)
 | some x =>
  rw [hf] at h
  exfalso
  have : ∀ (l : List Zab) (k : Nat) (x : Nat × Int) (m : Int), Zbj m l k = some x -> x.2 ≠ 0 := fun l => by
   induction l with
   | nil => intro k x m h; cases h
   | cons y l ih =>
    intro k x m h
    rw [Zbj] at h
    split at h
    ·exact ih _ _ _ h
    ·rename_i h0
     simp only [Option.some.injEq] at h
     rw [<- h]
     exact h0
  exact this _ _ _ _ hf h
theorem ZeL : ∀ (l : List Zab) (acc : List ByteArray), (∀ x ∈ acc, x ∈ ZaV l acc) /\ ∀ r ∈ l, r.name ∈ ZaV l acc
 | [], acc => ⟨fun _ h => h, fun _ h => by cases h⟩
 | y :: l, acc => by
  rw [ZaV]
  by_cases hm : memB y.name acc = true
  ·rw [if_pos hm]
   have ih := ZeL l acc
   refine ⟨ih.1, fun r hr => ?_⟩
   rcases List.mem_cons.1 hr with rfl | hr
   ·refine ih.1 _ ?_
    have : ∀ (l : List ByteArray) (x : ByteArray), memB x l = true -> x ∈ l := fun l => by
     induction l with
     | nil => intro x h; cases h
     | cons z l ih2 =>
      intro x h
      rw [memB, Bool.or_eq_true, decide_eq_true_eq] at h
      rcases h with rfl | h
      ·exact List.mem_cons_self
      ·exact List.mem_cons_of_mem _ (ih2 x h)
    exact this _ _ hm
   ·exact ih.2 r hr
  ·rw [if_neg hm]
   have ih := ZeL l (acc ++ [y.name])
   refine ⟨fun x hx => ih.1 x (List.mem_append_left _ hx), fun r hr => ?_⟩
   rcases List.mem_cons.1 hr with rfl | hr
   ·exact ih.1 _ (List.mem_append_right _ (List.mem_singleton.2 rfl))
   ·exact ih.2 r hr
theorem Zh9 (rs : List Zab) : ∀ l : List ByteArray, ZdI rs l = none -> ∀ x ∈ l, (ZdZ (ofB rs x)).2 = 0
 | [], _, _, h => by cases h
 | y :: l, h, x, hx => by
  rw [ZdI] at h
  cases hf : Zcd rs y with
  | some z => rw [hf] at h; cases h
  | none =>
   rw [hf] at h
   rcases List.mem_cons.1 hx with rfl | hx
   ·unfold Zcd at hf
    split at hf
    ·cases hf
    ·split at hf
     ·cases hf
     ·rename_i h2
      exact Decidable.of_not_not h2
   ·exact Zh9 rs l h x hx
theorem ZsC {s : Zac} (h : Zhy s = none) : Zlr s := fun r hr =>
 Zmc (Zh9 s.rules _ h r.name ((ZeL s.rules []).2 r hr)) r (List.mem_filter.2 ⟨hr, decide_eq_true rfl⟩)
theorem Zod (l : List Zab) (x : ByteArray) : (ofB l x).length <= l.length := List.length_filter_le _ _
theorem ZiG (least : Int) : ∀ (l : List Zab) (i : Nat) (j : Nat) (e : Int), Zbj least l i = some (j, e) -> j < i + l.length
 | [], _, _, _, h => by cases h
 | r :: l, i, j, e, h => by
  rw [Zbj] at h
  split at h
  ·have := ZiG least l (i + 1) j e h; simp only [List.length_cons]; omega
  ·simp only [Option.some.injEq, Prod.mk.injEq] at h; simp only [List.length_cons]; omega
end Go.Proofs.YtbjomhdhkpgbaaaGreatDoor
set_option maxHeartbeats 8000000
namespace Go.Proofs.YtbjomhdhkpgbaaaGreatDoor
open Go Go.RowKit Go.Wk
attribute [local irreducible] W RL Does Zap Zak retQ Calls Pu Stp RD Qy Ay Zal WI RLI
set_option maxRecDepth 20000 in
theorem ZsK (b : Nat) (wr : World) (O : List It) (w : World) (hB : Bel wr.heap.size wr w) (hH : Zau wr.heap.size O w) : CallsD Tryz.prog 61 #[.pointer (some ⟨b, 0, none⟩)] .returning w (fun e u' w' => e = .returned (.tuple #[]) /\ u' = .returning /\ Bel wr.heap.size wr w' /\ Zau wr.heap.size O w') := by
 refine callsD_of_wpS Tryz.func61 rfl fun c₀ cs hu => ?_
 -- Zaa Tryz.func61
 refine wpS_seq (wpS_region ?_)
 show wpOpsS _ _ _ [0, 1] _ _ _
 refine ZqY rfl (ZkM hu) ?_
 have hs0 : St 17 wr [] O { tmps := #[.pointer (some ⟨b, 0, none⟩)] ++ Array.replicate (Tryz.f61.ntmps - 1) undef, defers := [] } w := ⟨⟨rfl, by rfl, fun t v hv => (by cases hv)⟩, hB, hH⟩
 have hs1 := St.mk (hs0.sim.put (d := 4) rfl .nilIface) hB hH
 refine ZqX rfl hs1 (v := .nilIface) (by apply Pu_assign; rfl) ?_
 have hs2 := St.mk (hs1.sim.put (d := 1) rfl .nilIface) hB hH
 refine ZqZ ?_
 refine wpS_of_wp ?_
 have hW : ∀ y Q, (∀ e a' w', lift 17 wr (fun e fr' O' => e = .normal /\ SubO O O') e a' w' -> Q e a' w') -> W Tryz.prog 17 wr y (fun e fr' O' => e = .normal /\ SubO O O') [(1, .nilIface), (4, .nilIface)] O -> y.wp Tryz.prog Q _ w := fun y Q hq h => wp_mono (W_at h hs2) hq
 refine hW _ _ ?_ ?_
 ·rintro e a' w' ⟨fr', O', hs', rfl, hO⟩
  have hr : (results Tryz.f61 a'.tmps).run Tryz.prog w' = .ok (.tuple #[]) w' := by
   have hres : Tryz.f61.results = #[] := rfl
   unfold results
   rw [hres]
   simp
  exact ⟨hs'.sim.defers, .returning, by rw [<- hu], .tuple #[], hr, rfl, rfl, hs'.old, hs'.own.sub hO⟩
 ·repeat (first | (apply RL_pu; rfl; (apply Zg5; exact ⟨_, rfl⟩; rfl; exact .inl ⟨rfl, rfl⟩)) | (refine js ?_; (refine bx ?_; intro bk)) | refine walk1 ?_)
  exact ⟨rfl, .refl _⟩
instance zfnT : ZeroT Tryz.prog 134 [.nilFunc] := ⟨by kernel_rfl⟩
theorem ZlY (form : Int) (h : form = 1 \/ form = 2 \/ form = 3) (w : World) : Does Tryz.prog 62 [.int .i64 form] w (fun v O => ∃ b, v = .slice (some ⟨b, 0, none⟩) (form + 1).toNat 4 /\ O = [.blk b [.func (.func 102) #[] #[], .func (.func 103) #[] #[], .func (.func 104) #[] #[], .func (.func 105) #[] #[]] 134]) := by
 have h1 : form + 1 <= 4 /\ 0 <= form := by omega
 refine Zaa Tryz.func62 rfl rfl rfl rfl ?_
 repeat (first | (refine js ?_; (refine bx ?_; intro bk)) | refine walk ?_)
 exact ret_1 _ [_] (.tmp rfl) SOA ⟨bk, rfl, rfl⟩
def stD (s : Zac) : Nat -> Zac
 | 0 => s
 | 1 => ZaA s
 | 2 => ZaL (ZaA s)
 | 3 => ZbW (ZaL (ZaA s))
 | _ => Zrb (ZbW (ZaL (ZaA s)))
theorem ZlR : ∀ (l : List ByteArray) {s : Zac}, Fits s -> Fits (unGo l s)
 | [], _, h => h
 | _ :: l, _, h => ZlR l (h.byS _ _)
theorem Zbw {s : Zac} (h : Fits s) : Fits (ZaA s) := by
 obtain ⟨h1, h2, h3, h4, h5⟩ := ZlR s.shifts h
 exact ⟨h1, h2, h3, Nat.zero_le _, h5⟩
structure ToOk (form : Int) (s : Zac) : Prop where
 fits : Fits s
 un : unB s.shifts s = true
 m1 : srcM (ZaA s) = true
 con : conB (ZaA s) = true
 m2 : 2 <= form -> srcM (ZaL (ZaA s)) = true
 ex : 2 <= form -> expB (ZaL (ZaA s)) = true
 re : 3 <= form -> reB (ZaV (ZbW (ZaL (ZaA s))).rules []) (ZbW (ZaL (ZaA s))) = true
theorem ZxV {form : Int} {s : Zac} (hf : form = 1 \/ form = 2 \/ form = 3) (h : Fits s) (ht : toB form s = true) : ToOk form s := by
 unfold toB at ht
 simp only [Bool.and_eq_true, Bool.or_eq_true, decide_eq_true_eq] at ht
 obtain ⟨a1, a2, a3, a4⟩ := ht
 refine ⟨h, a1, a2, a3, fun h2 => ?_, fun h2 => ?_, fun h3 => ?_⟩
 ·exact (a4.resolve_left (by omega)).1
 ·exact (a4.resolve_left (by omega)).2.1
 ·exact ((a4.resolve_left (by omega)).2.2.resolve_left (by omega)).2
theorem ZoQ {P : Program} {f : FuncId} {args : Array Value} {u : FrameMode} {w : World} {R R' : Ending -> FrameMode -> World -> Prop} (h : CallsD P f args u w R) (hr : ∀ e u' w', R e u' w' -> R' e u' w') : CallsD P f args u w R' := fun c cs hc => by
 obtain ⟨e, u', w', fr, h1, h2⟩ := h c cs hc
 exact ⟨e, u', w', fr, hr _ _ _ h1, h2⟩
theorem ZwY {s : Zac} (h : Fits s) : (ZbW (ZaL (ZaA s))).shifts.length + (ZaV (ZbW (ZaL (ZaA s))).rules []).length <= 1000000 := by
 have h1 := (Zbw h).r
 have h2 := Ze8 (ZaA s).rules []
 show 0 + (ZaV (ZaA s).rules []).length <= 1000000
 simp only [List.length_nil] at h2
 omega
def waR (bD : Nat) (t : Zac) (R : List It) (wr : World) : Ending -> World -> Prop := fun e w' => ∃ v O', e = .returned v /\ Bel wr.heap.size wr w' /\ Zau wr.heap.size O' w' /\ v = .int .i64 0 /\ DrAt wr bD t R O'
theorem ZqN {G : Prop} (h : G := by (apply Pu_indexAddr; rfl; rfl; omega; omega; exact Option.some_ne_none _)) : G := h
theorem ZhU (bD : Nat) (form : Int) (Ar Az Al As : Option Addr) (cr cz cl cs : Nat) (S : Nat -> Prop) (s : Zac) (R : List It) (wr : World) (hL : LibW wr) (hform : form = 1 \/ form = 2 \/ form = 3) (ht : ToOk form s) :
  Zal Tryz.prog 29 [.pointer (some ⟨bD, 0, none⟩), .int .i64 form] wr (drB bD Ar Az Al As cr cz cl cs s :: .fact S (drF wr Ar Az Al As cr cz cl cs s) :: R) (fun v O => v = .int .i64 0 /\ DrAt wr bD (stD s (form + 1).toNat) R O) := by
 unfold Zal
 intro w0 hB0 hH0
 refine ZlI Tryz.func29 rfl rfl rfl hB0 hH0 ?_
 -- Zaa Tryz.func29
 apply Zpy
 repeat (first | (refine js ?_; (refine bx ?_; intro bk)) | refine walk ?_)
 apply ZnU
 generalize bk = b4
 refine Zvl rfl (by apply Pu_makeFunc; rfl; rfl) rfl ?_
 intro a1 w1 hs1
 have key : ∀ c' Q' Q3, WI Fence.wide [{ target := .fn (.func 61) [.pointer (some ⟨b4, 0, none⟩)].toArray, args := #[] }] Tryz.prog 19 wr c' Q' _ _ -> (∀ e a' w', Zte [{ target := .fn (.func 61) [.pointer (some ⟨b4, 0, none⟩)].toArray, args := #[] }] 19 wr Q' e a' w' -> Q3 e a' w') -> c'.wp Tryz.prog Q3 (actD [{ target := .fn (.func 61) [.pointer (some ⟨b4, 0, none⟩)].toArray, args := #[] }] a1) w1 := fun c' Q' Q3 h hq => (wpIn_wide (n := 0)).1 (wpIn_mono (h.at hs1) hq)
 refine key _ (fun e fr O => (e = .normal \/ e = .ret) /\ ∃ Ar' Az' Al' As' cr' cz' cl' cs' S', Sub [(4, .pointer (some ⟨b4, 0, none⟩))] fr /\ SubO (.blk b4 [.int .i64 0] 37 :: drB bD Ar' Az' Al' As' cr' cz' cl' cs' (stD s (form + 1).toNat) :: .fact S' (drF wr Ar' Az' Al' As' cr' cz' cl' cs' (stD s (form + 1).toNat)) :: R) O) _ ?_ ?_
 ·refine ZbZ (ZbZ (Za7 (.inl rfl) (by repeat (first | exact .nil | (refine .plain rfl ?_) | apply Calms.call | apply Calms.append | apply Calms.len)) ?_))
  repeat (first | (refine js ?_; (first | (apply Zad (h := fun w' _ _ => ZlY form hform w'); rfl; rintro v O' ⟨bq, rfl, rfl⟩) | (refine bx ?_; intro bk))) | refine walk ?_)
  refine Zek (ZyH (fun g : DrG => [(11, .int .i64 g.k), (9, .slice (some ⟨bq, 0, none⟩) (form + 1).toNat 4), (10, .int .i64 (form + 1).toNat), (0, .pointer (some ⟨bD, 0, none⟩)), (4, .pointer (some ⟨b4, 0, none⟩))]) (fun g => drB bD g.Ar g.Az g.Al g.As g.cr g.cz g.cl g.cs g.s :: .fact g.S (drF wr g.Ar g.Az g.Al g.As g.cr g.cz g.cl g.cs g.s) :: .blk bq [.func (.func 102) #[] #[], .func (.func 103) #[] #[], .func (.func 104) #[] #[], .func (.func 105) #[] #[]] 134 :: .blk b4 [.int .i64 0] 37 :: R) (fun g => g.k <= (form + 1).toNat /\ g.s = stD s g.k) (fun g => (form + 1).toNat - g.k) ⟨0, Ar, Az, Al, As, cr, cz, cl, cs, s, S⟩ SFA STA ⟨Nat.zero_le _, rfl⟩ ?_)
  rintro ⟨k, A1, A2, A3, A4, c1, c2, c3, c4, t, S1⟩ ⟨hk, ht2⟩
  dsimp only at hk ht2 ⊢
  subst ht2
  refine ZbZ (Za7 (.inl rfl) (by repeat (first | exact .nil | (refine .plain rfl ?_) | apply Calms.call | apply Calms.append | apply Calms.len)) ?_)
  repeat (first | (refine js ?_; (refine bx ?_; intro bk)) | refine walk ?_)
  refine ZbZ (Zej rfl (fun hc => ?_) (fun hc => ?_))
  ·have hkl : k < (form + 1).toNat := by
    have := of_decide_eq_true hc
    omega
   refine Zlo ?_
   apply thenQ_n
   have hk4 : k = 0 \/ k = 1 \/ k = 2 \/ k = 3 := by omega
   rcases hk4 with rfl | rfl | rfl | rfl
   ·refine ZbZ (Zek (ZbZ (Za7 (.inl rfl) (by repeat (first | exact .nil | (refine .plain rfl ?_) | apply Calms.call | apply Calms.append | apply Calms.len)) ?_)))
    repeat (first | (apply RL_pu; rfl; exact ZqN) | (refine js ?_; (refine bx ?_; intro bk)) | refine walk1 ?_)
    refine Zb0 ?_
    apply ZbJ (.inl rfl); rfl; (intro c h; cases h); (apply Pu_move; rfl)
    apply ZbJ (.inl rfl); rfl; (intro c h; cases h); (apply Pu_move; rfl)
    apply ZdR (.inl rfl); (intro d hd; cases hd; rfl); (intro c h; cases h); (intro a w hs; exact Zb9 (us := []) (cs := []) (xs := [_]) hs rfl)
    refine Zel (us := []) (cs := []) (xs := [_]) rfl rfl (h := ZlQ bD A1 A2 A3 A4 c1 c2 c3 c4 S1 s _ wr hL ht.fits ht.un) (.cons (by repeat' constructor) (.cons (by repeat' constructor) (.refl _))) ?_
    rintro v O' ⟨rfl, B1, B2, B3, B4, d1, d2, d3, d4, S2, rfl⟩
    refine ZbC ?_
    refine blockQ_n (thenQ_n ?_)
    refine Za7 (.inl rfl) (by repeat (first | exact .nil | (refine .plain rfl ?_) | apply Calms.call | apply Calms.append | apply Calms.len)) ?_
    repeat (first | (refine js ?_; (refine bx ?_; intro bk)) | refine walk ?_)
    exact ⟨⟨0 + 1, B1, B2, B3, B4, d1, d2, d3, d4, _, S2⟩, OA, ⟨hkl, rfl⟩, SFA, STA⟩
   ·refine ZbZ (Zek (ZbZ (Za7 (.inl rfl) (by repeat (first | exact .nil | (refine .plain rfl ?_) | apply Calms.call | apply Calms.append | apply Calms.len)) ?_)))
    repeat (first | (apply RL_pu; rfl; exact ZqN) | (refine js ?_; (refine bx ?_; intro bk)) | refine walk1 ?_)
    refine Zb0 ?_
    apply ZbJ (.inl rfl); rfl; (intro c h; cases h); (apply Pu_move; rfl)
    apply ZbJ (.inl rfl); rfl; (intro c h; cases h); (apply Pu_move; rfl)
    apply ZdR (.inl rfl); (intro d hd; cases hd; rfl); (intro c h; cases h); (intro a w hs; exact Zb9 (us := []) (cs := []) (xs := [_]) hs rfl)
    refine Zel (us := []) (cs := []) (xs := [_]) rfl rfl (h := Zk9 bD A1 A2 A3 A4 c1 c2 c3 c4 S1 (ZaA s) _ wr hL (Zbw ht.fits) ht.m1 ht.con) (.cons (by repeat' constructor) (.cons (by repeat' constructor) (.refl _))) ?_
    rintro v O' ⟨rfl, B1, B2, B3, B4, d1, d2, d3, d4, S2, rfl⟩
    refine ZbC ?_
    refine blockQ_n (thenQ_n ?_)
    refine Za7 (.inl rfl) (by repeat (first | exact .nil | (refine .plain rfl ?_) | apply Calms.call | apply Calms.append | apply Calms.len)) ?_
    repeat (first | (refine js ?_; (refine bx ?_; intro bk)) | refine walk ?_)
    exact ⟨⟨1 + 1, B1, B2, B3, B4, d1, d2, d3, d4, _, S2⟩, OA, ⟨hkl, rfl⟩, SFA, STA⟩
   ·refine ZbZ (Zek (ZbZ (Za7 (.inl rfl) (by repeat (first | exact .nil | (refine .plain rfl ?_) | apply Calms.call | apply Calms.append | apply Calms.len)) ?_)))
    repeat (first | (apply RL_pu; rfl; exact ZqN) | (refine js ?_; (refine bx ?_; intro bk)) | refine walk1 ?_)
    refine Zb0 ?_
    apply ZbJ (.inl rfl); rfl; (intro c h; cases h); (apply Pu_move; rfl)
    apply ZbJ (.inl rfl); rfl; (intro c h; cases h); (apply Pu_move; rfl)
    apply ZdR (.inl rfl); (intro d hd; cases hd; rfl); (intro c h; cases h); (intro a w hs; exact Zb9 (us := []) (cs := []) (xs := [_]) hs rfl)
    refine Zel (us := []) (cs := []) (xs := [_]) rfl rfl (h := Zk2 bD A1 A2 A3 A4 c1 c2 c3 c4 S1 (ZaL (ZaA s)) _ wr ((Zbw ht.fits).erasS _) (ht.m2 (by omega)) (ht.ex (by omega))) (.cons (by repeat' constructor) (.cons (by repeat' constructor) (.refl _))) ?_
    rintro v O' ⟨rfl, B1, B2, B3, B4, d1, d2, d3, d4, S2, rfl⟩
    refine ZbC ?_
    refine blockQ_n (thenQ_n ?_)
    refine Za7 (.inl rfl) (by repeat (first | exact .nil | (refine .plain rfl ?_) | apply Calms.call | apply Calms.append | apply Calms.len)) ?_
    repeat (first | (refine js ?_; (refine bx ?_; intro bk)) | refine walk ?_)
    exact ⟨⟨2 + 1, B1, B2, B3, B4, d1, d2, d3, d4, _, S2⟩, OA, ⟨hkl, rfl⟩, SFA, STA⟩
   ·refine ZbZ (Zek (ZbZ (Za7 (.inl rfl) (by repeat (first | exact .nil | (refine .plain rfl ?_) | apply Calms.call | apply Calms.append | apply Calms.len)) ?_)))
    repeat (first | (apply RL_pu; rfl; exact ZqN) | (refine js ?_; (refine bx ?_; intro bk)) | refine walk1 ?_)
    refine Zb0 ?_
    apply ZbJ (.inl rfl); rfl; (intro c h; cases h); (apply Pu_move; rfl)
    apply ZbJ (.inl rfl); rfl; (intro c h; cases h); (apply Pu_move; rfl)
    apply ZdR (.inl rfl); (intro d hd; cases hd; rfl); (intro c h; cases h); (intro a w hs; exact Zb9 (us := []) (cs := []) (xs := [_]) hs rfl)
    refine Zel (us := []) (cs := []) (xs := [_]) rfl rfl (h := Zl6 bD A1 A2 A3 A4 c1 c2 c3 c4 S1 (ZbW (ZaL (ZaA s))) _ wr hL (((Zbw ht.fits).erasS _).erasS _) (ZwY ht.fits) (ht.re (by omega))) (.cons (by repeat' constructor) (.cons (by repeat' constructor) (.refl _))) ?_
    rintro v O' ⟨rfl, B1, B2, B3, B4, d1, d2, d3, d4, S2, rfl⟩
    refine ZbC ?_
    refine blockQ_n (thenQ_n ?_)
    refine Za7 (.inl rfl) (by repeat (first | exact .nil | (refine .plain rfl ?_) | apply Calms.call | apply Calms.append | apply Calms.len)) ?_
    repeat (first | (refine js ?_; (refine bx ?_; intro bk)) | refine walk ?_)
    exact ⟨⟨3 + 1, B1, B2, B3, B4, d1, d2, d3, d4, _, S2⟩, OA, ⟨hkl, rfl⟩, SFA, STA⟩
  ·obtain rfl : k = (form + 1).toNat := by
    have := of_decide_eq_false hc
    omega
   refine ZyI ?_
   repeat (first | (refine js ?_; (refine bx ?_; intro bk)) | refine walk ?_)
   refine ZbZ (Za7 (.inl rfl) (by repeat (first | exact .nil | (refine .plain rfl ?_) | apply Calms.call | apply Calms.append | apply Calms.len)) ?_)
   repeat (first | (refine js ?_; (refine bx ?_; intro bk)) | refine walk ?_)
   refine Zjd ?_
   exact ⟨.inr rfl, A1, A2, A3, A4, c1, c2, c3, c4, S1, SFA, STA⟩
 ·rintro e a' w' ⟨hd, fr', O', hs', he, B1, B2, B3, B4, d1, d2, d3, d4, S2, hf, hO⟩
  have hs2 := hs'.sub hf hO
  have hl : Leaves Tryz.prog Tryz.f29 a'.tmps (waR bD (stD s (form + 1).toNat) R wr) a'.defers .returning w' := by
   rw [hd]
   unfold Leaves
   refine ⟨by simp, .func 61, [.pointer (some ⟨b4, 0, none⟩)].toArray, 61, #[.pointer (some ⟨b4, 0, none⟩)], rfl, by simp [invoke, Zbx], ?_⟩
   refine ZoQ (ZsK b4 wr _ w' hs2.old hs2.own) ?_
   rintro e u' w2 ⟨rfl, rfl, hB, hH⟩
   dsimp only
   have hs3 := St.mk hs2.sim hB hH
   unfold settle Leaves
   refine ⟨.int .i64 0, ?_, .int .i64 0, _, rfl, hB, hH.sub (.drop (.refl _)), rfl, B1, B2, B3, B4, d1, d2, d3, d4, S2, rfl⟩
   have hres : Tryz.f29.results = [ResultVar.cell 4 37].toArray := rfl
   show (results Tryz.f29 (actD [] a').tmps).run Tryz.prog _ = _
   unfold results
   rw [hres, List.mapM_toArray]
   simp only [Sem.run_bind, Sem.run_map]
   rw [Zcs (P := Tryz.prog) hs3 _ (fun _ => rfl) (fun _ _ => rfl) [ResultVar.cell 4 37] [.int .i64 0] ⟨_, [], rfl, .cell1 rfl (by repeat' constructor), rfl⟩]
   simp only [Result.andThen_ok, Sem.run_pure]
   rfl
  rcases he with rfl | rfl
  ·exact hl
  ·exact hl
end Go.Proofs.YtbjomhdhkpgbaaaGreatDoor
set_option maxHeartbeats 8000000
namespace Go.Proofs.YtbjomhdhkpgbaaaGreatDoor
open Go Go.RowKit Go.Wk
attribute [local irreducible] W RL Does Zap Zak retQ Calls Pu Stp RD Qy Ay Zal
theorem Zi0 (Ar Az Al As : Option Addr) (cr cz cl cs : Nat) (a : Zac) (w : World) (hA : Zan w Ar Az Al As cr cz cl cs a) (hn : Fits a) :
  Does Tryz.prog 30 [srcV Ar Az Al As cr cz cl cs a] w (ZdG a) := by
 obtain ⟨hnr, hnz, hnl, hns, hne⟩ := hn
 refine Zaa Tryz.func30 rfl rfl rfl rfl ?_
 refine Zdw 46 2 ?_
 unfold srcV
 repeat (first | refine walk ?_ | (refine jg ?_; (try intro F); (first | (apply Zad (h := fun w' hw _ => Zcx Ar cr a.rules w' (hA.r.up hw) hnr); rfl; rintro v O' ⟨A3, c3, rfl, rfl⟩) | (apply Zad (h := fun w' hw _ => Zed Al cl a.links w' (hA.l.up hw) hnl); rfl; rintro v O' ⟨A4, c4, rfl, rfl⟩) | (apply Zad (h := fun w' hw _ => Zcw As cs a.shifts w' (hA.s.up hw) hns); rfl; rintro v O' ⟨A5, c5, rfl, rfl⟩) | (refine bx ?_; intro bk) | (refine stA ?_)); refine fin ?_) | (refine jn ?_; (try intro F); (first | (refine bx ?_; intro bk) | (refine stA ?_) | (apply Zah; exact PuA)); refine fin ?_) | (apply RD_W; rfl; intro bk))
 generalize bk = b3
 refine Zet (fun g : EoG => [(19, .int .i64 g.k), (2, _), (3, _), (17, _), (18, _)]) (fun g => .row (.slice g.Az g.m g.cz) 46 2 g.m g.xs :: .blk b3 [.slice A3 a.rules.length c3, .slice g.Az g.m g.cz, .slice A4 a.links.length c4, .slice A5 a.shifts.length c5] 32 :: rowS A5 c5 a.shifts :: rowL A4 c4 a.links :: rowR A3 c3 a.rules :: .blk _ _ _ :: .blk _ _ _ :: g.Zr.map Zaw)
  (fun h => h.k <= a.zones.length /\ h.m = h.Zr.length /\ h.xs = h.Zr.reverse.flatMap ZE.enc /\ h.Zr.reverse.map ZE.z = a.zones.take h.k)
  (fun h => a.zones.length - h.k) ⟨0, none, 0, 0, [], []⟩ SFA STA ⟨by simp, rfl, rfl, by simp⟩ ?_
 rintro ⟨k, Az', cz', m, xs, Zr⟩ ⟨hk, hm, hx, hz⟩
 dsimp only at hk hm hx hz ⊢
 generalize hT : Zr.map Zaw = T
 repeat (first | refine walk ?_ | (refine jn ?_; (try intro F); (first | (refine bx ?_; intro bk) | (refine stA ?_) | (apply Zah; exact PuA)); refine fin ?_) | (apply RD_W; rfl; intro bk))
 refine Zaf rfl (fun hc => ?_) (fun hc => ?_)
 ·simp only [decide_eq_true_eq, Int.ofNat_lt] at hc
  obtain ⟨hna, cs1, ⟨Ae, ce, hE, rfl⟩, hca⟩ := hA.z k _ (List.getElem?_eq_getElem hc)
  have ht := List.take_append_getElem hc
  have hl := hne _ (List.getElem_mem hc)
  have hzl : Zr.length = k := by rw [<- List.length_reverse, <- List.length_map (f := ZE.z), hz, List.length_take]; omega
  generalize a.zones[k] = z at *
  obtain ⟨nm, es⟩ := z
  dsimp only at hE hl hca
  repeat (first | (apply RL_pu; rfl; exact PuI) | (apply RD_Q; rfl; rfl; decide +kernel; rfl; rfl; exact QyI) | refine walk1 ?_ | (refine jg ?_; (try intro F); (first | (apply Zad (h := fun w' hw _ => Zcy Ae ce es w' (hE.up hw) hl); rfl; rintro v O' ⟨A2, c2, rfl, rfl⟩) | (apply ZaC; rfl; rfl; (intro A' c'; (focus repeat' constructor)); (intro w' _ hO; exact ZbF (hO.of (by repeat' constructor))); rfl; rfl; (simp only [maxLen]; omega); omega; intro A' c' hc1 hc2 hc3) | (refine bx ?_; intro bk) | (refine stA ?_)); first | refine ⟨_, EndsA, QFI, ?_⟩ | refine fin ?_) | (refine jn ?_; (try intro F); (first | (apply ZaC; rfl; rfl; (intro A' c'; (focus repeat' constructor)); (intro w' _ hO; exact ZbF (hO.of (by repeat' constructor))); rfl; rfl; (simp only [maxLen]; omega); omega; intro A' c' hc1 hc2 hc3) | (refine bx ?_; intro bk) | (refine stA ?_) | (apply Zah; first | exact PuI | exact PuA)); first | refine ⟨_, EndsA, QFI, ?_⟩ | refine fin ?_) | (apply RD_W; rfl; intro bk))
  subst hT
  exact ⟨⟨k + 1, A', c', m + 1, xs ++ ZE.enc ⟨⟨nm, es⟩, A2, c2⟩, ⟨⟨nm, es⟩, A2, c2⟩ :: Zr⟩, OA, ⟨OA, by simp [hm], by simp [hx], by rw [List.reverse_cons, List.map_append, hz]; exact ht⟩, SFA, STA⟩
 simp only [decide_eq_false_iff_not, Int.ofNat_lt] at hc
 rw [List.take_of_length_le (by omega)] at hz
 subst hT
 refine Zkk _ (SubO.permT (l := [_, _, _, _, _, _, _]) (.refl _) ((List.reverse_perm Zr).symm.map Zaw)) ?_
 rw [<- List.length_reverse] at hm
 generalize Zr.reverse = Zs at *
 repeat (first | refine walk ?_ | (refine jn ?_; (try intro F); (first | (refine bx ?_; intro bk) | (refine stA ?_) | (apply Zah; exact PuA)); refine fin ?_) | (apply RD_W; rfl; intro bk))
 subst hm hx
 have hl : Zs.length = a.zones.length := by rw [<- hz, List.length_map]
 exact ret_1 _ (rowR A3 c3 a.rules :: rowZ Az' cz' Zs :: rowL A4 c4 a.links :: rowS A5 c5 a.shifts :: Zs.map Zaw) (.cellB rfl (by repeat' constructor) rfl rfl) STA ⟨A3, c3, Az', cz', A4, c4, A5, c5, Zs, by rw [srcV, <- hl]; rfl, hz, rfl⟩
theorem ZvH (l : List Zab) : (ZdZ l).1 <= l.length := by
 unfold ZdZ
 split
 ·rename_i x h
  obtain ⟨j, e⟩ := x
  have := ZiG _ l 0 j e h
  simp only at this ⊢
  omega
 ·repeat' split
  all_goals exact Nat.zero_le _
theorem ZlH {G : Prop} (h : G := by (first | (apply Zaz; rfl; rfl; omega; omega; (intro w' _ hO; exact (Zb2 (hO.of (A := .row (.slice An N.length cn) 9 1 N.length (N.flatMap ZaK)) (by repeat' constructor)) hg1).1)) | (apply Zfh; rfl; (focus repeat' constructor); exact hg1))) : G := h
theorem Zrm (Ar Az Al As : Option Addr) (cr cz cl cs : Nat) (a : Zac) (w : World) (hG : Glob w) (hA : Zan w Ar Az Al As cr cz cl cs a) (hS : Zg4 a) (hV : SavI a) :
  Does Tryz.prog 51 [srcV Ar Az Al As cr cz cl cs a] w (fun v O => v = ptV (Zhy a) /\ O = []) := by
 have hn := hS.nr
 have hnm := fun w' (hw : Bel w.heap.size w w') => ZjR Ar Az Al As cr cz cl cs a w' (hA.up hw) hn
 have hNm := ZgP a.rules []
 have hNl := Ze8 a.rules []
 unfold Zhy
 generalize ZaV a.rules [] = N at *
 simp only [List.length_nil, Nat.zero_add] at hNl
 obtain ⟨res, hres⟩ : ∃ res, ZdI a.rules N = res := ⟨_, rfl⟩
 rw [hres]
 refine Zaa Tryz.func51 rfl rfl rfl rfl ?_
 repeat (first | (refine js ?_; (first | (apply Zad (h := fun w' hw _ => hnm w' hw); rfl; rintro v O' ⟨An, cn, rfl, rfl⟩) | (refine bx ?_; intro bk))) | refine walk ?_)
 rename_i b1
 obtain ⟨b2, hb2⟩ : ∃ b2, bk = b2 := ⟨_, rfl⟩
 rw [hb2]
 clear hb2 bk
 refine Zat [(1, .pointer (some ⟨b1, 0, none⟩)), (2, .pointer (some ⟨b2, 0, none⟩)), (12, .slice An N.length cn), (13, .int .i64 N.length)] [.row (.slice An N.length cn) 9 1 N.length (N.flatMap ZaK), .blk b2 [.int .i64 0, .int .i64 0, .int .i64 0] 36, .blk b1 [.slice Ar a.rules.length cr, .slice Az a.zones.length cz, .slice Al a.links.length cl, .slice As a.shifts.length cs] 117]
  (fun k : Nat => [(14, .int .i64 k)]) (fun _ => []) (fun k => k <= N.length /\ ZdI a.rules (N.drop k) = res) (fun k => N.length - k) 0 SFA SOA ⟨Nat.zero_le _, hres⟩ ?_
 clear hnm hres
 rintro k ⟨hk, hi⟩
 repeat (first | (refine js ?_; (refine bx ?_; intro bk)) | refine walk ?_)
 refine Zaf rfl (fun hc => ?_) (fun hc => ?_)
 ·simp only [decide_eq_true_eq, Int.ofNat_lt] at hc
  have hg1 : (N.flatMap ZaK)[k * 1]? = some (.string N[k]) := by
   have := ZaH (enc := ZaK) (fun _ => rfl) N k _ 0 (.string N[k]) (List.getElem?_eq_getElem hc) rfl
   simpa using this
  have hxm := hNm _ (List.getElem_mem hc)
  rw [Zao hc, ZdI] at hi
  generalize N[k] = x at *
  have hxs : x.size <= 1000000000 := by
   rcases hxm with h | ⟨r, hr, rfl⟩
   ·cases h
   ·exact (hS.rs r hr).1
  have hof := fun w' (hw : Bel w.heap.size w w') => Zd1 Ar Az Al As cr cz cl cs a x w' (hA.up hw) hn
  have hset := fun w' => ZvF x (by omega) w'
  have hRs : ∀ r ∈ ofB a.rules x, r ∈ a.rules := fun r h => ZsY h
  have hRl := Zod a.rules x
  have hck := fun A3 c3 w' (hw : Bel w.heap.size w w') h => Zmb A3 c3 (ofB a.rules x) w' (hG.up hw) h (by omega) (fun r hr => ⟨hV r (hRs r hr), by have := (hS.rs r (hRs r hr)).2; omega⟩)
  have hap := fun (hz : (ZdZ (ofB a.rules x)).2 = 0) A3 c3 w' (hw : Bel w.heap.size w w') h => ZrP A3 c3 (ofB a.rules x) w' (hG.up hw) h (by omega) (fun r hr => (Zmc hz r hr).1)
  have hru0 := fun (i : Nat) (hi : i <= 1000000) w' (hw : Bel w.heap.size w w') => ZsH Ar Az Al As cr cz cl cs a x i w' (hA.up hw) hn hi
  have hcl := ZvH (ofB a.rules x)
  have har := ZoV (ofB a.rules x)
  unfold Zcd at hi
  generalize ofB a.rules x = R at *
  cases hsb : setB x with
  | false =>
   rw [hsb] at hi hset
   rw [if_pos rfl] at hi
   dsimp only at hi
   have hru := hru0 0 (Nat.zero_le _)
   generalize ZdL x a.rules 0 0 = pl at *
   obtain ⟨p1, p2, p3⟩ := pl
   simp only [plV, Zar.enc] at hru
   subst hi
   simp only [ptV, plV, Zar.enc]
   repeat (first | (apply RL_pu; rfl; exact ZlH) | (refine js ?_; (first | (apply Zad (h := fun w' hw _ => hof w' hw); rfl; rintro v O' ⟨A3, c3, rfl, rfl⟩) | (refine Zae (fun w' hw => hset w') ?_) | (refine Zae hru ?_) | (refine bx ?_; intro bk))) | refine walk1 ?_)
   exact rtC
  | true =>
   rw [hsb] at hi hset
   rw [if_neg (by decide)] at hi
   generalize ZdZ R = rc at *
   obtain ⟨ci, ce⟩ := rc
   dsimp only at hi hck hcl hap
   by_cases hce : ce = 0
   ·subst hce
    replace hap := hap rfl
    rw [if_neg (fun h => h rfl)] at hi
    generalize Zfu R = ap at *
    cases ap with
    | none =>
     simp only [apV, Zag.enc, dEv0] at hap
     dsimp only at hi
     repeat (first | (apply RL_pu; rfl; exact ZlH) | (refine js ?_; (first | (apply Zad (h := fun w' hw _ => hof w' hw); rfl; rintro v O' ⟨A3, c3, rfl, rfl⟩) | (refine Zae (fun w' hw => hset w') ?_) | (refine ZaM (fun w' hw hO => hck A3 c3 w' hw (Zba Zab.len (hO.of (A := .row (.slice A3 R.length c3) 56 11 R.length (R.flatMap Zab.enc)) (by repeat' constructor)))) ?_) | (refine ZaM (fun w' hw hO => hap A3 c3 w' hw (Zba Zab.len (hO.of (A := .row (.slice A3 R.length c3) 56 11 R.length (R.flatMap Zab.enc)) (by repeat' constructor)))) ?_) | (refine bx ?_; intro bk))) | refine walk1 ?_)
     exact ⟨k + 1, OA, ⟨OA, hi⟩, SFA, SOA⟩
    | some e =>
     obtain ⟨j, hj, hjl⟩ := har e rfl
     obtain ⟨ey, er, en⟩ := e
     dsimp only at hj
     subst hj
     simp only [apV, Zag.enc] at hap
     simp only [Int.toNat_natCast] at hi
     have hru := hru0 j (by omega)
     generalize ZdL x a.rules j 0 = pl at *
     obtain ⟨p1, p2, p3⟩ := pl
     simp only [plV, Zar.enc] at hru
     subst hi
     simp only [ptV, plV, Zar.enc]
     repeat (first | (apply RL_pu; rfl; exact ZlH) | (refine js ?_; (first | (apply Zad (h := fun w' hw _ => hof w' hw); rfl; rintro v O' ⟨A3, c3, rfl, rfl⟩) | (refine Zae (fun w' hw => hset w') ?_) | (refine ZaM (fun w' hw hO => hck A3 c3 w' hw (Zba Zab.len (hO.of (A := .row (.slice A3 R.length c3) 56 11 R.length (R.flatMap Zab.enc)) (by repeat' constructor)))) ?_) | (refine ZaM (fun w' hw hO => hap A3 c3 w' hw (Zba Zab.len (hO.of (A := .row (.slice A3 R.length c3) 56 11 R.length (R.flatMap Zab.enc)) (by repeat' constructor)))) ?_) | (refine Zae hru ?_) | (refine bx ?_; intro bk))) | refine walk1 ?_)
     exact rtC
   ·rw [if_pos hce] at hi
    dsimp only at hi
    have hb : decide (ce = 0) = false := decide_eq_false hce
    have hb2 : (!decide (ce = 0)) = true := by rw [hb]; rfl
    have hru := hru0 ci (by omega)
    generalize ZdL x a.rules ci 0 = pl at *
    obtain ⟨p1, p2, p3⟩ := pl
    simp only [plV, Zar.enc] at hru
    subst hi
    simp only [ptV, plV, Zar.enc]
    repeat (first | (apply RL_pu; rfl; (first | exact ZlH | (apply ZaF; rfl; rfl; exact hb) | (apply ZaT; rfl; rfl; exact hb2))) | (refine js ?_; (first | (apply Zad (h := fun w' hw _ => hof w' hw); rfl; rintro v O' ⟨A3, c3, rfl, rfl⟩) | (refine Zae (fun w' hw => hset w') ?_) | (refine ZaM (fun w' hw hO => hck A3 c3 w' hw (Zba Zab.len (hO.of (A := .row (.slice A3 R.length c3) 56 11 R.length (R.flatMap Zab.enc)) (by repeat' constructor)))) ?_) | (refine Zae hru ?_) | (refine bx ?_; intro bk))) | refine walk1 ?_)
    exact rtC
 ·simp only [decide_eq_false_iff_not, Int.ofNat_lt] at hc
  rw [List.drop_eq_nil_of_le (by omega), ZdI] at hi
  subst hi
  repeat (first | (refine js ?_; (refine bx ?_; intro bk)) | refine walk ?_)
  exact rtC
theorem Zzk {α : Type} {w : World} {A : Option Addr} {c sz : Nat} {enc : α -> List Value} {l : List α} (h : RdSl w A c enc sz l) (k : Nat) : RdSl w A c enc sz (l.take k) where
 le := by have := h.le; rw [List.length_take]; omega
 cap := h.cap
 rd := fun j x hj => h.rd j x (by
  rw [List.getElem?_take] at hj
  split at hj
  ·exact hj
  ·cases hj)
theorem Zvh {G : Prop} (h : G := by (first | exact PuI | (apply ZaF; rfl; rfl; exact hb))) : G := h
theorem Zpv {G : Prop} (h : G := by (first | exact Zvh | (apply Pu_sliceH; rfl; rfl; omega; omega))) : G := h
theorem Zsa {G G' : Prop} (k : G') (h : Hold G' -> G := by intro k9; (first | (apply RL_pu; rfl; exact Zpv) | (refine js ?_; (first | (refine ZaM (fun w' hw hO => hot A3 c3 w' (Zba Zab.len (hO.of (A := .row (.slice A3 R.length c3) 56 11 R.length (R.flatMap Zab.enc)) (by repeat' constructor)))) ?_) | (refine Zae hco ?_) | (refine ZaM (fun w' hw hO => hle A3 c3 w' (Zba Zab.len (hO.of (A := .row (.slice A3 R.length c3) 56 11 R.length (R.flatMap Zab.enc)) (by repeat' constructor)))) ?_))) | refine walk1 ?_); exact k9.out) : G := h ⟨k⟩
theorem ZmA (Ar Az Al As : Option Addr) (cr cz cl cs : Nat) (a : Zac) (w : World) (hA : Zan w Ar Az Al As cr cz cl cs a) (hS : Zg4 a) :
  Does Tryz.prog 52 [srcV Ar Az Al As cr cz cl cs a] w (fun v O => v = ptV (Zbq a a.shifts [] 0) /\ O = []) := by
 have hn := hS.nr
 have hns := hS.ns
 have hcap := hA.s.le
 obtain ⟨res, hres⟩ : ∃ res, Zbq a a.shifts [] 0 = res := ⟨_, rfl⟩
 rw [hres]
 refine Zaa Tryz.func52 rfl rfl rfl rfl ?_
 repeat (first | (refine js ?_; (refine bx ?_; intro bk)) | refine walk ?_)
 rename_i b1
 obtain ⟨b2, hb2⟩ : ∃ b2, bk = b2 := ⟨_, rfl⟩
 rw [hb2]
 clear hb2 bk
 refine Zat [(1, .pointer (some ⟨b1, 0, none⟩)), (2, .pointer (some ⟨b2, 0, none⟩)), (12, .slice As a.shifts.length cs), (13, .int .i64 a.shifts.length)] [.blk b2 [.int .i64 0, .int .i64 0, .int .i64 0] 36, .blk b1 [.slice Ar a.rules.length cr, .slice Az a.zones.length cz, .slice Al a.links.length cl, .slice As a.shifts.length cs] 117]
  (fun k : Nat => [(14, .int .i64 k)]) (fun _ => []) (fun k => k <= a.shifts.length /\ Zbq a (a.shifts.drop k) (a.shifts.take k) k = res) (fun k => a.shifts.length - k) 0 SFA SOA ⟨Nat.zero_le _, hres⟩ ?_
 clear hres
 rintro k ⟨hk, hi⟩
 repeat (first | (refine js ?_; (refine bx ?_; intro bk)) | refine walk ?_)
 refine Zaf rfl (fun hc => ?_) (fun hc => ?_)
 ·simp only [decide_eq_true_eq, Int.ofNat_lt] at hc
  obtain ⟨hna, hca⟩ := hA.s.rd k _ (List.getElem?_eq_getElem hc)
  have htk := List.take_append_getElem hc
  have hco := fun w' (hw : Bel w.heap.size w w') => Zla As cs (a.shifts.take k) a.shifts[k] w' ((Zzk hA.s k).up hw)
  rw [show (a.shifts.take k).length = k by rw [List.length_take]; omega] at hco
  rw [Zao hc, Zbq] at hi
  rw [htk] at hi
  generalize a.shifts[k] = x at *
  have hof := fun w' (hw : Bel w.heap.size w w') => Zd1 Ar Az Al As cr cz cl cs a x w' (hA.up hw) hn
  have hot := fun A3 c3 w' h => ZgN A3 c3 (ofB a.rules x) w' h
  have hle := fun A3 c3 w' h => Zcu A3 c3 (ofB a.rules x) w' h
  generalize ofB a.rules x = R at *
  generalize Zbi R = od at *
  obtain ⟨ox, ob⟩ := od
  dsimp only at hi hot
  by_cases hR : R = []
  ·rw [if_pos hR] at hi
   subst hi
   have hb : decide ((R.length : Int) = 0) = true := by rw [hR]; rfl
   simp only [ptV, plV, Zar.enc]
   repeat (first | (apply RL_pu; rfl; exact Zvh) | (refine js ?_; (first | (apply Zad (h := fun w' hw _ => hof w' hw); rfl; rintro v O' ⟨A3, c3, rfl, rfl⟩) | (refine ZaM (fun w' hw hO => hot A3 c3 w' (Zba Zab.len (hO.of (A := .row (.slice A3 R.length c3) 56 11 R.length (R.flatMap Zab.enc)) (by repeat' constructor)))) ?_) | (refine bx ?_; intro bk))) | refine walk1 ?_)
   exact rtC
  rw [if_neg hR] at hi
  have hb : decide ((R.length : Int) = 0) = false := decide_eq_false (fun h => hR (List.eq_nil_of_length_eq_zero (by omega)))
  cases hm : memB x (a.shifts.take k) with
  | true =>
   rw [hm] at hi hco
   rw [if_pos rfl] at hi
   subst hi
   simp only [ptV, plV, Zar.enc]
   repeat (first | (apply RL_pu; rfl; exact Zpv) | (refine js ?_; (first | (apply Zad (h := fun w' hw _ => hof w' hw); rfl; rintro v O' ⟨A3, c3, rfl, rfl⟩) | (refine ZaM (fun w' hw hO => hot A3 c3 w' (Zba Zab.len (hO.of (A := .row (.slice A3 R.length c3) 56 11 R.length (R.flatMap Zab.enc)) (by repeat' constructor)))) ?_) | (refine Zae hco ?_) | (refine bx ?_; intro bk))) | refine walk1 ?_)
   exact rtC
  | false =>
   rw [hm] at hi hco
   rw [if_neg (by decide)] at hi
   generalize Zaj R = lt at *
   by_cases hl : lt = 0
   ·subst hl
    cases ob with
    | false =>
     rw [if_pos (.inr rfl)] at hi
     subst hi
     simp only [ptV, plV, Zar.enc]
     repeat (first | refine Zsa ?_ | (refine js ?_; (first | (apply Zad (h := fun w' hw _ => hof w' hw); rfl; rintro v O' ⟨A3, c3, rfl, rfl⟩) | (refine bx ?_; intro bk))))
     exact rtC
    | true =>
     rw [if_neg (by rintro (h | h); exact h rfl; cases h)] at hi
     repeat (first | refine Zsa ?_ | (refine js ?_; (first | (apply Zad (h := fun w' hw _ => hof w' hw); rfl; rintro v O' ⟨A3, c3, rfl, rfl⟩) | (refine bx ?_; intro bk))))
     exact ⟨k + 1, OA, ⟨OA, hi⟩, SFA, SOA⟩
   ·rw [if_pos (.inl hl)] at hi
    subst hi
    have hb2 : (!decide (lt = 0)) = true := by rw [decide_eq_false hl]; rfl
    simp only [ptV, plV, Zar.enc]
    repeat (first | (apply RL_pu; rfl; (first | exact Zpv | (apply ZaT; rfl; rfl; exact hb2))) | (refine js ?_; (first | (apply Zad (h := fun w' hw _ => hof w' hw); rfl; rintro v O' ⟨A3, c3, rfl, rfl⟩) | (refine ZaM (fun w' hw hO => hot A3 c3 w' (Zba Zab.len (hO.of (A := .row (.slice A3 R.length c3) 56 11 R.length (R.flatMap Zab.enc)) (by repeat' constructor)))) ?_) | (refine Zae hco ?_) | (refine ZaM (fun w' hw hO => hle A3 c3 w' (Zba Zab.len (hO.of (A := .row (.slice A3 R.length c3) 56 11 R.length (R.flatMap Zab.enc)) (by repeat' constructor)))) ?_) | (refine bx ?_; intro bk))) | refine walk1 ?_)
    exact rtC
 ·simp only [decide_eq_false_iff_not, Int.ofNat_lt] at hc
  rw [List.drop_eq_nil_of_le (by omega), Zbq] at hi
  subst hi
  repeat (first | (refine js ?_; (refine bx ?_; intro bk)) | refine walk ?_)
  exact rtC
end Go.Proofs.YtbjomhdhkpgbaaaGreatDoor
