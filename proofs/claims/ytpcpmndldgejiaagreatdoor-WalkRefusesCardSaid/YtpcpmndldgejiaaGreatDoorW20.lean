/- Parts of the proof. -/
import Derived.Test.YtpcpmndldgejiaaGreatDoorW19
import Derived.Test.YtpcpmndldgejiaaGreatDoorW14
import Derived.Test.YtpcpmndldgejiaaGreatDoorW09
import Derived.Test.YtpcpmndldgejiaaGreatDoorW08
import Derived.Test.YtpcpmndldgejiaaGreatDoorW07
import Derived.Test.YtpcpmndldgejiaaGreatDoorW05
set_option maxHeartbeats 4000000
set_option linter.unusedVariables false
set_option linter.unusedSimpArgs false
namespace Go.Proofs.YtpcpmndldgejiaaGreatDoor
open Go Go.RowKit Go.Wk
attribute [local irreducible] W RL Does Zay Zam retQ Calls Pu Stp RD Qy Ay Zan
def ZoM (z : ZaY) : Bool := decide (60 < z.eras.length)
theorem Znq {α : Type} (p : α -> Bool) : ∀ (l : List α) (k : Nat), ZbJ p l k = match l.findIdx? p with | some i => ((k + i : Nat) : Int) | none => -1
 | [], _ => rfl
 | x :: l, k => by
  rw [ZbJ, List.findIdx?_cons]
  by_cases h : p x = true
  ·rw [if_pos h, if_pos h]; rfl
  ·rw [if_neg h, if_neg h, Znq p l (k + 1)]
   cases l.findIdx? p with
   | none => rfl
   | some i => simp only [Option.map_some]; congr 1; omega
theorem Zoy (n : ByteArray) (A : Option Addr) (m c : Nat) (w : World) : Does Tryz.prog 84 [.agg #[.string n, .slice A m c]] w (fun v O => v = .bool (decide (60 < m)) /\ O = []) := by
 have hb : decide ((60 : Int) < (m : Int)) = decide (60 < m) := by rw [decide_eq_decide]; omega
 refine Zab Tryz.func84 rfl rfl rfl rfl ?_
 repeat (first | (apply RL_pu; rfl; (apply ZaN; rfl; rfl; exact hb)) | (refine js ?_; (refine bx ?_; intro bk)) | refine walk1 ?_)
 exact rtA
theorem ZoV (Ar Az Al As : Option Addr) (cr cz cl cs : Nat) (a : Zai) (w : World) (hA : Zaj w Ar Az Al As cr cz cl cs a) (hn : a.zones.length <= 1000000) :
  Does Tryz.prog 83 [.slice Az a.zones.length cz, .func (.func 84) #[] #[]] w (fun v O => v = .int .i64 (ZbJ ZoM a.zones 0) /\ O = []) := by
 obtain ⟨res, hres⟩ : ∃ res, ZbJ ZoM a.zones 0 = res := ⟨_, rfl⟩
 rw [hres]
 refine Zab Tryz.func83 rfl rfl rfl rfl ?_
 repeat (first | refine walk ?_)
 refine Zaq [(0, .slice Az a.zones.length cz), (1, .func (.func 84) #[] #[]), (7, .int .i64 a.zones.length)] [] (fun k : Nat => [(8, .int .i64 k)]) (fun _ => []) (fun k => k <= a.zones.length /\ ZbJ ZoM (a.zones.drop k) k = res) (fun k => a.zones.length - k) 0 SFA .nil ⟨Nat.zero_le _, hres⟩ ?_
 rintro k ⟨hk, hi⟩
 repeat (first | refine walk ?_)
 refine Zah rfl (fun hc => ?_) (fun hc => ?_)
 ·simp only [decide_eq_true_eq, Int.ofNat_lt] at hc
  obtain ⟨hna, cs1, ⟨Ae, ce, _, rfl⟩, hca⟩ := hA.z k _ (List.getElem?_eq_getElem hc)
  rw [Zat hc, ZbJ] at hi
  generalize a.zones[k] = z at *
  have h1 : ∀ w', Does Tryz.prog 84 ([] ++ [.agg #[.string z.name, .slice Ae z.eras.length ce]] ++ []) w' (fun v O => v = .bool (decide (60 < z.eras.length)) /\ O = []) := fun w' => Zoy z.name Ae z.eras.length ce w'
  rw [show decide (60 < z.eras.length) = ZoM z from rfl] at h1
  generalize ZoM z = mb at *
  cases mb with
  | true =>
   rw [if_pos rfl] at hi
   subst hi
   repeat (first | (apply RL_pu; rfl; exact PuI) | (refine js ?_; (refine ZgR (fun w' hw _ => h1 w') ?_)) | refine walk1 ?_)
   exact rtA
  | false =>
   rw [if_neg (by decide)] at hi
   repeat (first | (apply RL_pu; rfl; exact PuI) | (refine js ?_; (refine ZgR (fun w' hw _ => h1 w') ?_)) | refine walk1 ?_)
   exact ⟨k + 1, OA, ⟨OA, hi⟩, SFA, .nil⟩
 ·simp only [decide_eq_false_iff_not, Int.ofNat_lt] at hc
  rw [List.drop_eq_nil_of_le (by omega), ZbJ] at hi
  subst hi
  repeat (first | refine walk ?_)
  exact rtA
theorem ZvN {G : Prop} (h : G := by (apply ZaN; rfl; rfl; exact b1)) : G := h
theorem ZpS {G : Prop} (h : G := by (first | exact ZvN | (apply ZaN; rfl; rfl; exact b2))) : G := h
theorem ZvM {G : Prop} (h : G := by (first | exact ZpS | (apply ZaN; rfl; rfl; exact b3))) : G := h
theorem ZvL {G : Prop} (h : G := by (first | exact ZvM | (apply ZaN; rfl; rfl; exact b4))) : G := h
theorem Zrr (Ar Az Al As : Option Addr) (cr cz cl cs : Nat) (a : Zai) (w : World) (hA : Zaj w Ar Az Al As cr cz cl cs a) (hn : a.zones.length <= 1000000) :
  Does Tryz.prog 45 [srcV Ar Az Al As cr cz cl cs a] w (fun v O => v = ptV (ZcQ a) /\ O = []) := by
 have hix := fun w' (hw : Bel w.heap.size w w') => ZoV Ar Az Al As cr cz cl cs a w' (hA.up hw) hn
 rw [Znq] at hix
 unfold ZcQ
 rw [show (fun z : ZaY => decide (60 < z.eras.length)) = ZoM from rfl]
 generalize a.zones.findIdx? ZoM = fi at *
 refine Zab Tryz.func45 rfl rfl rfl rfl ?_
 by_cases h1 : 2000 < a.rules.length
 ·have b1 : decide ((2000 : Int) < a.rules.length) = true := decide_eq_true (by omega)
  rw [if_pos h1]
  repeat (first | (apply RL_pu; rfl; exact ZvN) | (refine js ?_; (refine bx ?_; intro bk)) | refine walk1 ?_)
  exact rtC
 have b1 : decide ((2000 : Int) < a.rules.length) = false := decide_eq_false (by omega)
 rw [if_neg h1]
 by_cases h2 : 500 < a.zones.length
 ·have b2 : decide ((500 : Int) < a.zones.length) = true := decide_eq_true (by omega)
  rw [if_pos h2]
  repeat (first | (apply RL_pu; rfl; exact ZpS) | (refine js ?_; (refine bx ?_; intro bk)) | refine walk1 ?_)
  exact rtC
 have b2 : decide ((500 : Int) < a.zones.length) = false := decide_eq_false (by omega)
 rw [if_neg h2]
 cases fi with
 | some i =>
  dsimp only at hix ⊢
  rw [Nat.zero_add] at hix
  have b3 : decide ((0 : Int) <= (i : Int)) = true := decide_eq_true (by omega)
  repeat (first | (apply RL_pu; rfl; (first | exact ZpS | (apply Zcv; rfl; rfl; exact b3))) | (refine js ?_; (first | (refine Zac hix ?_) | (refine bx ?_; intro bk))) | refine walk1 ?_)
  exact rtC
 | none =>
  dsimp only at hix ⊢
  by_cases h3 : 1000 < a.links.length
  ·have b3 : decide ((1000 : Int) < a.links.length) = true := decide_eq_true (by omega)
   rw [if_pos h3]
   repeat (first | (apply RL_pu; rfl; exact ZvM) | (refine js ?_; (first | (refine Zac hix ?_) | (refine bx ?_; intro bk))) | refine walk1 ?_)
   exact rtC
  have b3 : decide ((1000 : Int) < a.links.length) = false := decide_eq_false (by omega)
  rw [if_neg h3]
  by_cases h4 : 2000 < a.shifts.length
  ·have b4 : decide ((2000 : Int) < a.shifts.length) = true := decide_eq_true (by omega)
   rw [if_pos h4]
   repeat (first | (apply RL_pu; rfl; exact ZvL) | (refine js ?_; (first | (refine Zac hix ?_) | (refine bx ?_; intro bk))) | refine walk1 ?_)
   exact rtC
  have b4 : decide ((2000 : Int) < a.shifts.length) = false := decide_eq_false (by omega)
  rw [if_neg h4]
  repeat (first | (apply RL_pu; rfl; exact ZvL) | (refine js ?_; (first | (refine Zac hix ?_) | (refine bx ?_; intro bk))) | refine walk1 ?_)
  exact rtC
theorem ZoP (Ar Az Al As : Option Addr) (cr cz cl cs : Nat) (a : Zai) (w : World) (hA : Zaj w Ar Az Al As cr cz cl cs a) (hS : Zia a) :
  Does Tryz.prog 48 [srcV Ar Az Al As cr cz cl cs a] w (fun v O => v = ptV (Zb7 a) /\ O = []) := by
 have h := fun w' (hw : Bel w.heap.size w w') => ZrK Ar Az Al As cr cz cl cs a w' (hA.up hw) hS
 refine Zab Tryz.func48 rfl rfl rfl rfl ?_
 generalize Zb7 a = o at *
 cases o with
 | none =>
  simp only [ptV, plV, ZaH.enc] at h ⊢
  repeat (first | (refine js ?_; (first | (refine Zac h ?_) | (refine bx ?_; intro bk))) | refine walk ?_)
  exact rtC
 | some pe =>
  obtain ⟨⟨p1, p2, p3⟩, e⟩ := pe
  simp only [ptV, plV, ZaH.enc] at h ⊢
  repeat (first | (refine js ?_; (first | (refine Zac h ?_) | (refine bx ?_; intro bk))) | refine walk ?_)
  exact rtC
structure RlG where
 k : Nat
 i : Nat
theorem ZoB (x : ByteArray) (r : Zaa) (l : List Zaa) (i k : Nat) : ZdV x (r :: l) i k = if r.name = x then (match i with | 0 => ⟨1, k, 0⟩ | i + 1 => ZdV x l i (k + 1)) else ZdV x l i (k + 1) := by cases i <;> rfl
theorem Zrx (x : ByteArray) (i k : Nat) : ZdV x [] i k = ⟨0, 0, 0⟩ := by cases i <;> rfl
theorem ZpR {G : Prop} (h : G := by (first | exact PuI | (apply Zg1; rfl; rfl; exact hb))) : G := h
theorem Zs0 (Ar Az Al As : Option Addr) (cr cz cl cs : Nat) (a : Zai) (x : ByteArray) (i : Nat) (w : World) (hA : Zaj w Ar Az Al As cr cz cl cs a) (hn : a.rules.length <= 1000000) (hi : i <= 1000000) :
  Does Tryz.prog 88 [srcV Ar Az Al As cr cz cl cs a, .string x, .int .i64 i] w (fun v O => v = plV (ZdV x a.rules i 0) /\ O = []) := by
 obtain ⟨res, hres⟩ : ∃ res, ZdV x a.rules i 0 = res := ⟨_, rfl⟩
 rw [hres]
 refine Zab Tryz.func88 rfl rfl rfl rfl ?_
 repeat (first | (refine js ?_; (refine bx ?_; intro bk)) | refine walk ?_)
 obtain ⟨b6, hb6⟩ : ∃ b6, bk = b6 := ⟨_, rfl⟩
 rw [hb6]
 clear hb6 bk
 refine Zaq [(1, .string x), (6, .pointer (some ⟨b6, 0, none⟩)), (11, .slice Ar a.rules.length cr), (12, .int .i64 a.rules.length)] [.blk b6 [.int .i64 0, .int .i64 0, .int .i64 0] 79] (fun g : RlG => [(2, .int .i64 g.i), (13, .int .i64 g.k)]) (fun _ => []) (fun g => g.k <= a.rules.length /\ g.i <= 1000000 /\ ZdV x (a.rules.drop g.k) g.i g.k = res) (fun g => a.rules.length - g.k) ⟨0, i⟩ SFA SOA ⟨Nat.zero_le _, hi, hres⟩ ?_
 clear hi hres
 rintro ⟨k, i⟩ ⟨hk, hi6, hi⟩
 dsimp only at hk hi6 hi ⊢
 repeat (first | (refine js ?_; (refine bx ?_; intro bk)) | refine walk ?_)
 refine Zah rfl (fun hc => ?_) (fun hc => ?_)
 ·simp only [decide_eq_true_eq, Int.ofNat_lt] at hc
  obtain ⟨hna, hca⟩ := hA.r.rd k _ (List.getElem?_eq_getElem hc)
  rw [Zat hc, ZoB] at hi
  generalize a.rules[k] = r at *
  by_cases hx : r.name = x
  ·have hb : (!decide (r.name = x)) = false := by rw [decide_eq_true hx]; rfl
   rw [if_pos hx] at hi
   cases i with
   | zero =>
    dsimp only at hi
    subst hi
    repeat (first | (apply RL_pu; rfl; exact ZpR) | (refine js ?_; (refine bx ?_; intro bk)) | refine walk1 ?_)
    exact ret_1 _ [] (.cellB rfl (by repeat' constructor) rfl rfl) .nil ⟨rfl, rfl⟩
   | succ i =>
    dsimp only at hi
    have hb2 : decide (((i + 1 : Nat) : Int) = 0) = false := decide_eq_false (by omega)
    repeat (first | (apply RL_pu; rfl; (first | exact ZpR | (apply ZaG; rfl; rfl; exact hb2))) | (refine js ?_; (refine bx ?_; intro bk)) | refine walk1 ?_)
    rw [show ((i + 1 : Nat) : Int) - 1 = (i : Int) by omega]
    exact ⟨⟨k + 1, i⟩, OA, ⟨OA, OA, hi⟩, SFA, SOA⟩
  ·have hb : (!decide (r.name = x)) = true := by rw [decide_eq_false hx]; rfl
   rw [if_neg hx] at hi
   repeat (first | (apply RL_pu; rfl; exact ZpR) | (refine js ?_; (refine bx ?_; intro bk)) | refine walk1 ?_)
   exact ⟨⟨k + 1, i⟩, OA, ⟨OA, OA, hi⟩, SFA, SOA⟩
 ·simp only [decide_eq_false_iff_not, Int.ofNat_lt] at hc
  rw [List.drop_eq_nil_of_le (by omega), Zrx] at hi
  subst hi
  repeat (first | (refine js ?_; (refine bx ?_; intro bk)) | refine walk ?_)
  exact ret_1 _ [] (.cellB rfl (by repeat' constructor) rfl rfl) .nil ⟨rfl, rfl⟩
theorem Zhh : ∀ (l : List Zaa) (acc : List ByteArray) (x : ByteArray), x ∈ Zcd l acc -> x ∈ acc \/ ∃ r ∈ l, r.name = x
 | [], acc, x, h => .inl h
 | r :: l, acc, x, h => by
  rw [Zcd] at h
  split at h
  ·rcases Zhh l acc x h with h | ⟨q, hq, e⟩
   ·exact .inl h
   ·exact .inr ⟨q, List.mem_cons_of_mem _ hq, e⟩
  ·rcases Zhh l _ x h with h | ⟨q, hq, e⟩
   ·rcases List.mem_append.1 h with h | h
    ·exact .inl h
    ·simp only [List.mem_singleton] at h; exact .inr ⟨r, List.mem_cons_self, h.symm⟩
   ·exact .inr ⟨q, List.mem_cons_of_mem _ hq, e⟩
theorem Zhi : ∀ (l : List Zaa) (acc : List ByteArray), (Zcd l acc).length <= acc.length + l.length
 | [], acc => Nat.le_refl _
 | r :: l, acc => by
  rw [Zcd]
  split
  ·have := Zhi l acc; simp only [List.length_cons]; omega
  ·have := Zhi l (acc ++ [r.name]); simp only [List.length_append, List.length_cons, List.length_nil] at this ⊢; omega
theorem ZkU : ∀ (l : List Zad) (e : Zad), ZcR l = some e -> e ∈ l
 | [], _, h => by cases h
 | [_], _, h => by cases h
 | a :: b :: l, e, h => by
  rw [ZcR] at h
  split at h
  ·simp only [Option.some.injEq] at h; subst h; exact List.mem_cons_of_mem _ List.mem_cons_self
  ·exact List.mem_cons_of_mem _ (ZkU (b :: l) e h)
theorem Zkg (least y : Int) : ∀ (l : List Zaa) (i : Nat), ∀ e ∈ Zea least y l i, ∃ j : Nat, e.rule = j /\ j < i + l.length
 | [], _ => fun e h => by cases h
 | r :: l, i => fun e he => by
  rw [Zea] at he
  rcases List.mem_append.1 he with h | h
  ·have : onR least r i y = some e := by
    cases ho : onR least r i y with
    | none => rw [ho] at h; cases h
    | some x => rw [ho] at h; simp only [Option.toList, List.mem_singleton] at h; rw [h]
   unfold onR at this
   split at this
   ·cases this
   ·split at this
    ·cases this
    ·simp only [Option.some.injEq] at this
     subst this
     exact ⟨i, rfl, by simp⟩
  ·obtain ⟨j, h1, h2⟩ := Zkg least y l (i + 1) e h
   exact ⟨j, h1, by simp only [List.length_cons]; omega⟩
theorem ZnS (l : List Zaa) (least from_ : Int) : ∀ k, ∀ e ∈ allC l least from_ k, ∃ j : Nat, e.rule = j /\ j < l.length
 | 0 => fun e h => by cases h
 | k + 1 => fun e he => by
  rw [allC] at he
  rcases List.mem_append.1 he with h | h
  ·exact ZnS l least from_ k e h
  ·have := Zkg _ _ _ _ e h
   simpa using this
theorem Zpm (l : List Zaa) (e : Zad) (h : ZjI l = some e) : ∃ j : Nat, e.rule = j /\ j < l.length := by
 rw [<- ZnP] at h
 exact ZnS _ _ _ _ e (List.mem_mergeSort.1 (ZkU _ _ h))
def Zl4 (s : Zai) : Prop := ∀ r ∈ s.rules, (-4611686018427387904 <= r.save /\ r.save <= 4611686018427387904) /\ r.from_ <= 4611686018427387904
theorem Ztj {l : List Zaa} {x : ByteArray} {r : Zaa} (h : r ∈ ofB l x) : r ∈ l := (List.mem_filter.1 h).1
def SavI (s : Zai) : Prop := ∀ r ∈ s.rules, -9223372036854775808 <= r.save /\ r.save <= 9223372036854775807
theorem ZgI (least : Int) : ∀ (l : List Zaa) (k : Nat), Zbw least l k = none -> ∀ r ∈ l, Zcr r least = 0
 | [], _, _, _, h => by cases h
 | x :: l, k, h, r, hr => by
  rw [Zbw] at h
  by_cases h0 : Zcr x least = 0
  ·rw [if_pos h0] at h
   rcases List.mem_cons.1 hr with rfl | hr
   ·exact h0
   ·exact ZgI least l (k + 1) h r hr
  ·rw [if_neg h0] at h
   cases h
theorem Zs2 {r : Zaa} {least : Int} (h : Zcr r least = 0) : (-4611686018427387904 <= r.save /\ r.save <= 4611686018427387904) /\ r.from_ <= 4611686018427387904 := by
 unfold Zcr at h
 split at h
 ·cases h
 ·rename_i h1
  split at h
  ·cases h
  ·split at h
   ·cases h
   ·split at h
    ·cases h
    ·split at h
     ·cases h
     ·rename_i h2
      have e2 : (decide (-10800 <= r.save) && decide (r.save <= 10800)) = true := by
       cases hh : (decide (-10800 <= r.save) && decide (r.save <= 10800)) with
       | true => rfl
       | false => exact absurd hh h2
      have e1 : Zcm r.from_ = true := by
       cases hh : Zcm r.from_ with
       | true => rfl
       | false => rw [hh] at h1; exact absurd rfl h1
      unfold Zcm at e1
      simp only [Bool.and_eq_true, decide_eq_true_eq] at e1 e2
      omega
theorem ZmK {l : List Zaa} (h : (ZfC l).2 = 0) : ∀ r ∈ l, (-4611686018427387904 <= r.save /\ r.save <= 4611686018427387904) /\ r.from_ <= 4611686018427387904 := by
 intro r hr
 unfold ZfC at h
 cases hf : Zbw (Zak l) l 0 with
 | none => exact Zs2 (ZgI _ l 0 hf r hr)
 | some x =>
  rw [hf] at h
  exfalso
  have : ∀ (l : List Zaa) (k : Nat) (x : Nat × Int) (m : Int), Zbw m l k = some x -> x.2 ≠ 0 := fun l => by
   induction l with
   | nil => intro k x m h; cases h
   | cons y l ih =>
    intro k x m h
    rw [Zbw] at h
    split at h
    ·exact ih _ _ _ h
    ·rename_i h0
     simp only [Option.some.injEq] at h
     rw [<- h]
     exact h0
  exact this _ _ _ _ hf h
theorem ZeO : ∀ (l : List Zaa) (acc : List ByteArray), (∀ x ∈ acc, x ∈ Zcd l acc) /\ ∀ r ∈ l, r.name ∈ Zcd l acc
 | [], acc => ⟨fun _ h => h, fun _ h => by cases h⟩
 | y :: l, acc => by
  rw [Zcd]
  by_cases hm : memB y.name acc = true
  ·rw [if_pos hm]
   have ih := ZeO l acc
   refine ⟨ih.1, fun r hr => ?_⟩
   rcases List.mem_cons.1 hr with rfl | hr
   ·refine ih.1 _ ?_
    have : ∀ (l : List ByteArray) (x : ByteArray), memB x l = true -> x ∈ l := fun l => by
     induction l with
     | nil => intro x h; cases h
     | cons z l ih2 =>
      intro x h
      rw [memB, Bool.or_eq_true, decide_eq_true_eq] at h
      rcases h with rfl | h
      ·exact List.mem_cons_self
      ·exact List.mem_cons_of_mem _ (ih2 x h)
    exact this _ _ hm
   ·exact ih.2 r hr
  ·rw [if_neg hm]
   have ih := ZeO l (acc ++ [y.name])
   refine ⟨fun x hx => ih.1 x (List.mem_append_left _ hx), fun r hr => ?_⟩
   rcases List.mem_cons.1 hr with rfl | hr
   ·exact ih.1 _ (List.mem_append_right _ (List.mem_singleton.2 rfl))
   ·exact ih.2 r hr
theorem ZiC (rs : List Zaa) : ∀ l : List ByteArray, ZdS rs l = none -> ∀ x ∈ l, (ZfC (ofB rs x)).2 = 0
 | [], _, _, h => by cases h
 | y :: l, h, x, hx => by
  rw [ZdS] at h
  cases hf : ZcU rs y with
  | some z => rw [hf] at h; cases h
  | none =>
   rw [hf] at h
   rcases List.mem_cons.1 hx with rfl | hx
   ·unfold ZcU at hf
    split at hf
    ·cases hf
    ·split at hf
     ·cases hf
     ·rename_i h2
      exact Decidable.of_not_not h2
   ·exact ZiC rs l h x hx
theorem ZsW {s : Zai} (h : Zh6 s = none) : Zl4 s := fun r hr =>
 ZmK (ZiC s.rules _ h r.name ((ZeO s.rules []).2 r hr)) r (List.mem_filter.2 ⟨hr, decide_eq_true rfl⟩)
theorem ZoG (l : List Zaa) (x : ByteArray) : (ofB l x).length <= l.length := List.length_filter_le _ _
theorem Zjf (least : Int) : ∀ (l : List Zaa) (i : Nat) (j : Nat) (e : Int), Zbw least l i = some (j, e) -> j < i + l.length
 | [], _, _, _, h => by cases h
 | r :: l, i, j, e, h => by
  rw [Zbw] at h
  split at h
  ·have := Zjf least l (i + 1) j e h; simp only [List.length_cons]; omega
  ·simp only [Option.some.injEq, Prod.mk.injEq] at h; simp only [List.length_cons]; omega
theorem Zv6 (l : List Zaa) : (ZfC l).1 <= l.length := by
 unfold ZfC
 split
 ·rename_i x h
  obtain ⟨j, e⟩ := x
  have := Zjf _ l 0 j e h
  simp only at this ⊢
  omega
 ·repeat' split
  all_goals exact Nat.zero_le _
theorem Zmk {G : Prop} (h : G := by (first | (apply Zav; rfl; rfl; omega; omega; (intro w' _ hO; exact (ZbT (hO.of (A := .row (.slice An N.length cn) 9 1 N.length (N.flatMap Zbh)) (by repeat' constructor)) hg1).1)) | (apply Zim; rfl; (focus repeat' constructor); exact hg1))) : G := h
theorem ZrI (Ar Az Al As : Option Addr) (cr cz cl cs : Nat) (a : Zai) (w : World) (hG : Glob w) (hA : Zaj w Ar Az Al As cr cz cl cs a) (hS : Zia a) (hV : SavI a) :
  Does Tryz.prog 46 [srcV Ar Az Al As cr cz cl cs a] w (fun v O => v = ptV (Zh6 a) /\ O = []) := by
 have hn := hS.nr
 have hnm := fun w' (hw : Bel w.heap.size w w') => ZrD Ar Az Al As cr cz cl cs a w' (hA.up hw) hn
 have hNm := Zhh a.rules []
 have hNl := Zhi a.rules []
 unfold Zh6
 generalize Zcd a.rules [] = N at *
 simp only [List.length_nil, Nat.zero_add] at hNl
 obtain ⟨res, hres⟩ : ∃ res, ZdS a.rules N = res := ⟨_, rfl⟩
 rw [hres]
 refine Zab Tryz.func46 rfl rfl rfl rfl ?_
 repeat (first | (refine js ?_; (first | (apply Zag (h := fun w' hw _ => hnm w' hw); rfl; rintro v O' ⟨An, cn, rfl, rfl⟩) | (refine bx ?_; intro bk))) | refine walk ?_)
 rename_i b1
 obtain ⟨b2, hb2⟩ : ∃ b2, bk = b2 := ⟨_, rfl⟩
 rw [hb2]
 clear hb2 bk
 refine Zaq [(1, .pointer (some ⟨b1, 0, none⟩)), (2, .pointer (some ⟨b2, 0, none⟩)), (12, .slice An N.length cn), (13, .int .i64 N.length)] [.row (.slice An N.length cn) 9 1 N.length (N.flatMap Zbh), .blk b2 [.int .i64 0, .int .i64 0, .int .i64 0] 79, .blk b1 [.slice Ar a.rules.length cr, .slice Az a.zones.length cz, .slice Al a.links.length cl, .slice As a.shifts.length cs] 130]
  (fun k : Nat => [(14, .int .i64 k)]) (fun _ => []) (fun k => k <= N.length /\ ZdS a.rules (N.drop k) = res) (fun k => N.length - k) 0 SFA SOA ⟨Nat.zero_le _, hres⟩ ?_
 clear hnm hres
 rintro k ⟨hk, hi⟩
 repeat (first | (refine js ?_; (refine bx ?_; intro bk)) | refine walk ?_)
 refine Zah rfl (fun hc => ?_) (fun hc => ?_)
 ·simp only [decide_eq_true_eq, Int.ofNat_lt] at hc
  have hg1 : (N.flatMap Zbh)[k * 1]? = some (.string N[k]) := by
   have := ZaC (enc := Zbh) (fun _ => rfl) N k _ 0 (.string N[k]) (List.getElem?_eq_getElem hc) rfl
   simpa using this
  have hxm := hNm _ (List.getElem_mem hc)
  rw [Zat hc, ZdS] at hi
  generalize N[k] = x at *
  have hxs : x.size <= 1000000000 := by
   rcases hxm with h | ⟨r, hr, rfl⟩
   ·cases h
   ·exact (hS.rs r hr).1
  have hof := fun w' (hw : Bel w.heap.size w w') => Zfi Ar Az Al As cr cz cl cs a x w' (hA.up hw) hn
  have hset := fun w' => Zv5 x (by omega) w'
  have hRs : ∀ r ∈ ofB a.rules x, r ∈ a.rules := fun r h => Ztj h
  have hRl := ZoG a.rules x
  have hck := fun A3 c3 w' (hw : Bel w.heap.size w w') h => ZmJ A3 c3 (ofB a.rules x) w' (hG.up hw) h (by omega) (fun r hr => ⟨hV r (hRs r hr), by have := (hS.rs r (hRs r hr)).2; omega⟩)
  have hap := fun (hz : (ZfC (ofB a.rules x)).2 = 0) A3 c3 w' (hw : Bel w.heap.size w w') h => Zsf A3 c3 (ofB a.rules x) w' (hG.up hw) h (by omega) (fun r hr => (ZmK hz r hr).1)
  have hru0 := fun (i : Nat) (hi : i <= 1000000) w' (hw : Bel w.heap.size w w') => Zs0 Ar Az Al As cr cz cl cs a x i w' (hA.up hw) hn hi
  have hcl := Zv6 (ofB a.rules x)
  have har := Zpm (ofB a.rules x)
  unfold ZcU at hi
  generalize ofB a.rules x = R at *
  cases hsb : setB x with
  | false =>
   rw [hsb] at hi hset
   rw [if_pos rfl] at hi
   dsimp only at hi
   have hru := hru0 0 (Nat.zero_le _)
   generalize ZdV x a.rules 0 0 = pl at *
   obtain ⟨p1, p2, p3⟩ := pl
   simp only [plV, ZaH.enc] at hru
   subst hi
   simp only [ptV, plV, ZaH.enc]
   repeat (first | (apply RL_pu; rfl; exact Zmk) | (refine js ?_; (first | (apply Zag (h := fun w' hw _ => hof w' hw); rfl; rintro v O' ⟨A3, c3, rfl, rfl⟩) | (refine Zac (fun w' hw => hset w') ?_) | (refine Zac hru ?_) | (refine bx ?_; intro bk))) | refine walk1 ?_)
   exact rtC
  | true =>
   rw [hsb] at hi hset
   rw [if_neg (by decide)] at hi
   generalize ZfC R = rc at *
   obtain ⟨ci, ce⟩ := rc
   dsimp only at hi hck hcl hap
   by_cases hce : ce = 0
   ·subst hce
    replace hap := hap rfl
    rw [if_neg (fun h => h rfl)] at hi
    generalize ZjI R = ap at *
    cases ap with
    | none =>
     simp only [apV, Zad.enc, dEv0] at hap
     dsimp only at hi
     repeat (first | (apply RL_pu; rfl; exact Zmk) | (refine js ?_; (first | (apply Zag (h := fun w' hw _ => hof w' hw); rfl; rintro v O' ⟨A3, c3, rfl, rfl⟩) | (refine Zac (fun w' hw => hset w') ?_) | (refine ZaF (fun w' hw hO => hck A3 c3 w' hw (ZaW Zaa.len (hO.of (A := .row (.slice A3 R.length c3) 118 11 R.length (R.flatMap Zaa.enc)) (by repeat' constructor)))) ?_) | (refine ZaF (fun w' hw hO => hap A3 c3 w' hw (ZaW Zaa.len (hO.of (A := .row (.slice A3 R.length c3) 118 11 R.length (R.flatMap Zaa.enc)) (by repeat' constructor)))) ?_) | (refine bx ?_; intro bk))) | refine walk1 ?_)
     exact ⟨k + 1, OA, ⟨OA, hi⟩, SFA, SOA⟩
    | some e =>
     obtain ⟨j, hj, hjl⟩ := har e rfl
     obtain ⟨ey, er, en⟩ := e
     dsimp only at hj
     subst hj
     simp only [apV, Zad.enc] at hap
     simp only [Int.toNat_natCast] at hi
     have hru := hru0 j (by omega)
     generalize ZdV x a.rules j 0 = pl at *
     obtain ⟨p1, p2, p3⟩ := pl
     simp only [plV, ZaH.enc] at hru
     subst hi
     simp only [ptV, plV, ZaH.enc]
     repeat (first | (apply RL_pu; rfl; exact Zmk) | (refine js ?_; (first | (apply Zag (h := fun w' hw _ => hof w' hw); rfl; rintro v O' ⟨A3, c3, rfl, rfl⟩) | (refine Zac (fun w' hw => hset w') ?_) | (refine ZaF (fun w' hw hO => hck A3 c3 w' hw (ZaW Zaa.len (hO.of (A := .row (.slice A3 R.length c3) 118 11 R.length (R.flatMap Zaa.enc)) (by repeat' constructor)))) ?_) | (refine ZaF (fun w' hw hO => hap A3 c3 w' hw (ZaW Zaa.len (hO.of (A := .row (.slice A3 R.length c3) 118 11 R.length (R.flatMap Zaa.enc)) (by repeat' constructor)))) ?_) | (refine Zac hru ?_) | (refine bx ?_; intro bk))) | refine walk1 ?_)
     exact rtC
   ·rw [if_pos hce] at hi
    dsimp only at hi
    have hb : decide (ce = 0) = false := decide_eq_false hce
    have hb2 : (!decide (ce = 0)) = true := by rw [hb]; rfl
    have hru := hru0 ci (by omega)
    generalize ZdV x a.rules ci 0 = pl at *
    obtain ⟨p1, p2, p3⟩ := pl
    simp only [plV, ZaH.enc] at hru
    subst hi
    simp only [ptV, plV, ZaH.enc]
    repeat (first | (apply RL_pu; rfl; (first | exact Zmk | (apply ZaG; rfl; rfl; exact hb) | (apply ZaE; rfl; rfl; exact hb2))) | (refine js ?_; (first | (apply Zag (h := fun w' hw _ => hof w' hw); rfl; rintro v O' ⟨A3, c3, rfl, rfl⟩) | (refine Zac (fun w' hw => hset w') ?_) | (refine ZaF (fun w' hw hO => hck A3 c3 w' hw (ZaW Zaa.len (hO.of (A := .row (.slice A3 R.length c3) 118 11 R.length (R.flatMap Zaa.enc)) (by repeat' constructor)))) ?_) | (refine Zac hru ?_) | (refine bx ?_; intro bk))) | refine walk1 ?_)
    exact rtC
 ·simp only [decide_eq_false_iff_not, Int.ofNat_lt] at hc
  rw [List.drop_eq_nil_of_le (by omega), ZdS] at hi
  subst hi
  repeat (first | (refine js ?_; (refine bx ?_; intro bk)) | refine walk ?_)
  exact rtC
theorem ZzS {α : Type} {w : World} {A : Option Addr} {c sz : Nat} {enc : α -> List Value} {l : List α} (h : RdSl w A c enc sz l) (k : Nat) : RdSl w A c enc sz (l.take k) where
 le := by have := h.le; rw [List.length_take]; omega
 cap := h.cap
 rd := fun j x hj => h.rd j x (by
  rw [List.getElem?_take] at hj
  split at hj
  ·exact hj
  ·cases hj)
theorem ZvK {G : Prop} (h : G := by (first | exact PuI | (apply ZaG; rfl; rfl; exact hb))) : G := h
theorem ZpQ {G : Prop} (h : G := by (first | exact ZvK | (apply Pu_sliceH; rfl; rfl; omega; omega))) : G := h
theorem ZsG {G G' : Prop} (k : G') (h : Hold G' -> G := by intro k9; (first | (apply RL_pu; rfl; exact ZpQ) | (refine js ?_; (first | (refine ZaF (fun w' hw hO => hot A3 c3 w' (ZaW Zaa.len (hO.of (A := .row (.slice A3 R.length c3) 118 11 R.length (R.flatMap Zaa.enc)) (by repeat' constructor)))) ?_) | (refine Zac hco ?_) | (refine ZaF (fun w' hw hO => hle A3 c3 w' (ZaW Zaa.len (hO.of (A := .row (.slice A3 R.length c3) 118 11 R.length (R.flatMap Zaa.enc)) (by repeat' constructor)))) ?_))) | refine walk1 ?_); exact k9.out) : G := h ⟨k⟩
theorem Zm2 (Ar Az Al As : Option Addr) (cr cz cl cs : Nat) (a : Zai) (w : World) (hA : Zaj w Ar Az Al As cr cz cl cs a) (hS : Zia a) :
  Does Tryz.prog 47 [srcV Ar Az Al As cr cz cl cs a] w (fun v O => v = ptV (ZbS a a.shifts [] 0) /\ O = []) := by
 have hn := hS.nr
 have hns := hS.ns
 have hcap := hA.s.le
 obtain ⟨res, hres⟩ : ∃ res, ZbS a a.shifts [] 0 = res := ⟨_, rfl⟩
 rw [hres]
 refine Zab Tryz.func47 rfl rfl rfl rfl ?_
 repeat (first | (refine js ?_; (refine bx ?_; intro bk)) | refine walk ?_)
 rename_i b1
 obtain ⟨b2, hb2⟩ : ∃ b2, bk = b2 := ⟨_, rfl⟩
 rw [hb2]
 clear hb2 bk
 refine Zaq [(1, .pointer (some ⟨b1, 0, none⟩)), (2, .pointer (some ⟨b2, 0, none⟩)), (12, .slice As a.shifts.length cs), (13, .int .i64 a.shifts.length)] [.blk b2 [.int .i64 0, .int .i64 0, .int .i64 0] 79, .blk b1 [.slice Ar a.rules.length cr, .slice Az a.zones.length cz, .slice Al a.links.length cl, .slice As a.shifts.length cs] 130]
  (fun k : Nat => [(14, .int .i64 k)]) (fun _ => []) (fun k => k <= a.shifts.length /\ ZbS a (a.shifts.drop k) (a.shifts.take k) k = res) (fun k => a.shifts.length - k) 0 SFA SOA ⟨Nat.zero_le _, hres⟩ ?_
 clear hres
 rintro k ⟨hk, hi⟩
 repeat (first | (refine js ?_; (refine bx ?_; intro bk)) | refine walk ?_)
 refine Zah rfl (fun hc => ?_) (fun hc => ?_)
 ·simp only [decide_eq_true_eq, Int.ofNat_lt] at hc
  obtain ⟨hna, hca⟩ := hA.s.rd k _ (List.getElem?_eq_getElem hc)
  have htk := List.take_append_getElem hc
  have hco := fun w' (hw : Bel w.heap.size w w') => ZlQ As cs (a.shifts.take k) a.shifts[k] w' ((ZzS hA.s k).up hw)
  rw [show (a.shifts.take k).length = k by rw [List.length_take]; omega] at hco
  rw [Zat hc, ZbS] at hi
  rw [htk] at hi
  generalize a.shifts[k] = x at *
  have hof := fun w' (hw : Bel w.heap.size w w') => Zfi Ar Az Al As cr cz cl cs a x w' (hA.up hw) hn
  have hot := fun A3 c3 w' h => Zkt A3 c3 (ofB a.rules x) w' h
  have hle := fun A3 c3 w' h => Zc1 A3 c3 (ofB a.rules x) w' h
  generalize ofB a.rules x = R at *
  generalize Zdd R = od at *
  obtain ⟨ox, ob⟩ := od
  dsimp only at hi hot
  by_cases hR : R = []
  ·rw [if_pos hR] at hi
   subst hi
   have hb : decide ((R.length : Int) = 0) = true := by rw [hR]; rfl
   simp only [ptV, plV, ZaH.enc]
   repeat (first | (apply RL_pu; rfl; exact ZvK) | (refine js ?_; (first | (apply Zag (h := fun w' hw _ => hof w' hw); rfl; rintro v O' ⟨A3, c3, rfl, rfl⟩) | (refine ZaF (fun w' hw hO => hot A3 c3 w' (ZaW Zaa.len (hO.of (A := .row (.slice A3 R.length c3) 118 11 R.length (R.flatMap Zaa.enc)) (by repeat' constructor)))) ?_) | (refine bx ?_; intro bk))) | refine walk1 ?_)
   exact rtC
  rw [if_neg hR] at hi
  have hb : decide ((R.length : Int) = 0) = false := decide_eq_false (fun h => hR (List.eq_nil_of_length_eq_zero (by omega)))
  cases hm : memB x (a.shifts.take k) with
  | true =>
   rw [hm] at hi hco
   rw [if_pos rfl] at hi
   subst hi
   simp only [ptV, plV, ZaH.enc]
   repeat (first | (apply RL_pu; rfl; exact ZpQ) | (refine js ?_; (first | (apply Zag (h := fun w' hw _ => hof w' hw); rfl; rintro v O' ⟨A3, c3, rfl, rfl⟩) | (refine ZaF (fun w' hw hO => hot A3 c3 w' (ZaW Zaa.len (hO.of (A := .row (.slice A3 R.length c3) 118 11 R.length (R.flatMap Zaa.enc)) (by repeat' constructor)))) ?_) | (refine Zac hco ?_) | (refine bx ?_; intro bk))) | refine walk1 ?_)
   exact rtC
  | false =>
   rw [hm] at hi hco
   rw [if_neg (by decide)] at hi
   generalize Zak R = lt at *
   by_cases hl : lt = 0
   ·subst hl
    cases ob with
    | false =>
     rw [if_pos (.inr rfl)] at hi
     subst hi
     simp only [ptV, plV, ZaH.enc]
     repeat (first | refine ZsG ?_ | (refine js ?_; (first | (apply Zag (h := fun w' hw _ => hof w' hw); rfl; rintro v O' ⟨A3, c3, rfl, rfl⟩) | (refine bx ?_; intro bk))))
     exact rtC
    | true =>
     rw [if_neg (by rintro (h | h); exact h rfl; cases h)] at hi
     repeat (first | refine ZsG ?_ | (refine js ?_; (first | (apply Zag (h := fun w' hw _ => hof w' hw); rfl; rintro v O' ⟨A3, c3, rfl, rfl⟩) | (refine bx ?_; intro bk))))
     exact ⟨k + 1, OA, ⟨OA, hi⟩, SFA, SOA⟩
   ·rw [if_pos (.inl hl)] at hi
    subst hi
    have hb2 : (!decide (lt = 0)) = true := by rw [decide_eq_false hl]; rfl
    simp only [ptV, plV, ZaH.enc]
    repeat (first | (apply RL_pu; rfl; (first | exact ZpQ | (apply ZaE; rfl; rfl; exact hb2))) | (refine js ?_; (first | (apply Zag (h := fun w' hw _ => hof w' hw); rfl; rintro v O' ⟨A3, c3, rfl, rfl⟩) | (refine ZaF (fun w' hw hO => hot A3 c3 w' (ZaW Zaa.len (hO.of (A := .row (.slice A3 R.length c3) 118 11 R.length (R.flatMap Zaa.enc)) (by repeat' constructor)))) ?_) | (refine Zac hco ?_) | (refine ZaF (fun w' hw hO => hle A3 c3 w' (ZaW Zaa.len (hO.of (A := .row (.slice A3 R.length c3) 118 11 R.length (R.flatMap Zaa.enc)) (by repeat' constructor)))) ?_) | (refine bx ?_; intro bk))) | refine walk1 ?_)
    exact rtC
 ·simp only [decide_eq_false_iff_not, Int.ofNat_lt] at hc
  rw [List.drop_eq_nil_of_le (by omega), ZbS] at hi
  subst hi
  repeat (first | (refine js ?_; (refine bx ?_; intro bk)) | refine walk ?_)
  exact rtC
theorem ZvJ {G : Prop} (h : G := by (apply Zcv; rfl; rfl; exact b1)) : G := h
theorem ZkG (off save : Int) (ho : I64 off) (hs : I64 save) (w : World) : Does Tryz.prog 129 [.int .i64 off, .int .i64 save] w (fun v O => v = .bool (Zcn off save) /\ O = []) := by
 have hsm := fun w' => ZjN off save ho hs w'
 refine Zab Tryz.func129 rfl rfl rfl rfl ?_
 cases hok : ZdN (off + save) with
 | false =>
  rw [hok] at hsm
  have hb : Zcn off save = false := by
   unfold Zcn
   by_cases h1 : -54000 <= off + save
   ·by_cases h2 : off + save <= 54000
    ·exfalso
     have : ZdN (off + save) = true := by unfold ZdN; rw [decide_eq_true (by omega), decide_eq_true (by omega)]; rfl
     rw [this] at hok
     cases hok
    ·rw [decide_eq_false h2, Bool.and_false]
   ·rw [decide_eq_false h1, Bool.false_and]
  rw [hb]
  repeat (first | refine und ?_ | (refine js ?_; (refine Zac (fun w' hw => hsm w') ?_)) | refine walk ?_)
  exact rtA
 | true =>
  rw [hok, if_pos rfl] at hsm
  unfold Zcn
  generalize off + save = x at *
  by_cases h1 : -54000 <= x
  ·have b1 : decide (-54000 <= x) = true := decide_eq_true h1
   rw [b1]
   repeat (first | refine und ?_ | (apply RL_pu; rfl; exact ZvJ) | (refine js ?_; (refine Zac (fun w' hw => hsm w') ?_)) | refine walk1 ?_)
   exact rtA
  ·have b1 : decide (-54000 <= x) = false := decide_eq_false h1
   rw [b1]
   repeat (first | refine und ?_ | (apply RL_pu; rfl; exact ZvJ) | (refine js ?_; (refine Zac (fun w' hw => hsm w') ?_)) | refine walk1 ?_)
   exact rtA
theorem ZgE (Ar Az Al As : Option Addr) (cr cz cl cs : Nat) (a : Zai) (e : DEra) (w : World) (hA : Zaj w Ar Az Al As cr cz cl cs a) (hn : a.rules.length <= 1000000) :
  Does Tryz.prog 130 [srcV Ar Az Al As cr cz cl cs a, .agg e.enc.toArray] w (Zsq 118 11 Zaa.enc (Zbm a.rules e)) := by
 have hof := fun w' (hw : Bel w.heap.size w w') => Zfi Ar Az Al As cr cz cl cs a e.set w' (hA.up hw) hn
 unfold Zbm
 obtain ⟨off, kind, save, set, format, til⟩ := e
 dsimp only at hof ⊢
 simp only [DEra.enc]
 refine Zab Tryz.func130 rfl rfl rfl rfl ?_
 by_cases hk : kind = 2
 ·subst hk
  rw [if_pos rfl]
  generalize ofB a.rules set = R at *
  repeat (first | (refine js ?_; (first | (apply Zag (h := fun w' hw _ => hof w' hw); rfl; rintro v O' ⟨A3, c3, rfl, rfl⟩) | (refine bx ?_; intro bk))) | refine walk ?_)
  exact ret_1 _ [.row (.slice A3 R.length c3) 118 11 R.length (R.flatMap Zaa.enc)] (.tmp rfl) SOA ⟨A3, c3, rfl, rfl⟩
 ·rw [if_neg hk]
  have hb : (!decide (kind = 2)) = true := by rw [decide_eq_false hk]; rfl
  refine ZfG 118 11 ?_
  repeat (first | (apply RL_pu; rfl; (apply ZaE; rfl; rfl; exact hb)) | (refine js ?_; (refine bx ?_; intro bk)) | refine walk1 ?_)
  exact ret_1 _ [.row (.slice none 0 0) 118 11 0 []] (.tmp rfl) SOA ⟨none, 0, rfl, rfl⟩
def Zck (x : Int × ByteArray) : List Value := [.int .i64 x.1, .string x.2]
theorem Zck.len (x : Int × ByteArray) : (Zck x).length = 2 := rfl
structure StG where
 k : Nat
 A : Option Addr
 c : Nat
 m : Nat
 ys : List Value
def StR (l : List (Int × ByteArray)) (v : Value) (O : List It) : Prop := Zsq 162 2 Zck l v O \/ ∃ b x, l = [x] /\ v = .slice (some ⟨b, 0, none⟩) 1 1 /\ O = [.blk b (Zck x) 162]
theorem ZvI {G : Prop} (h : G := by (apply ZaG; rfl; rfl; exact b1)) : G := h
theorem Zmy (Ar Az Al As : Option Addr) (cr cz cl cs : Nat) (a : Zai) (e : DEra) (w : World) (hA : Zaj w Ar Az Al As cr cz cl cs a) (hn : a.rules.length <= 1000000) :
  Does Tryz.prog 132 [srcV Ar Az Al As cr cz cl cs a, .agg e.enc.toArray] w (StR (ZaR a.rules e)) := by
 have hst := fun w' (hw : Bel w.heap.size w w') => ZgE Ar Az Al As cr cz cl cs a e w' (hA.up hw) hn
 have hRl : (Zbm a.rules e).length <= 1000000 := by
  unfold Zbm
  split
  ·exact Nat.le_trans (ZoG _ _) hn
  ·exact Nat.zero_le _
 unfold ZaR
 generalize Zbm a.rules e = R at *
 obtain ⟨off, kind, save, set, format, til⟩ := e
 dsimp only at hst ⊢
 simp only [DEra.enc] at hst ⊢
 refine Zab Tryz.func132 rfl rfl rfl rfl ?_
 by_cases hk1 : kind = 1
 ·subst hk1
  rw [if_pos rfl]
  repeat (first | (refine js ?_; (refine bx ?_; intro bk)) | refine walk ?_)
  exact ret_1 _ [.blk bk [.int .i64 save, .string ByteArray.empty] 162] (.tmp rfl) SOA (.inr ⟨bk, (save, ByteArray.empty), rfl, rfl, rfl⟩)
 have b1 : decide (kind = 1) = false := decide_eq_false hk1
 rw [if_neg hk1]
 by_cases hk2 : kind = 2
 ·subst hk2
  rw [if_pos rfl]
  repeat (first | (apply RL_pu; rfl; exact ZvI) | (refine js ?_; (first | (apply Zag (h := fun w' hw _ => hst w' hw); rfl; rintro v O' ⟨A3, c3, rfl, rfl⟩) | (refine bx ?_; intro bk))) | refine walk1 ?_)
  refine ZfG 162 2 ?_
  refine Zaq [(20, .slice A3 R.length c3), (21, .int .i64 R.length)] [.row (.slice A3 R.length c3) 118 11 R.length (R.flatMap Zaa.enc)] (fun g : StG => [(5, .slice g.A g.m g.c), (22, .int .i64 g.k)]) (fun g => [.row (.slice g.A g.m g.c) 162 2 g.m g.ys])
   (fun g => g.k <= R.length /\ g.m = g.k /\ g.ys = ((R.take g.k).map fun r => (r.save, r.letter)).flatMap Zck) (fun g => R.length - g.k) ⟨0, none, 0, 0, []⟩ SFA SOA ⟨Nat.zero_le _, rfl, rfl⟩ ?_
  rintro ⟨k, A1, c1, m, ys⟩ ⟨hkl, hm, hy⟩
  dsimp only at hkl hm hy ⊢
  repeat (first | (refine js ?_; (refine bx ?_; intro bk)) | refine walk ?_)
  refine Zah rfl (fun hc => ?_) (fun hc => ?_)
  ·simp only [decide_eq_true_eq, Int.ofNat_lt] at hc
   have hg1 := ZaC Zaa.len R k _ 0 _ (List.getElem?_eq_getElem hc) rfl
   have hgn : ∀ j v, (Zaa.enc R[k])[j]? = some v -> (R.flatMap Zaa.enc)[k * 11 + j]? = some v := fun j v hj => ZaC Zaa.len R k _ j v (List.getElem?_eq_getElem hc) hj
   have htk := List.take_append_getElem hc
   generalize R[k] = r at *
   simp only [Zaa.enc] at hgn hg1
   repeat (first | (apply RL_pu; rfl; (first | (apply Zav; rfl; rfl; omega; omega; (intro w' _ hO; exact (ZbT (hO.of (A := .row (.slice A3 R.length c3) 118 11 R.length (R.flatMap Zaa.enc)) (by repeat' constructor)) hg1).1)) | (apply Za6; rfl; (focus repeat' constructor); exact hgn; rfl))) | (refine js ?_; (first | (apply Zau; rfl; rfl; (intro A' c'; (focus repeat' constructor)); (intro w' _ hO; exact Za4 (hO.of (by repeat' constructor))); rfl; rfl; (simp only [maxLen]; omega); omega; intro A' c' hc1 hc2 hc3) | (refine bx ?_; intro bk))) | refine walk1 ?_)
   exact ⟨⟨k + 1, A', c', m + 1, ys ++ [.int .i64 r.save, .string r.letter]⟩, OA, ⟨OA, OA, by dsimp only; rw [hy, <- htk]; simp [Zck]⟩, SFA, SOA⟩
  ·obtain rfl : k = R.length := by simp only [decide_eq_false_iff_not, Int.ofNat_lt] at hc; omega
   rw [List.take_length] at hy
   subst hm hy
   repeat (first | (refine js ?_; (refine bx ?_; intro bk)) | refine walk ?_)
   exact ret_1 _ [.row (.slice A1 R.length c1) 162 2 R.length ((R.map fun r => (r.save, r.letter)).flatMap Zck)] (.tmp rfl) SOA (.inl ⟨A1, c1, by rw [List.length_map], by rw [List.length_map]⟩)
 have b2 : decide (kind = 2) = false := decide_eq_false hk2
 rw [if_neg hk2]
 repeat (first | (apply RL_pu; rfl; (first | exact ZvI | (apply ZaG; rfl; rfl; exact b2))) | (refine js ?_; (refine bx ?_; intro bk)) | refine walk1 ?_)
 exact ret_1 _ [.blk bk [.int .i64 0, .string ByteArray.empty] 162] (.tmp rfl) SOA (.inr ⟨bk, (0, ByteArray.empty), rfl, rfl, rfl⟩)
theorem Ziy (Ar Az Al As : Option Addr) (cr cz cl cs : Nat) (a : Zai) (e : DEra) (w : World) (hA : Zaj w Ar Az Al As cr cz cl cs a) (hn : a.rules.length <= 1000000) :
  Does Tryz.prog 132 [srcV Ar Az Al As cr cz cl cs a, .agg e.enc.toArray] w (Zsq 162 2 Zck (ZaR a.rules e)) :=
 (Zmy Ar Az Al As cr cz cl cs a e w hA hn).monoH fun v O base w' hR hH => by
  rcases hR with h | ⟨b, x, hl, rfl, rfl⟩
  ·exact ⟨O, h, hH⟩
  ·rw [hl]
   exact ⟨_, ⟨some ⟨b, 0, none⟩, 1, rfl, rfl⟩, hH.toRow (m := 1) 2 rfl (by decide) (by simpa using Upd.here)⟩
end Go.Proofs.YtpcpmndldgejiaaGreatDoor
namespace Go.Wk
open Go Go.RowKit
theorem ZwX {P : Program} {n : Nat} {wr : World} {fr : Fr} {O : List It} {ty t t' : TypeId} {α : Type} [DecidableEq α] {enc : α -> List Value} {x y : Operand} {i j : α} {b : Bool} [hE : EqE P t α enc] (hx : ev fr x = some (.agg (enc i).toArray)) (hy : ev fr y = some (.agg (enc j).toArray)) (h : (!decide (i = j)) = b) :
  Pu P n wr fr O (.binOp .neq t x y t') ty (.bool b) := h ▸ Pu_neqE hx hy
end Go.Wk
namespace Go.Proofs.YtpcpmndldgejiaaGreatDoor
open Go Go.RowKit Go.Wk
attribute [local irreducible] W RL Does Zay Zam retQ Calls Pu Stp RD Qy Ay Zan
theorem Znh (A : Option Addr) (c : Nat) (l : List (Int × ByteArray)) (f : FuncId) [Body Tryz.prog f] (us cs : List Value) (p : Int × ByteArray -> Bool) (w : World) (hA : RdSl w A c Zck 2 l)
  (hf : ∀ r ∈ l, ∀ w', Bel w.heap.size w w' -> Does Tryz.prog f (us ++ [.agg (Zck r).toArray] ++ cs) w' (fun v O => v = .bool (p r) /\ O = [])) :
  Does Tryz.prog 173 [.slice A l.length c, .func (.func f) us.toArray cs.toArray] w (fun v O => v = .int .i64 (ZbJ p l 0) /\ O = []) := by
 have hs1 := hA.le
 have hs2 := hA.cap
 unfold maxLen at hs2
 generalize hres : ZbJ p l 0 = res
 refine Zab Tryz.func173 rfl rfl rfl rfl ?_
 repeat (first | refine walk ?_)
 refine Zaq [(0, _), (1, _), (4, _), (7, _)] _ (fun k : Nat => [(8, .int .i64 k)]) (fun _ => []) (fun k => k <= l.length /\ ZbJ p (l.drop k) k = res) (fun k => l.length - k) 0 ⟨rfl, rfl, rfl, rfl, rfl, trivial⟩ (.refl _) ⟨by omega, by simpa using hres⟩ ?_
 rintro k ⟨hk, hi⟩
 repeat (first | refine walk ?_)
 refine Zah rfl (fun hc => ?_) (fun hc => ?_)
 ·simp only [decide_eq_true_eq, Int.ofNat_lt] at hc
  obtain ⟨hna, hca⟩ := hA.rd k _ (List.getElem?_eq_getElem hc)
  have hnb := hna
  have hcb := hca
  rw [Zat hc, ZbJ] at hi
  have hrm := List.getElem_mem hc
  generalize l[k] = r at *
  repeat (first | (apply RL_pu; rfl; exact PuI) | (refine js ?_; (refine ZgR (fun w' hw _ => hf r hrm w' hw) ?_)) | refine walk1 ?_)
  refine Zah rfl (fun h3 => ?_) (fun h3 => ?_)
  ·repeat (first | refine walk ?_)
   rw [if_pos h3] at hi
   exact ret_1 _ [] (.tmp rfl) .nil ⟨by rw [<- hi], rfl⟩
  repeat (first | refine walk ?_)
  rw [h3] at hi
  exact ⟨k + 1, by omega, ⟨by omega, hi⟩, SFA, SOA⟩
 simp only [decide_eq_false_iff_not, Int.ofNat_lt] at hc
 repeat (first | refine walk ?_)
 exact ret_1 _ [] (.tmp rfl) .nil ⟨by rw [<- hi, List.drop_eq_nil_of_le (by omega)]; rfl, rfl⟩
theorem Zjw (A : Option Addr) (c : Nat) (l : List (Int × ByteArray)) (f : FuncId) [Body Tryz.prog f] (us cs : List Value) (p : Int × ByteArray -> Bool) (w : World) (hA : RdSl w A c Zck 2 l)
  (hf : ∀ r ∈ l, ∀ w', Bel w.heap.size w w' -> Does Tryz.prog f (us ++ [.agg (Zck r).toArray] ++ cs) w' (fun v O => v = .bool (p r) /\ O = [])) :
  Does Tryz.prog 131 [.slice A l.length c, .func (.func f) us.toArray cs.toArray] w (fun v O => v = .bool (l.any p) /\ O = []) := by
 have h := fun w' (hw : Bel w.heap.size w w') => Znh A c l f us cs p w' (hA.up hw) fun r hr w2 h2 => hf r hr w2 (hw.trans (h2.mono hw.size))
 rw [<- Zjj p l 0]
 generalize ZbJ p l 0 = k at *
 refine Zab Tryz.func131 rfl rfl rfl rfl ?_
 repeat (first | (refine js ?_; (refine Zac h ?_)) | refine walk ?_)
 exact rtA
theorem Zt4 (x : Int × ByteArray) (ad : Addr) (off : Int) (w : World) (h : w.cell? ad = some (.int .i64 off)) (ho : I64 off) (hx : I64 x.1) : Does Tryz.prog 128 [.agg (Zck x).toArray, .pointer (some ad)] w (fun v O => v = .bool (!Zcn off x.1) /\ O = []) := by
 obtain ⟨sv, lt⟩ := x
 dsimp only at hx ⊢
 have hh := fun w' => ZkG off sv ho hx w'
 generalize Zcn off sv = hb at *
 simp only [Zck]
 refine Zab Tryz.func128 rfl rfl rfl rfl ?_
 repeat (first | (apply RL_pu; rfl; (apply Pu_loadO1; rfl; exact h)) | (refine js ?_; (first | (refine Zac (fun w' hw => hh w') ?_) | (refine bx ?_; intro bk))) | refine walk1 ?_)
 exact rtA
instance : EqE Tryz.prog 72 Zbj Zbj.enc where
 h r s w := by
  unfold Zbj.enc
  simp [go_sem, Zha]
  rcases r with ⟨_, _, _, ⟨_, _, _⟩, ⟨_, _⟩⟩
  rcases s with ⟨_, _, _, ⟨_, _, _⟩, ⟨_, _⟩⟩
  simp only [Zqk, Result.ok.injEq, and_true]
  rw [Bool.eq_iff_iff]
  simp [and_assoc]
 g := by kernel_rfl
theorem Zoq (e : DEra) (w : World) : Does Tryz.prog 133 [.agg e.enc.toArray] w (fun v O => v = .bool (ZeG e) /\ O = []) := by
 obtain ⟨off, kind, save, set, format, til⟩ := e
 unfold ZeG
 dsimp only
 obtain ⟨is, year, month, ⟨dk, dw, dd⟩, ⟨cs, cb⟩⟩ := til
 dsimp only
 obtain ⟨n1, e1⟩ : ∃ b, (!decide (kind = 1)) = b := ⟨_, rfl⟩
 obtain ⟨n2, e2⟩ : ∃ b, (!decide (save = 0)) = b := ⟨_, rfl⟩
 obtain ⟨n3, e3⟩ : ∃ b, (!decide (kind = 2)) = b := ⟨_, rfl⟩
 obtain ⟨n4, e4⟩ : ∃ b, (!decide (set = ByteArray.empty)) = b := ⟨_, rfl⟩
 obtain ⟨n5, e5⟩ : ∃ b, (!decide ((⟨false, year, month, ⟨dk, dw, dd⟩, ⟨cs, cb⟩⟩ : Zbj) = dU0)) = b := ⟨_, rfl⟩
 rw [e1, e2, e3, e4, e5]
 simp only [DEra.enc]
 refine Zab Tryz.func133 rfl rfl rfl rfl ?_
 repeat' (first | (apply RL_pu; rfl; (first | (apply ZaE; rfl; rfl; exact e1) | (apply ZaE; rfl; rfl; exact e2) | (apply ZaE; rfl; rfl; exact e3) | (apply Zg1; rfl; rfl; exact e4) | (apply ZwX (i := (⟨false, year, month, ⟨dk, dw, dd⟩, ⟨cs, cb⟩⟩ : Zbj)) (j := dU0) (enc := Zbj.enc); rfl; rfl; exact e5))) | (refine js ?_; (refine bx ?_; intro bk)) | refine walk1 ?_ | refine und ?_ | (refine ZaB rfl rfl rfl (fun hc => ?_) (fun hc => ?_)) | (refine Zaz rfl rfl rfl (fun hc => ?_) (fun hc => ?_)) | (refine Zah rfl (fun hc => ?_) (fun hc => ?_)))
 all_goals exact clo1
end Go.Proofs.YtpcpmndldgejiaaGreatDoor
