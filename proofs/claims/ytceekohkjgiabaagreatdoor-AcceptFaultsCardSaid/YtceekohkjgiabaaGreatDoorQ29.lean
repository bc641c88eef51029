/- Contracts: the reference of layers 17 and 18: On, Far. Plain law: the first event that is close to the one in front of it, and the least event with a close one in its year or a neighbouring one, are one answer (layer 18's Check). Contracts: the reference of layer 18: before, close. Rules: make with a length; an index that is a number, in an own block. Contracts: variant.of, variant.Check. -/
import Derived.Test.YtceekohkjgiabaaGreatDoorQ28
import Derived.Test.YtceekohkjgiabaaGreatDoorQ27
import Derived.Test.YtceekohkjgiabaaGreatDoorQ17
import Derived.Test.YtceekohkjgiabaaGreatDoorQ26
import Derived.Test.YtceekohkjgiabaaGreatDoorQ20
import Derived.Laws.OwnMore
import Derived.Test.YtceekohkjgiabaaGreatDoorQ07
import Derived.Test.YtceekohkjgiabaaGreatDoorQ25
set_option maxHeartbeats 4000000
set_option linter.unusedVariables false
set_option linter.unusedSimpArgs false
namespace Go.Wk
open Go Go.RowKit
def farI (L n y : Int) : List DRule → Nat → Bool
 | [], _ => true
 | r :: l, i => match onR L r i y with
  | some e => if e.nominal < n + 259200 ∧ n - 259200 < e.nominal then false else farI L n y l (i + 1)
  | none => farI L n y l (i + 1)
def farY (L n : Int) (l : List DRule) (y : Int) : Nat → Bool
 | 0 => true
 | k + 1 => farI L n y l 0 && farY L n l (y + 1) k
def farR (l : List DRule) (n : Int) : Bool := farY (leastD l) n l (yearOf n - 1) 3
end Go.Wk
namespace Go.Proofs.YtceekohkjgiabaaGreatDoor
open Go Go.RowKit Go.Wk
attribute [local irreducible] W RL Does thenQ blockQ retQ Calls Pu Stp RD Qy Ay DoesIn
theorem leastD_le0 (l : List DRule) : leastD l ≤ 0 := by
 have h0 : ∀ (l : List DRule) (m : Int), l.foldl (fun m r => min m r.save) m ≤ m := fun l => by
  induction l with
  | nil => intro m; exact Int.le_refl _
  | cons r l ih => intro m; have := ih (min m r.save); simp only [List.foldl_cons]; omega
 exact h0 l 0
theorem rbase_spec (A : Option Addr) (c : Nat) (l : List DRule) (w : World) (hA : RdSl w A c DRule.enc 11 l) : Does Tryz.prog 181 [.slice A l.length c] w (fun v O => v = .int .i64 (max (leastD l) (-10800)) ∧ O = []) := by
 have hlst := fun w' (hw : Bel w.heap.size w w') => rleast_spec A c l w' (hA.up hw)
 generalize leastD l = L at *
 rw [show max L (-10800) = if L < -10800 then -10800 else L by split <;> omega]
 refine Does_of_W Tryz.func181 rfl rfl rfl rfl ?_
 repeat' (first | (refine js ?_; (refine callE hlst ?_)) | refine walk ?_ | (refine W_cond rfl (fun hc => ?_) (fun hc => ?_)))
 all_goals exact clo1
theorem PuRfH0 {G : Prop} (h : G := by (first | exact PuI | (apply Pu_lssB; rfl; rfl; first | exact bi0 | exact b1 | exact b3) | (apply Pu_geqB; rfl; rfl; exact bi1) | (apply Pu_gtrB; rfl; rfl; first | exact b2 | exact b4) | (apply Pu_neqB'; rfl; rfl; first | exact b5 | exact b7) | (apply Pu_eqlB; rfl; rfl; exact b8) | (apply Pu_mul; rfl; rfl; (constructor <;> omega)))) : G := h
theorem wkRfH0 {G G' : Prop} (k : G') (h : Hold G' → G := by intro k9; (first | refine und ?_ | (apply RL_pu; rfl; exact PuRfH0) | (refine js ?_; (first | (refine callE (fun w' _ => hcc w') ?_) | (refine callE (fun w' _ => ho w') ?_) | (refine callE hbs ?_))) | refine walk1 ?_); exact k9.out) : G := h ⟨k⟩
set_option maxHeartbeats 4000000 in
theorem rOn_spec (A : Option Addr) (c : Nat) (l : List DRule) (i : Nat) (y : Int) (r : DRule) (w : World) (hA : RdSl w A c DRule.enc 11 l) (hi : l[i]? = some r) :
  Does Tryz.prog 148 [.slice A l.length c, .int .i64 i, .int .i64 y] w (fun v O => v = .tuple #[evV (onR (leastD l) r i y), .bool (onR (leastD l) r i y).isSome] ∧ O = []) := by
 have hlt : i < l.length := (List.getElem?_eq_some_iff.1 hi).1
 have hbs := fun w' (hw : Bel w.heap.size w w') => rbase_spec A c l w' (hA.up hw)
 have hcc := fun w' => r6chk_spec r.at_ w'
 have hcb : clkChk r.at_ = true → -604799 ≤ r.at_.sec ∧ r.at_.sec ≤ 604799 := fun hc => by
  simp only [clkChk, Bool.and_eq_true, decide_eq_true_eq] at hc
  omega
 have ho := fun w' => ron_spec y r.month r.day w'
 have hob := onD_bd y r.month r.day
 obtain ⟨hna, hca⟩ := hA.rd i _ hi
 obtain ⟨res, hres⟩ : ∃ res, onR (leastD l) r i y = res := ⟨_, rfl⟩
 rw [hres]
 unfold onR lastY at hres
 clear hi
 have hmb : -10800 ≤ max (leastD l) (-10800) ∧ max (leastD l) (-10800) ≤ 0 := by
  have := leastD_le0 l
  omega
 generalize max (leastD l) (-10800) = mx at *
 generalize onD y r.month r.day = x at *
 generalize clkChk r.at_ = z at *
 obtain ⟨x1, x2⟩ := x
 obtain ⟨nm, fr, to, mo, ⟨dk, dw, dd⟩, ⟨cs, cb⟩, sv, le⟩ := r
 simp only [DRule.enc] at *
 have bi0 : decide ((i : Int) < 0) = false := decide_eq_false (by omega)
 have bi1 : decide ((l.length : Int) ≤ (i : Int)) = false := decide_eq_false (by omega)
 refine Does_of_W Tryz.func148 rfl rfl rfl rfl ?_
 by_cases c1 : y < -2000000000
 ·have b1 : decide (y < -2000000000) = true := decide_eq_true c1
  obtain rfl : none = res := by rw [← hres, if_pos (.inl (by omega))]
  repeat (first | refine wkRfH0 ?_ | (refine js ?_; (refine bx ?_; intro bk)))
  exact rtC
 have b1 : decide (y < -2000000000) = false := decide_eq_false c1
 by_cases c2 : 2000000000 < y
 ·have b2 : decide (2000000000 < y) = true := decide_eq_true c2
  obtain rfl : none = res := by rw [← hres, if_pos (.inr (.inl (by split <;> omega)))]
  repeat (first | refine wkRfH0 ?_ | (refine js ?_; (refine bx ?_; intro bk)))
  exact rtC
 have b2 : decide (2000000000 < y) = false := decide_eq_false c2
 by_cases c3 : y < fr
 ·have b3 : decide (y < fr) = true := decide_eq_true c3
  obtain rfl : none = res := by rw [← hres, if_pos (.inl (by omega))]
  repeat (first | refine wkRfH0 ?_ | (refine js ?_; (refine bx ?_; intro bk)))
  exact rtC
 have b3 : decide (y < fr) = false := decide_eq_false c3
 obtain ⟨e5, b5⟩ : ∃ e, (!decide (to = 1048576)) = e := ⟨_, rfl⟩
 obtain ⟨e4, b4⟩ : ∃ e, decide (to < y) = e := ⟨_, rfl⟩
 by_cases c4 : e5 = true ∧ e4 = true
 ·obtain ⟨rfl, rfl⟩ := c4
  have h5 : to ≠ 1048576 := by simpa using b5
  have h4 := of_decide_eq_true b4
  obtain rfl : none = res := by rw [← hres, if_pos (.inr (.inl (by rw [if_neg h5]; omega)))]
  repeat (first | refine wkRfH0 ?_ | (refine js ?_; (refine bx ?_; intro bk)))
  exact rtC
 have hlast : ¬ (if to = 1048576 then 2000000000 else min to 2000000000) < y := by
  by_cases h5 : to = 1048576
  ·rw [if_pos h5]; omega
  ·rw [if_neg h5]
   have h4 : ¬ to < y := fun h4 => c4 ⟨by rw [← b5, decide_eq_false h5]; rfl, by rw [← b4, decide_eq_true h4]⟩
   omega
 cases z with
 | false =>
  obtain rfl : none = res := by rw [← hres, if_pos (.inr (.inr rfl))]
  cases e5 <;> cases e4 <;> first | exact absurd ⟨rfl, rfl⟩ c4 | skip
  all_goals
   repeat (first | refine wkRfH0 ?_ | (refine js ?_; (refine bx ?_; intro bk)))
   exact rtC
 | true =>
  have hb := hcb rfl
  have hno : ¬ (y < max fr (-2000000000) ∨ (if to = 1048576 then 2000000000 else min to 2000000000) < y ∨ true = false) := by
   rintro (h | h | h)
   ·omega
   ·exact hlast h
   ·cases h
  rw [if_neg hno] at hres
  by_cases c7 : x2 = 0
  ·rw [if_neg (fun h => h c7)] at hres
   have b7 : (!decide (x2 = 0)) = false := by rw [decide_eq_true c7]; rfl
   rw [Int.mul_comm] at hres
   by_cases c8 : cb = 1
   ·rw [if_pos c8] at hres
    subst hres
    have b8 : decide (cb = 1) = true := decide_eq_true c8
    cases e5 <;> cases e4 <;> first | exact absurd ⟨rfl, rfl⟩ c4 | skip
    all_goals
     repeat (first | refine wkRfH0 ?_ | (refine js ?_; (refine bx ?_; intro bk)))
     exact rtC
   ·rw [if_neg c8, Int.add_zero] at hres
    subst hres
    have b8 : decide (cb = 1) = false := decide_eq_false c8
    cases e5 <;> cases e4 <;> first | exact absurd ⟨rfl, rfl⟩ c4 | skip
    all_goals
     repeat (first | refine wkRfH0 ?_ | (refine js ?_; (refine bx ?_; intro bk)))
     exact rtC
  ·rw [if_pos c7] at hres
   subst hres
   have b7 : (!decide (x2 = 0)) = true := by rw [decide_eq_false c7]; rfl
   cases e5 <;> cases e4 <;> first | exact absurd ⟨rfl, rfl⟩ c4 | skip
   all_goals
    repeat (first | refine wkRfH0 ?_ | (refine js ?_; (refine bx ?_; intro bk)))
    exact rtC
theorem PuRfH2 {G : Prop} (h : G := by (first | (apply Pu_mul; rfl; rfl; (constructor <;> omega)) | (apply Pu_leqB; rfl; rfl; exact bz))) : G := h
theorem PuRfH3 {G : Prop} (h : G := by (apply Pu_mul; rfl; rfl; (constructor <;> omega))) : G := h
theorem PuRfH4 {G : Prop} (h : G := by (first | exact PuRfH3 | (apply Pu_lssB; rfl; rfl; first | exact b3 | exact b2) | (apply Pu_gtrB; rfl; rfl; first | exact b4 | exact b1))) : G := h
set_option maxHeartbeats 2000000 in
theorem rfar_spec (A : Option Addr) (c : Nat) (l : List DRule) (n : Int) (w : World) (hA : RdSl w A c DRule.enc 11 l) (hn : l.length ≤ 1000000) (ht : -1000000000000000000 ≤ n ∧ n ≤ 1000000000000000000) :
  Does Tryz.prog 112 [.slice A l.length c, .int .i64 n] w (fun v O => v = .bool (farR l n) ∧ O = []) := by
 unfold farR
 have hL0 := leastD_le0 l
 have hyb := yearOf_bd n
 have hyr := fun w' => rYear_spec n (by omega) w'
 have hons := fun (i : Nat) (y : Int) (r : DRule) (hi : l[i]? = some r) w' (hw : Bel w.heap.size w w') => rOn_spec A c l i y r w' (hA.up hw) hi
 generalize leastD l = L at *
 generalize yearOf n = y at *
 obtain ⟨R, hR⟩ : ∃ R, farY L n l (y - 1) 3 = R := ⟨_, rfl⟩
 rw [hR]
 have b1 : decide (1152921504606846976 < n) = false := decide_eq_false (by omega)
 have b2 : decide (n < -1152921504606846976) = false := decide_eq_false (by omega)
 refine Does_of_W Tryz.func112 rfl rfl rfl rfl ?_
 repeat (first | (apply RL_pu; rfl; (first | (apply Pu_lssB; rfl; rfl; exact b2) | (apply Pu_gtrB; rfl; rfl; exact b1) | (apply Pu_mul; rfl; rfl; (constructor <;> omega)))) | (refine js ?_; (first | (refine callE (fun w' _ => hyr w') ?_) | (refine bx ?_; intro bk))) | refine walk1 ?_)
 refine W_loopF [(0, .slice A l.length c), (1, .int .i64 n), (5, .int .i64 y)] [] (fun k : Nat => [(6, .int .i64 (y - 1 + (k : Int)))]) (fun _ => []) (fun k => k ≤ 3 ∧ farY L n l (y - 1 + (k : Int)) (3 - k) = R) (fun k => 3 - k) 0 (by simpa using SFA) SOA ⟨by omega, by simpa using hR⟩ ?_
 clear hR
 rintro k ⟨hk, hi⟩
 obtain ⟨z, hz⟩ : ∃ z, y - 1 + (k : Int) = z := ⟨_, rfl⟩
 rw [hz] at hi ⊢
 by_cases hk3 : k < 3
 ·have bz : decide (z ≤ y + 1) = true := decide_eq_true (by omega)
  rw [show 3 - k = (2 - k) + 1 by omega, farY] at hi
  generalize hF : farY L n l (z + 1) (2 - k) = F2 at hi
  repeat (first | (apply RL_pu; rfl; exact PuRfH2) | (refine js ?_; (refine bx ?_; intro bk)) | refine walk1 ?_)
  refine W_loopF [(0, .slice A l.length c), (1, .int .i64 n), (5, .int .i64 y), (6, .int .i64 z)] [] (fun i : Nat => [(7, .int .i64 i)]) (fun _ => []) (fun i => i ≤ l.length ∧ (farI L n z (l.drop i) i && F2) = R) (fun i => l.length - i) 0 SFA SOA ⟨Nat.zero_le _, hi⟩ ?_
  clear hi
  rintro i ⟨hil, hi⟩
  repeat (first | (refine js ?_; (refine bx ?_; intro bk)) | refine walk ?_)
  refine W_cond rfl (fun hc => ?_) (fun hc => ?_)
  ·simp only [decide_eq_true_eq, Int.ofNat_lt] at hc
   have hon := hons i z l[i] (List.getElem?_eq_getElem hc)
   rw [drop_cons hc, farI] at hi
   have hbd : EvOk (onR L l[i] i z) := onR_bd L hL0 l[i] i z
   generalize onR L l[i] i z = o at *
   cases o with
   | none =>
    simp only [evV, DEvent.enc, dEv0, Option.isSome] at hon
    repeat (first | refine und ?_ | (apply RL_pu; rfl; exact PuRfH3) | (refine js ?_; (first | (refine callE hon ?_) | (refine bx ?_; intro bk))) | refine walk1 ?_)
    exact ⟨i + 1, OA, ⟨OA, hi⟩, SFA, SOA⟩
   | some e =>
    have he := hbd e rfl
    simp only [evV, DEvent.enc, Option.isSome] at hon
    dsimp only at hi
    by_cases h3 : e.nominal < n + 259200
    ·have b3 : decide (e.nominal < n + 259200) = true := decide_eq_true h3
     by_cases h4 : n - 259200 < e.nominal
     ·have b4 : decide (n - 259200 < e.nominal) = true := decide_eq_true h4
      rw [if_pos ⟨h3, h4⟩, Bool.false_and] at hi
      subst hi
      repeat (first | refine und ?_ | (apply RL_pu; rfl; exact PuRfH4) | (refine js ?_; (first | (refine callE hon ?_) | (refine bx ?_; intro bk))) | refine walk1 ?_)
      exact rtA
     ·have b4 : decide (n - 259200 < e.nominal) = false := decide_eq_false h4
      rw [if_neg (fun h => h4 h.2)] at hi
      repeat (first | refine und ?_ | (apply RL_pu; rfl; exact PuRfH4) | (refine js ?_; (first | (refine callE hon ?_) | (refine bx ?_; intro bk))) | refine walk1 ?_)
      exact ⟨i + 1, OA, ⟨OA, hi⟩, SFA, SOA⟩
    ·have b3 : decide (e.nominal < n + 259200) = false := decide_eq_false h3
     rw [if_neg (fun h => h3 h.1)] at hi
     repeat (first | refine und ?_ | (apply RL_pu; rfl; exact PuRfH4) | (refine js ?_; (first | (refine callE hon ?_) | (refine bx ?_; intro bk))) | refine walk1 ?_)
     exact ⟨i + 1, OA, ⟨OA, hi⟩, SFA, SOA⟩
  ·simp only [decide_eq_false_iff_not, Int.ofNat_lt] at hc
   rw [List.drop_eq_nil_of_le (by omega), farI, Bool.true_and] at hi
   subst hi
   repeat (first | (apply RL_pu; rfl; exact PuRfH3) | (refine js ?_; (refine bx ?_; intro bk)) | refine walk1 ?_)
   exact ⟨k + 1, OA, ⟨OA, by rw [show y - 1 + ((k + 1 : Nat) : Int) = z + 1 by omega, show 3 - (k + 1) = 2 - k by omega]; exact hF⟩, by simpa [show y - 1 + ((k : Int) + 1) = z + 1 by omega] using SFA, SOA⟩
 ·obtain rfl : k = 3 := by omega
  have bz : decide (z ≤ y + 1) = false := decide_eq_false (by omega)
  rw [show 3 - 3 = 0 from rfl, farY] at hi
  subst hi
  repeat (first | (apply RL_pu; rfl; exact PuRfH2) | (refine js ?_; (refine bx ?_; intro bk)) | refine walk1 ?_)
  exact rtA
end Go.Proofs.YtceekohkjgiabaaGreatDoor
namespace Go.Proofs.YtceekohkjgiabaaGreatDoor
open Go Go.RowKit Go.Wk
def closeB (e : DEvent) (l : List DEvent) : Bool := l.any fun x => ltE x e && decide (e.nominal - x.nominal < 259200)
def nearB (Y : Nat → List DEvent) (N y : Nat) (e : DEvent) : Bool := closeB e (Y y) || (decide (0 < y) && closeB e (Y (y - 1))) || (decide (y + 1 < N) && closeB e (Y (y + 1)))
def befE (e : DEvent) : Option DEvent → Bool
 | none => true
 | some b => ltE e b
def capI (p : DEvent → Bool) : List DEvent → Option DEvent → Option DEvent
 | [], o => o
 | e :: l, o => capI p l (if p e && befE e o then some e else o)
def capJ (Y : Nat → List DEvent) (N : Nat) : Nat → Nat → Option DEvent → Option DEvent
 | 0, _, o => o
 | k + 1, y, o => capJ Y N k (y + 1) (capI (nearB Y N y) (Y y) o)
def yearsE (l : List DRule) (y : Nat) : List DEvent := yearC (leastD l) (1850 + y) l 0
def capD (l : List DRule) : Option DEvent := capJ (yearsE l) 701 701 0 none
def LeastE (P : DEvent → Prop) : Option DEvent → Prop
 | none => ∀ e, ¬ P e
 | some e => P e ∧ ∀ e', P e' → ltE e' e = false
theorem LeastE.uni {P : DEvent → Prop} : ∀ {o o' : Option DEvent}, LeastE P o → LeastE P o' → o = o'
 | none, none, _, _ => rfl
 | none, some e, h, h' => absurd h'.1 (h e)
 | some e, none, h, h' => absurd h.1 (h' e)
 | some a, some b, h, h' => by rw [totE a b (h'.2 a h.1) (h.2 b h'.1)]
theorem LeastE.iff {P Q : DEvent → Prop} (hPQ : ∀ e, P e ↔ Q e) : ∀ {o : Option DEvent}, LeastE P o → LeastE Q o
 | none, h => fun e he => h e ((hPQ e).2 he)
 | some a, h => ⟨(hPQ a).1 h.1, fun e he => h.2 e ((hPQ e).2 he)⟩
theorem ltE_asymm {a b : DEvent} (h : ltE a b = true) : ltE b a = false := by
 cases h2 : ltE b a
 ·rfl
 ·have := swoE.trans a b a h h2
  rw [swoE.irrefl] at this
  cases this
theorem capI_least (p : DEvent → Bool) : ∀ (l : List DEvent) (P : DEvent → Prop) (o : Option DEvent), LeastE P o → LeastE (fun e => P e ∨ (e ∈ l ∧ p e = true)) (capI p l o)
 | [], P, o, h => h.iff fun e => by simp
 | x :: l, P, o, h => by
  rw [capI]
  have h1 : LeastE (fun e => P e ∨ (e = x ∧ p x = true)) (if p x && befE x o then some x else o) := by
   cases hp : p x
   ·exact h.iff fun e => by simp
   ·rw [Bool.true_and]
    cases o with
    | none => exact ⟨.inr ⟨rfl, rfl⟩, fun e he => by
      rcases he with he | ⟨rfl, _⟩
      ·exact absurd he (h e)
      ·exact swoE.irrefl _⟩
    | some b =>
     show LeastE _ (if ltE x b = true then some x else some b)
     cases hl : ltE x b
     ·exact ⟨.inl h.1, fun e he => by
       rcases he with he | ⟨rfl, _⟩
       ·exact h.2 e he
       ·exact hl⟩
     ·exact ⟨.inr ⟨rfl, rfl⟩, fun e he => by
       rcases he with he | ⟨rfl, _⟩
       ·exact swoE.ntrans e b x (h.2 e he) (ltE_asymm hl)
       ·exact swoE.irrefl _⟩
  refine (capI_least p l _ _ h1).iff fun e => ?_
  constructor
  ·rintro ((h | ⟨rfl, h⟩) | ⟨h, h'⟩)
   ·exact .inl h
   ·exact .inr ⟨List.mem_cons_self, h⟩
   ·exact .inr ⟨List.mem_cons_of_mem _ h, h'⟩
  ·rintro (h | ⟨h, h'⟩)
   ·exact .inl (.inl h)
   ·rcases List.mem_cons.1 h with rfl | h
    ·exact .inl (.inr ⟨rfl, h'⟩)
    ·exact .inr ⟨h, h'⟩
theorem capJ_least (Y : Nat → List DEvent) (N : Nat) : ∀ (k y : Nat) (P : DEvent → Prop) (o : Option DEvent), LeastE P o → LeastE (fun e => P e ∨ ∃ q, y ≤ q ∧ q < y + k ∧ e ∈ Y q ∧ nearB Y N q e = true) (capJ Y N k y o)
 | 0, y, P, o, h => h.iff fun e => ⟨.inl, fun h => by
   rcases h with h | ⟨q, h1, h2, _⟩
   ·exact h
   ·omega⟩
 | k + 1, y, P, o, h => by
  rw [capJ]
  refine (capJ_least Y N k (y + 1) _ _ (capI_least (nearB Y N y) (Y y) P o h)).iff fun e => ?_
  constructor
  ·rintro ((h | ⟨h1, h2⟩) | ⟨q, h1, h2, h3⟩)
   ·exact .inl h
   ·exact .inr ⟨y, by omega, by omega, h1, h2⟩
   ·exact .inr ⟨q, by omega, by omega, h3⟩
  ·rintro (h | ⟨q, h1, h2, h3⟩)
   ·exact .inl (.inl h)
   ·by_cases hq : q = y
    ·subst hq; exact .inl (.inr h3)
    ·exact .inr ⟨q, by omega, by omega, h3⟩
def NearP (M : List DEvent) (e : DEvent) : Prop := ∃ x ∈ M, ltE x e = true ∧ e.nominal - x.nominal < 259200
theorem closeB_iff (e : DEvent) (l : List DEvent) : closeB e l = true ↔ NearP l e := by
 unfold closeB NearP
 simp only [List.any_eq_true, Bool.and_eq_true, decide_eq_true_eq]
theorem closeE_least : ∀ (M : List DEvent), DescE M → M.Nodup → LeastE (fun e => e ∈ M ∧ NearP M e) (closeE M)
 | [], _, _ => fun e he => by simp at he
 | [a], _, _ => fun e he => by
  obtain ⟨h1, x, h2, h3, _⟩ := he
  rw [List.mem_singleton] at h1 h2
  subst h1 h2
  rw [swoE.irrefl] at h3
  cases h3
 | a :: b :: l, hd, hn => by
  obtain ⟨d1, d2⟩ := List.pairwise_cons.1 hd
  obtain ⟨n1, n2⟩ := List.nodup_cons.1 hn
  obtain ⟨d3, _⟩ := List.pairwise_cons.1 d2
  have ih := closeE_least (b :: l) d2 n2
  have hlt : ∀ x ∈ b :: l, ltE x a = true := fun x hx => by
   cases h : ltE x a
   ·have := totE a x (d1 x hx) h
    subst this
    exact absurd hx n1
   ·rfl
  have hrest : ∀ e ∈ b :: l, NearP (a :: b :: l) e ↔ NearP (b :: l) e := fun e he => by
   constructor
   ·rintro ⟨x, hx, h1, h2⟩
    rcases List.mem_cons.1 hx with rfl | hx
    ·rw [d1 e he] at h1; cases h1
    ·exact ⟨x, hx, h1, h2⟩
   ·rintro ⟨x, hx, h1, h2⟩
    exact ⟨x, List.mem_cons_of_mem _ hx, h1, h2⟩
  have ha : NearP (a :: b :: l) a ↔ a.nominal - b.nominal < 259200 := by
   constructor
   ·rintro ⟨x, hx, h1, h2⟩
    rcases List.mem_cons.1 hx with rfl | hx
    ·rw [swoE.irrefl] at h1; cases h1
    ·have hxb : x.nominal ≤ b.nominal := by
      rcases List.mem_cons.1 hx with rfl | hx
      ·exact Int.le_refl _
      ·have h3 := d3 x hx
       simp only [ltE, ordE_lt, decide_eq_false_iff_not] at h3
       omega
     omega
   ·intro h
    exact ⟨b, List.mem_cons_of_mem _ List.mem_cons_self, hlt b List.mem_cons_self, h⟩
  rw [closeE]
  cases hc : closeE (b :: l) with
  | none =>
   rw [hc] at ih
   rw [Option.none_or]
   by_cases hab : a.nominal - b.nominal < 259200
   ·rw [if_pos hab]
    refine ⟨⟨List.mem_cons_self, ha.2 hab⟩, fun e he => ?_⟩
    rcases List.mem_cons.1 he.1 with rfl | h
    ·exact swoE.irrefl _
    ·exact absurd ⟨h, (hrest e h).1 he.2⟩ (ih e)
   ·rw [if_neg hab]
    intro e he
    rcases List.mem_cons.1 he.1 with rfl | h
    ·exact hab (ha.1 he.2)
    ·exact ih e ⟨h, (hrest e h).1 he.2⟩
  | some c =>
   rw [hc] at ih
   rw [Option.some_or]
   obtain ⟨⟨c1, c2⟩, c3⟩ := ih
   refine ⟨⟨List.mem_cons_of_mem _ c1, (hrest c c1).2 c2⟩, fun e he => ?_⟩
   rcases List.mem_cons.1 he.1 with rfl | h
   ·exact d1 c c1
   ·exact c3 e ⟨h, (hrest e h).1 he.2⟩
theorem mem_yearC (L y : Int) : ∀ (l : List DRule) (i : Nat) (e : DEvent), e ∈ yearC L y l i ↔ ∃ (j : Nat) (r : DRule), l[j]? = some r ∧ onR L r ((i + j : Nat) : Int) y = some e
 | [], i, e => by simp [yearC]
 | r :: l, i, e => by
  rw [yearC, List.mem_append, mem_yearC L y l (i + 1) e, Option.mem_toList]
  constructor
  ·rintro (h | ⟨j, r', h1, h2⟩)
   ·exact ⟨0, r, rfl, h⟩
   ·exact ⟨j + 1, r', by simpa using h1, by rw [show i + (j + 1) = i + 1 + j by omega]; exact h2⟩
  ·rintro ⟨j, r', h1, h2⟩
   cases j with
   | zero => simp only [List.getElem?_cons_zero, Option.some.injEq] at h1; subst h1; exact .inl h2
   | succ j => exact .inr ⟨j, r', by simpa using h1, by rw [show i + 1 + j = i + (j + 1) by omega]; exact h2⟩
theorem mem_allC (l : List DRule) (L f : Int) : ∀ (k : Nat) (e : DEvent), e ∈ allC l L f k ↔ ∃ q : Nat, q < k ∧ e ∈ yearC L (f + q) l 0
 | 0, e => by simp [allC]
 | k + 1, e => by
  rw [allC, List.mem_append, mem_allC l L f k e]
  constructor
  ·rintro (⟨q, h1, h2⟩ | h)
   ·exact ⟨q, by omega, h2⟩
   ·exact ⟨k, by omega, h⟩
  ·rintro ⟨q, h1, h2⟩
   by_cases hq : q = k
   ·subst hq; exact .inr h2
   ·exact .inl ⟨q, by omega, h2⟩
theorem yearC_nodup (L y : Int) : ∀ (l : List DRule) (i : Nat), (yearC L y l i).Nodup
 | [], _ => List.nodup_nil
 | r :: l, i => by
  rw [yearC]
  refine List.nodup_append.2 ⟨?_, yearC_nodup L y l (i + 1), ?_⟩
  ·cases onR L r i y <;> simp
  ·intro a ha b hb hab
   subst hab
   obtain ⟨j, r', _, h2⟩ := (mem_yearC L y l (i + 1) a).1 hb
   have e1 := (onR_some (Option.mem_toList.1 ha)).2.1
   have e2 := (onR_some h2).2.1
   omega
theorem allC_nodup (l : List DRule) (L f : Int) : ∀ k, (allC l L f k).Nodup
 | 0 => List.nodup_nil
 | k + 1 => by
  rw [allC]
  refine List.nodup_append.2 ⟨allC_nodup l L f k, yearC_nodup _ _ _ _, ?_⟩
  intro a ha b hb hab
  subst hab
  obtain ⟨q, h1, h2⟩ := (mem_allC l L f k a).1 ha
  obtain ⟨j, r, _, h3⟩ := (mem_yearC _ _ _ _ _).1 h2
  obtain ⟨j', r', _, h4⟩ := (mem_yearC _ _ _ _ _).1 hb
  have e1 := (onR_some h3).1
  have e2 := (onR_some h4).1
  omega
theorem capN_eq (l : List DRule) (N : Nat) : capJ (yearsE l) N N 0 none = closeE (allEvs l (leastD l) 1850 N) := by
 have hL := leastD_le0 l
 have h1 := capJ_least (yearsE l) N N 0 (fun _ => False) none (fun e h => h)
 have h2 := closeE_least (allEvs l (leastD l) 1850 N) (allEvs_desc _ _ _ _) ((allEvs_perm l (leastD l) 1850 N).nodup_iff.2 (allC_nodup l (leastD l) 1850 N))
 refine h1.uni (h2.iff fun e => ?_)
 have hm : ∀ x, x ∈ allEvs l (leastD l) 1850 N ↔ ∃ q : Nat, q < N ∧ x ∈ yearsE l q := fun x => by
  rw [(allEvs_perm l (leastD l) 1850 N).mem_iff, mem_allC]
  rfl
 have hb : ∀ (q : Nat) (x : DEvent), x ∈ yearsE l q → jan1 (1850 + q) * 86400 - 1700000 ≤ x.nominal ∧ x.nominal ≤ jan1 (1850 + q + 1) * 86400 + 1700000 := fun q x hx => by
  obtain ⟨j, r, _, h⟩ := (mem_yearC _ _ _ _ _).1 hx
  exact onR_in hL h
 constructor
 ·rintro ⟨h3, x, h4, h5, h6⟩
  obtain ⟨q, g1, g2⟩ := (hm e).1 h3
  obtain ⟨p, g3, g4⟩ := (hm x).1 h4
  refine .inr ⟨q, by omega, by omega, g2, ?_⟩
  have b1 := hb q e g2
  have b2 := hb p x g4
  have hle : x.nominal ≤ e.nominal := by
   simp only [ltE, ordE_lt, decide_eq_true_eq] at h5
   omega
  have y1 : (1850 + q : Int) ≤ 1850 + p + 1 := year_near (by omega)
  have y2 : (1850 + p : Int) ≤ 1850 + q + 1 := year_near (by omega)
  have hx : ∀ M, x ∈ M → closeB e M = true := fun M hM => (closeB_iff e M).2 ⟨x, hM, h5, h6⟩
  have hp : p = q ∨ (0 < q ∧ p = q - 1) ∨ (q + 1 < N ∧ p = q + 1) := by omega
  unfold nearB
  rcases hp with rfl | ⟨h7, rfl⟩ | ⟨h7, rfl⟩
  ·rw [hx _ g4]; rfl
  ·rw [hx _ g4, decide_eq_true h7]; simp
  ·rw [hx _ g4, decide_eq_true h7]; simp
 ·rintro (h | ⟨q, _, g1, g2, g3⟩)
  ·exact h.elim
  refine ⟨(hm e).2 ⟨q, by omega, g2⟩, ?_⟩
  have lift : ∀ p, p < N → closeB e (yearsE l p) = true → NearP (allEvs l (leastD l) 1850 N) e := fun p hp hc => by
   obtain ⟨x, c1, c2, c3⟩ := (closeB_iff e _).1 hc
   exact ⟨x, (hm x).2 ⟨p, hp, c1⟩, c2, c3⟩
  unfold nearB at g3
  simp only [Bool.or_eq_true, Bool.and_eq_true, decide_eq_true_eq] at g3
  rcases g3 with (g3 | ⟨g3, g4⟩) | ⟨g3, g4⟩
  ·exact lift q (by omega) g3
  ·exact lift (q - 1) (by omega) g4
  ·exact lift (q + 1) (by omega) g4
theorem capD_eq (l : List DRule) : capD l = apartD l := capN_eq l 701
attribute [local irreducible] W RL Does thenQ blockQ retQ Calls Pu Stp RD Qy Ay DoesIn
theorem ltE_mk (y1 r1 n1 y2 r2 n2 : Int) : ltE ⟨y1, r1, n1⟩ ⟨y2, r2, n2⟩ = if n1 = n2 then (if r1 = r2 then decide (y1 < y2) else decide (r1 < r2)) else decide (n1 < n2) := by
 have h := ordE_lt ⟨y1, r1, n1⟩ ⟨y2, r2, n2⟩
 dsimp only at h
 unfold ltE
 split
 ·split
  ·exact decide_eq_decide.2 (h.trans ⟨fun _ => by omega, fun _ => by omega⟩)
  ·exact decide_eq_decide.2 (h.trans ⟨fun _ => by omega, fun _ => by omega⟩)
 ·exact decide_eq_decide.2 (h.trans ⟨fun _ => by omega, fun _ => by omega⟩)
theorem PuRgA0 {G : Prop} (h : G := by (apply Pu_neqB'; rfl; rfl; first | exact c1 | exact c2)) : G := h
theorem rbef_spec (a b : DEvent) (w : World) : Does Tryz.prog 104 [.agg a.enc.toArray, .agg b.enc.toArray] w (fun v O => v = .bool (ltE a b) ∧ O = []) := by
 obtain ⟨y1, r1, n1⟩ := a
 obtain ⟨y2, r2, n2⟩ := b
 rw [ltE_mk]
 simp only [DEvent.enc]
 refine Does_of_W Tryz.func104 rfl rfl rfl rfl ?_
 by_cases h1 : n1 = n2
 ·have c1 : (!decide (n1 = n2)) = false := by rw [decide_eq_true h1]; rfl
  rw [if_pos h1]
  by_cases h2 : r1 = r2
  ·have c2 : (!decide (r1 = r2)) = false := by rw [decide_eq_true h2]; rfl
   rw [if_pos h2]
   repeat (first | (apply RL_pu; rfl; exact PuRgA0) | (refine js ?_; (refine bx ?_; intro bk)) | refine walk1 ?_)
   exact rtA
  ·have c2 : (!decide (r1 = r2)) = true := by rw [decide_eq_false h2]; rfl
   rw [if_neg h2]
   repeat (first | (apply RL_pu; rfl; exact PuRgA0) | (refine js ?_; (refine bx ?_; intro bk)) | refine walk1 ?_)
   exact rtA
 ·have c1 : (!decide (n1 = n2)) = true := by rw [decide_eq_false h1]; rfl
  rw [if_neg h1]
  repeat (first | (apply RL_pu; rfl; (apply Pu_neqB'; rfl; rfl; exact c1)) | (refine js ?_; (refine bx ?_; intro bk)) | refine walk1 ?_)
  exact rtA
theorem PuRgA2 {G : Prop} (h : G := by (first | exact PuI | (apply Pu_loadO1; rfl; exact hca 2 _ rfl))) : G := h
theorem QyRgA2 {G : Prop} (h : G := by first | (apply Qy_y; rfl; exact PuRgA2) | exact QyA) : G := h
theorem QFRgA2 {G : Prop} (h : G := by repeat (first | exact QF.nil | (apply QF.mk; rfl; rfl; decide +kernel; exact QyRgA2))) : G := h
theorem PuRgA3 {G : Prop} (h : G := by (first | exact PuRgA2 | (apply Pu_lssB; rfl; rfl; exact b1))) : G := h
theorem QyRgA3 {G : Prop} (h : G := by first | (apply Qy_y; rfl; exact PuRgA3) | exact QyA) : G := h
theorem QFRgA3 {G : Prop} (h : G := by repeat (first | exact QF.nil | (apply QF.mk; rfl; rfl; decide +kernel; exact QyRgA3))) : G := h
set_option maxHeartbeats 1000000 in
theorem rclose_spec (e : DEvent) (A : Option Addr) (c : Nat) (l : List DEvent) (w : World) (hA : RdSl w A c DEvent.enc 3 l) (hn : l.length ≤ 1000000000) (he : NomOk e) (hl : ∀ x ∈ l, NomOk x) :
  Does Tryz.prog 103 [.agg e.enc.toArray, .slice A l.length c] w (fun v O => v = .bool (closeB e l) ∧ O = []) := by
 have hbs := fun (x : DEvent) w' => rbef_spec x e w'
 obtain ⟨res, hres⟩ : ∃ res, closeB e l = res := ⟨_, rfl⟩
 rw [hres]
 unfold closeB at hres
 unfold NomOk at he
 generalize hP : (fun x : DEvent => ltE x e && decide (e.nominal - x.nominal < 259200)) = p at hres
 have hp : ∀ x, p x = (ltE x e && decide (e.nominal - x.nominal < 259200)) := fun x => by rw [← hP]
 clear hP
 generalize hq : (fun x => ltE x e) = q at *
 have hq' : ∀ x, ltE x e = q x := fun x => by rw [← hq]
 simp only [hq'] at hbs hp
 clear hq hq'
 obtain ⟨ey, er, en⟩ := e
 simp only [DEvent.enc] at hbs hp he ⊢
 refine Does_of_W Tryz.func103 rfl rfl rfl rfl ?_
 repeat (first | refine walk ?_ | (refine jn ?_; (try intro F); (first | (refine bx ?_; intro bk) | (apply Stp_pu; exact PuA)); refine fin ?_))
 refine W_loopF [(1, .slice A l.length c), (2, .pointer (some ⟨bk, 0, none⟩))] [.blk bk [.int .i64 ey, .int .i64 er, .int .i64 en] 78] (fun k : Nat => [(5, .int .i64 k)]) (fun _ => []) (fun k => k ≤ l.length ∧ (l.drop k).any p = res) (fun k => l.length - k) 0 SFA SOA ⟨Nat.zero_le _, hres⟩ ?_
 clear hres
 rintro k ⟨hk, hi⟩
 repeat (first | refine walk ?_ | (refine jn ?_; (try intro F); (first | (refine bx ?_; intro bk) | (apply Stp_pu; exact PuA)); refine fin ?_))
 refine W_cond rfl (fun hc => ?_) (fun hc => ?_)
 ·simp only [decide_eq_true_eq, Int.ofNat_lt] at hc
  rw [drop_cons hc, List.any_cons, hp] at hi
  have hbf := hbs l[k]
  obtain ⟨hna, hca⟩ := hA.rd k _ (List.getElem?_eq_getElem hc)
  have hx := hl l[k] (List.getElem_mem hc)
  generalize q l[k] = qx at *
  generalize l[k] = x at *
  obtain ⟨xy, xr, xn⟩ := x
  unfold NomOk at hx
  simp only [DEvent.enc] at hbf hca hx hi
  cases qx with
  | false =>
   rw [Bool.false_and, Bool.false_or] at hi
   repeat (first | refine und ?_ | (apply RL_pu; rfl; exact PuRgA2) | (apply RD_Q; rfl; rfl; decide +kernel; rfl; rfl; exact QyRgA2) | refine walk1 ?_ | (refine jg ?_; (try intro F); (first | (refine callE (fun w' hw => hbf w') ?_) | (refine bx ?_; intro bk)); first | refine ⟨_, EndsA, QFRgA2, ?_⟩ | refine fin ?_) | (refine jn ?_; (try intro F); (first | (refine bx ?_; intro bk) | (apply Stp_pu; first | exact PuRgA2 | exact PuA)); first | refine ⟨_, EndsA, QFRgA2, ?_⟩ | refine fin ?_))
   exact ⟨k + 1, OA, ⟨OA, hi⟩, SFA, SOA⟩
  | true =>
   rw [Bool.true_and] at hi
   by_cases hd : en - xn < 259200
   ·have b1 : decide (en - xn < 259200) = true := decide_eq_true hd
    rw [b1, Bool.true_or] at hi
    subst hi
    repeat (first | (apply RL_pu; rfl; exact PuRgA3) | (apply RD_Q; rfl; rfl; decide +kernel; rfl; rfl; exact QyRgA3) | refine walk1 ?_ | (refine jg ?_; (try intro F); (first | (refine callE (fun w' hw => hbf w') ?_) | (refine bx ?_; intro bk)); first | refine ⟨_, EndsA, QFRgA3, ?_⟩ | refine fin ?_) | (refine jn ?_; (try intro F); (first | (refine bx ?_; intro bk) | (apply Stp_pu; first | exact PuRgA3 | exact PuA)); first | refine ⟨_, EndsA, QFRgA3, ?_⟩ | refine fin ?_))
    exact rtA
   ·have b1 : decide (en - xn < 259200) = false := decide_eq_false hd
    rw [b1, Bool.false_or] at hi
    repeat (first | (apply RL_pu; rfl; exact PuRgA3) | (apply RD_Q; rfl; rfl; decide +kernel; rfl; rfl; exact QyRgA3) | refine walk1 ?_ | (refine jg ?_; (try intro F); (first | (refine callE (fun w' hw => hbf w') ?_) | (refine bx ?_; intro bk)); first | refine ⟨_, EndsA, QFRgA3, ?_⟩ | refine fin ?_) | (refine jn ?_; (try intro F); (first | (refine bx ?_; intro bk) | (apply Stp_pu; first | exact PuRgA3 | exact PuA)); first | refine ⟨_, EndsA, QFRgA3, ?_⟩ | refine fin ?_))
    exact ⟨k + 1, OA, ⟨OA, hi⟩, SFA, SOA⟩
 ·simp only [decide_eq_false_iff_not, Int.ofNat_lt] at hc
  rw [List.drop_eq_nil_of_le (by omega), List.any_nil] at hi
  subst hi
  repeat (first | refine walk ?_ | (refine jn ?_; (try intro F); (first | (refine bx ?_; intro bk) | (apply Stp_pu; exact PuA)); refine fin ?_))
  exact rtA
end Go.Proofs.YtceekohkjgiabaaGreatDoor
namespace Go.Wk
open Go Go.RowKit
section
variable {P : Program} {n : Nat} {wr : World} {fr : Fr} {O : List It} {ty : TypeId} {pos : String} {af : Array Edge} {dst : Option Tmp} {g : Option (Nat × Bool)} {Kp : Value → List It → Prop}
theorem Stp_makeF {t e sz bytes : Nat} {l c : Operand} {kl kc : IntKind} {N : Nat} {z xs : List Value} [hE : ElemZ P t e sz bytes] [hZ : ZeroT P e z] (hl : ev fr l = some (.int kl N)) (hc : ev fr c = some (.int kc N)) (hn : N * sz ≤ 16777216) (hb : bytes * N ≤ 281474976710656) (h63 : N ≤ maxLen)
  (hx : (madeCells z.toArray (N * sz)).toList = xs) (kk : ∀ b, Kp (.slice (some ⟨b, 0, none⟩) N N) (.row (.slice (some ⟨b, 0, none⟩) N N) e sz N xs :: O)) : Stp P n wr fr O ⟨dst, .makeSlice t l c, ty, pos, af, g⟩ Kp :=
 Stp_val fun a w hs => by
  obtain ⟨i, zv, ht, hi, hz, hsz, hby, hzs, hpos⟩ := ElemZ.parts hE.h
  have h := hZ.h
  unfold zeroChk at h
  rw [hi] at h
  simp only [hz, Option.some.injEq] at h
  have hzx : zv.cells = z.toArray := by rw [← h]
  obtain ⟨w', hrun, r1, r2⟩ := run_makeSlice_full (P := P) w 0 t e i zv sz ht hi hz hsz kl kc N hn (by rw [hby]; exact hb) h63 (Nat.zero_le _)
  rw [hzx, hx] at r1
  refine ⟨_, w', _, ?_, ?_, ?_, kk w.heap.size⟩
  ·simp [execOp, hs.sim.ev hl, hs.sim.ev hc, hrun]
  ·exact hs.old.grown r2 (run_dr _ _ _ _ hrun) hs.old.size (fun k hk => by cases hk)
  ·refine hs.own.grow (O' := [.row (.slice (some ⟨w.heap.size, 0, none⟩) N N) e sz N xs]) ((Bel.refl _ _).grown r2 (run_dr _ _ _ _ hrun) (Nat.le_refl _) (fun k hk => by cases hk)) hs.old.size ⟨fun i hi => ?_, fun i hi b hb => ?_, List.pairwise_singleton _ _⟩
   ·rw [List.mem_singleton.1 hi]
    exact r1
   ·rw [List.mem_singleton.1 hi] at hb
    simp only [It.S, Value.ownBlock, Option.some.injEq] at hb
    subst hb
    exact ⟨Nat.le_refl _, (r1.lt w.heap.size rfl).2⟩
theorem Pu_indexAddrK {t e sz bytes b s j : Nat} {x ix : Operand} {len cap : Nat} {kk : IntKind} {i : Int} [hE : ElemT P t e sz bytes] (hx : ev fr x = some (.slice (some ⟨b, s, none⟩) len cap)) (hi : ev fr ix = some (.int kk i))
  (h0 : 0 ≤ i) (h1 : i < len) (hj : s + i.toNat * sz = j) : Pu P n wr fr O (.indexAddr t x ix) ty (.pointer (some ⟨b, j, none⟩)) := by
 have := Pu_indexAddr (P := P) (n := n) (wr := wr) (O := O) (ty := ty) (t := t) (e := e) (sz := sz) (bytes := bytes) hx hi h0 h1 (by simp)
 have he : (adr (some ⟨b, s, none⟩)).add (i.toNat * sz) = ⟨b, j, none⟩ := by
  show (⟨b, s, none⟩ : Addr).add (i.toNat * sz) = _
  rw [add_mk, hj]
 rwa [he] at this
end
theorem RdSl.pre {α : Type} {w : World} {A : Option Addr} {c sz : Nat} {enc : α → List Value} {x y : List α} (h : RdSl w A c enc sz (x ++ y)) : RdSl w A c enc sz x :=
 ⟨by have := h.le; rw [List.length_append] at this; omega, h.cap, fun k v hv => h.rd k v (by
  have hk := (List.getElem?_eq_some_iff.1 hv).1
  rw [List.getElem?_append_left hk]; exact hv)⟩
theorem Pu_sliceHE {P : Program} {n : Nat} {wr : World} {fr : Fr} {O : List It} {ty : TypeId} {t e sz bytes m : Nat} {x y : Operand} {A : Option Addr} {len cap : Nat} {h : Int} [hE : ElemZ P t e sz bytes] (hx : ev fr x = some (.slice A len cap)) (hy : ev fr y = some (.int .i64 h)) (h0 : 0 ≤ h) (h1 : h ≤ cap) (hm : h.toNat = m) :
  Pu P n wr fr O (.slice t x none (some y) none) ty (.slice A m cap) := hm ▸ Pu_sliceH hx hy h0 h1
end Go.Wk
namespace Go.Proofs.YtceekohkjgiabaaGreatDoor
open Go Go.RowKit Go.Wk
attribute [local irreducible] W RL Does thenQ blockQ retQ Calls Pu Stp RD Qy Ay DoesIn
def vRow (f : Nat) : List Value := (varCells.drop (f * 5)).take 5
theorem var_at {w : World} (hG : Glob w) (f : Nat) : CellsAt w ((⟨1, 0, none⟩ : Addr).add (f * 5)) (vRow f) := fun j v hj => by
 rw [add_of_add]
 refine hG.var (f * 5 + j) v ?_
 unfold vRow at hj
 rw [List.getElem?_take] at hj
 split at hj
 ·rwa [List.getElem?_drop] at hj
 ·cases hj
theorem PuVarB0 {G : Prop} (h : G := by (first | (apply Pu_indexArr; rfl; rfl; omega; omega) | (apply Pu_loadON; rfl; exact hcv; rfl))) : G := h
theorem of_1 (w : World) (hG : Glob w) : Does Tryz.prog 68 [.int .i64 1] w (fun v O => v = .tuple #[.agg (vRow 1).toArray, .bool true] ∧ O = []) := by
 have hcv := var_at hG 1
 rw [show vRow 1 = [.string ⟨#[118, 97, 110, 103, 117, 97, 114, 100]⟩, .bool true, .bool true, .bool false, .bool false] from rfl] at hcv ⊢
 refine Does_of_W Tryz.func68 rfl rfl rfl rfl ?_
 repeat (first | (apply RL_pu; rfl; exact PuVarB0) | (refine js ?_; (refine bx ?_; intro bk)) | refine walk1 ?_)
 exact rtC
theorem of_2 (w : World) (hG : Glob w) : Does Tryz.prog 68 [.int .i64 2] w (fun v O => v = .tuple #[.agg (vRow 2).toArray, .bool true] ∧ O = []) := by
 have hcv := var_at hG 2
 rw [show vRow 2 = [.string ⟨#[109, 97, 105, 110]⟩, .bool true, .bool false, .bool true, .bool false] from rfl] at hcv ⊢
 refine Does_of_W Tryz.func68 rfl rfl rfl rfl ?_
 repeat (first | (apply RL_pu; rfl; exact PuVarB0) | (refine js ?_; (refine bx ?_; intro bk)) | refine walk1 ?_)
 exact rtC
theorem of_3 (w : World) (hG : Glob w) : Does Tryz.prog 68 [.int .i64 3] w (fun v O => v = .tuple #[.agg (vRow 3).toArray, .bool true] ∧ O = []) := by
 have hcv := var_at hG 3
 rw [show vRow 3 = [.string ⟨#[114, 101, 97, 114, 103, 117, 97, 114, 100]⟩, .bool false, .bool false, .bool true, .bool true] from rfl] at hcv ⊢
 refine Does_of_W Tryz.func68 rfl rfl rfl rfl ?_
 repeat (first | (apply RL_pu; rfl; exact PuVarB0) | (refine js ?_; (refine bx ?_; intro bk)) | refine walk1 ?_)
 exact rtC
theorem PuVarB1 {G : Prop} (h : G := by (apply Pu_lssB; rfl; rfl; exact b1)) : G := h
theorem of_bad (f : Int) (hf : f < 1 ∨ 3 < f) (w : World) : Does Tryz.prog 68 [.int .i64 f] w (fun v O => v = .tuple #[.agg #[.string ByteArray.empty, .bool false, .bool false, .bool false, .bool false], .bool false] ∧ O = []) := by
 refine Does_of_W Tryz.func68 rfl rfl rfl rfl ?_
 by_cases h1 : f < 1
 ·have b1 : decide (f < 1) = true := decide_eq_true h1
  repeat (first | refine und ?_ | (apply RL_pu; rfl; exact PuVarB1) | (refine js ?_; (refine bx ?_; intro bk)) | refine walk1 ?_)
  exact rtC
 ·have b1 : decide (f < 1) = false := decide_eq_false h1
  have b2 : decide (4 ≤ f) = true := decide_eq_true (by omega)
  repeat (first | refine und ?_ | (apply RL_pu; rfl; (first | exact PuVarB1 | (apply Pu_geqB; rfl; rfl; exact b2))) | (refine js ?_; (refine bx ?_; intro bk)) | refine walk1 ?_)
  exact rtC
def wrongB (a2 a3 : Bool) (e : DEra) : Bool := (decide (kindF e.format.data.toList = 4) && !a2) || (decide (kindF e.format.data.toList = 5) && !a3)
def negB (a1 : Bool) (r : DRule) : Bool := decide (r.save < 0) && !a1
def zGo (a2 a3 : Bool) : List DZone → Nat → Option (DPlace × Int)
 | [], _ => none
 | z :: l, i => match z.eras.findIdx? (wrongB a2 a3) with | some j => some (⟨2, i, j⟩, 17) | none => zGo a2 a3 l (i + 1)
def vfG (a1 a2 a3 a4 : Bool) (s : DSource) : Option (DPlace × Int) :=
 match s.rules.findIdx? (negB a1) with
 | some i => some (⟨1, i, 0⟩, 17)
 | none => match zGo a2 a3 s.zones 0 with
  | some x => some x
  | none => if 0 < s.shifts.length ∧ a4 = false then some (⟨4, 0, 0⟩, 17) else none
theorem zGo_eq (p : DEra → Bool) (a2 a3 : Bool) (hp : wrongB a2 a3 = p) : ∀ (l : List DZone) (k : Nat), zGo a2 a3 l k = match l.findIdx? (fun z => z.eras.any p) with
  | some i => some (⟨2, (k + i : Nat), (((l[i]?).map fun z => ((z.eras.findIdx? p).getD 0)).getD 0)⟩, 17)
  | none => none
 | [], _ => rfl
 | z :: l, k => by
  rw [zGo, hp, List.findIdx?_cons]
  by_cases h : z.eras.any p = true
  ·rw [if_pos h]
   obtain ⟨j, hj⟩ : ∃ j, z.eras.findIdx? p = some j := by
    cases hq : z.eras.findIdx? p with
    | some j => exact ⟨j, rfl⟩
    | none =>
     rw [List.findIdx?_eq_none_iff] at hq
     rw [List.any_eq_true] at h
     obtain ⟨x, hx, hx2⟩ := h
     rw [hq x hx] at hx2
     cases hx2
   rw [hj]
   simp [hj]
  ·rw [if_neg h]
   have hq : z.eras.findIdx? p = none := by
    rw [List.findIdx?_eq_none_iff]
    intro x hx
    cases hpx : p x with
    | false => rfl
    | true => exact absurd (List.any_eq_true.2 ⟨x, hx, hpx⟩) h
   rw [hq]
   dsimp only
   rw [zGo_eq p a2 a3 hp l (k + 1)]
   cases l.findIdx? (fun z => z.eras.any p) with
   | none => rfl
   | some i => simp [Nat.add_comm, Nat.add_left_comm]
theorem vf_gen (f : Int) (a1 a2 a3 a4 : Bool) (s : DSource) (h1 : ¬ (f < 1 ∨ 3 < f)) (hn : (fun r : DRule => decide (r.save < 0) && decide (f = 3)) = negB a1)
  (hw : (fun e : DEra => (decide (kindF e.format.data.toList = 4) && !decide (f = 1)) || (decide (kindF e.format.data.toList = 5) && decide (f = 1))) = wrongB a2 a3) (h4 : f ≠ 3 ↔ a4 = false) : varFault f s = vfG a1 a2 a3 a4 s := by
 unfold varFault vfG
 rw [if_neg h1, hn]
 dsimp only
 rw [hw, zGo_eq (wrongB a2 a3) a2 a3 rfl]
 cases s.rules.findIdx? (negB a1) with
 | some i => rfl
 | none =>
  dsimp only
  cases s.zones.findIdx? (fun z => z.eras.any (wrongB a2 a3)) with
  | some i => simp
  | none =>
   dsimp only
   by_cases h5 : 0 < s.shifts.length ∧ f ≠ 3
   ·rw [if_pos h5, if_pos ⟨h5.1, h4.1 h5.2⟩]
   ·rw [if_neg h5, if_neg (fun h => h5 ⟨h.1, h4.2 h.2⟩)]
theorem vf_1 (s : DSource) : varFault 1 s = vfG true true false false s := vf_gen 1 _ _ _ _ s (by omega) (by funext r; simp [negB]) (by funext e; simp [wrongB]) (by simp)
theorem vf_2 (s : DSource) : varFault 2 s = vfG true false true false s := vf_gen 2 _ _ _ _ s (by omega) (by funext r; simp [negB]) (by funext e; simp [wrongB]) (by simp)
theorem vf_3 (s : DSource) : varFault 3 s = vfG false false true true s := vf_gen 3 _ _ _ _ s (by omega) (by funext r; simp [negB]) (by funext e; simp [wrongB]) (by simp)
end Go.Proofs.YtceekohkjgiabaaGreatDoor
