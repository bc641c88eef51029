/- Parts of the proof. -/
import Derived.Test.YtdlmhmmhdbbliaaGreatDoorW22
import Derived.Test.YtdlmhmmhdbbliaaGreatDoorW14
import Derived.Test.YtdlmhmmhdbbliaaGreatDoorW07
import Derived.Test.YtdlmhmmhdbbliaaGreatDoorW16
import Derived.Test.YtdlmhmmhdbbliaaGreatDoorW20
import Derived.Test.YtdlmhmmhdbbliaaGreatDoorW08
import Derived.Test.YtdlmhmmhdbbliaaGreatDoorW21
set_option maxHeartbeats 4000000
set_option linter.unusedVariables false
set_option linter.unusedSimpArgs false
namespace Go.Wk
open Go Go.RowKit
def bsE (e : DEra) (l : List Zaa) : Int := if e.kind = 2 then max (Zah l) (-10800) else 0
def bfE (e : DEra) (l : List Zaa) (nm : Int) : Int := if e.kind = 1 then e.save else if e.kind = 2 then (befS l nm).1 else 0
def endB (e : DEra) (l : List Zaa) : Int := bfE e l (ZaE e.til (bsE e l)).1
def endT (e : DEra) (l : List Zaa) : Int :=
 if e.til.at_.base = 0 then 86400 * (onD e.til.year e.til.month e.til.day).1 + e.til.at_.sec - endB e l - e.off
 else if e.til.at_.base = 1 then 86400 * (onD e.til.year e.til.month e.til.day).1 + e.til.at_.sec - e.off
 else 86400 * (onD e.til.year e.til.month e.til.day).1 + e.til.at_.sec
structure UnOk (e : DEra) (l : List Zaa) : Prop where
 k : 0 <= e.kind /\ e.kind <= 2
 o : Zbp e.off = true
 s : Zbp e.save = true
 c : ZaR e.til (bsE e l) = 0
 b : Zbp (endB e l) = true
end Go.Wk
namespace Go.Proofs.YtdlmhmmhdbbliaaGreatDoor
open Go Go.RowKit Go.Wk
attribute [local irreducible] W RL Does Zau Zaj retQ Calls Pu Stp RD Qy Ay Zak
theorem Zpf {n : Int} (h : Zbp n = true) : -604799 <= n /\ n <= 604799 := by
 unfold Zbp at h
 simpa using h
theorem ZwE {G : Prop} (h : G := by (first | (apply Zk6; rfl; (constructor <;> omega)) | (apply Zc3; rfl; rfl; exact b1))) : G := h
theorem Zeh (n : Int) (w : World) : Does Tryz.prog 148 [.int .i64 n, .int .i64 604799] w (fun v O => v = .bool (Zbp n) /\ O = []) := by
 unfold Zbp
 refine Zab Tryz.func148 rfl rfl rfl rfl ?_
 by_cases h : -604799 <= n
 ·have b1 : decide (-604799 <= n) = true := decide_eq_true h
  rw [b1, Bool.true_and]
  repeat (first | refine und ?_ | (apply RL_pu; rfl; exact ZwE) | refine walk1 ?_)
  exact rtA
 ·have b1 : decide (-604799 <= n) = false := decide_eq_false h
  rw [b1, Bool.false_and]
  repeat (first | refine und ?_ | (apply RL_pu; rfl; exact ZwE) | refine walk1 ?_)
  exact rtA
theorem Zp3 (e : DEra) (A : Option Addr) (c : Nat) (l : List Zaa) (w : World) (hA : RdSl w A c Zaa.enc 11 l) : Does Tryz.prog 150 [.agg e.enc.toArray, .slice A l.length c] w (fun v O => v = .int .i64 (Go.Wk.bsE e l) /\ O = []) := by
 have hl := fun w' (hw : Bel w.heap.size w w') => ZcK A c l w' (hA.up hw)
 unfold Go.Wk.bsE
 generalize Zah l = m at *
 have hmx : (if m < -10800 then -10800 else m) = max m (-10800) := by split <;> omega
 obtain ⟨off, kd, esv, st, fm, ⟨ui, uy, um, ⟨ud1, ud2, ud3⟩, ⟨uc1, uc2⟩⟩⟩ := e
 dsimp only
 show Does _ _ [.agg #[.int .i64 off, .int .i64 kd, .int .i64 esv, .string st, .string fm, .bool ui, .int .i64 uy, .int .i64 um, .int .i64 ud1, .int .i64 ud2, .int .i64 ud3, .int .i64 uc1, .int .i64 uc2], _] w _
 refine Zab Tryz.func150 rfl rfl rfl rfl ?_
 by_cases h : kd = 2
 ·have b1 : (!decide (kd = 2)) = false := by rw [decide_eq_true h]; rfl
  rw [if_pos h]
  repeat (first | (apply RL_pu; rfl; (first | (apply ZaD; rfl; rfl; exact b1) | (apply ZeI; rfl; rfl; exact hmx))) | (refine js ?_; (first | (refine Zac hl ?_) | (refine bx ?_; intro bk))) | refine walk1 ?_)
  exact rtA
 ·have b1 : (!decide (kd = 2)) = true := by rw [decide_eq_false h]; rfl
  rw [if_neg h]
  repeat (first | (apply RL_pu; rfl; (apply ZaD; rfl; rfl; exact b1)) | (refine js ?_; (refine bx ?_; intro bk)) | refine walk1 ?_)
  exact rtA
theorem ZwD {G : Prop} (h : G := by (apply ZaC; rfl; rfl; first | exact b1 | exact b2)) : G := h
theorem Zp1 (e : DEra) (A : Option Addr) (c : Nat) (l : List Zaa) (nm : Int) (w : World) (hG : Glob w) (hA : RdSl w A c Zaa.enc 11 l) (h : RsSm l) (hn : -4611686018427387904 <= nm /\ nm <= 4611686018427387904) :
  Does Tryz.prog 151 [.agg e.enc.toArray, .slice A l.length c, .int .i64 nm] w (fun v O => v = .int .i64 (bfE e l nm) /\ O = []) := by
 have hb := fun w' (hw : Bel w.heap.size w w') => ZdJ A c l nm w' (hG.up hw) (hA.up hw) h hn
 unfold bfE
 unfold stV at hb
 generalize befS l nm = x at *
 obtain ⟨sv, sl⟩ := x
 obtain ⟨off, kd, esv, st, fm, ⟨ui, uy, um, ⟨ud1, ud2, ud3⟩, ⟨uc1, uc2⟩⟩⟩ := e
 dsimp only at hb ⊢
 show Does _ _ [.agg #[.int .i64 off, .int .i64 kd, .int .i64 esv, .string st, .string fm, .bool ui, .int .i64 uy, .int .i64 um, .int .i64 ud1, .int .i64 ud2, .int .i64 ud3, .int .i64 uc1, .int .i64 uc2], _, _] w _
 refine Zab Tryz.func151 rfl rfl rfl rfl ?_
 by_cases h1 : kd = 1
 ·have b1 : decide (kd = 1) = true := decide_eq_true h1
  rw [if_pos h1]
  repeat (first | (apply RL_pu; rfl; (apply ZaC; rfl; rfl; exact b1)) | (refine js ?_; (refine bx ?_; intro bk)) | refine walk1 ?_)
  exact rtA
 ·have b1 : decide (kd = 1) = false := decide_eq_false h1
  rw [if_neg h1]
  by_cases h2 : kd = 2
  ·have b2 : decide (kd = 2) = true := decide_eq_true h2
   rw [if_pos h2]
   repeat (first | (apply RL_pu; rfl; exact ZwD) | (refine js ?_; (first | (refine Zac hb ?_) | (refine bx ?_; intro bk))) | refine walk1 ?_)
   exact rtA
  ·have b2 : decide (kd = 2) = false := decide_eq_false h2
   rw [if_neg h2]
   repeat (first | (apply RL_pu; rfl; exact ZwD) | (refine js ?_; (refine bx ?_; intro bk)) | refine walk1 ?_)
   exact rtA
theorem ZtX {G : Prop} (h : G := by (first | (apply Zbg; rfl; rfl; exact t1) | (apply ZaM; rfl; rfl; exact t2) | (apply ZaC; rfl; rfl; first | exact k1 | exact u0 | exact u1))) : G := h
theorem Zwj {G : Prop} (h : G := by first | (apply Qy_y; rfl; exact ZtX) | exact QyA) : G := h
theorem Zdc {G : Prop} (h : G := by repeat (first | exact QF.nil | (apply QF.mk; rfl; rfl; decide +kernel; exact Zwj))) : G := h
theorem Zjp {G G' : Prop} (k : G') (h : Hold G' -> G := by intro k9; (first | refine und ?_ | (apply RL_pu; rfl; exact ZtX) | (apply RD_Q; rfl; rfl; decide +kernel; rfl; rfl; exact Zwj) | refine walk1 ?_ | (refine jg ?_; (try intro F); (first | (refine Zac (fun w' _ => w1 w') ?_) | (refine Zac (fun w' _ => w2 w') ?_) | (refine Zac (fun w' _ => w3 w') ?_) | (refine Zac hb ?_) | (refine Zac hn ?_) | (refine Zac hs ?_) | (refine Zac hc ?_)); first | refine ⟨_, EndsA, Zdc, ?_⟩ | refine fin ?_) | (refine jn ?_; (try intro F); (apply Zae; first | exact ZtX | exact PuA); first | refine ⟨_, EndsA, Zdc, ?_⟩ | refine fin ?_)); exact k9.out) : G := h ⟨k⟩
set_option maxHeartbeats 4000000 in
theorem Zp2 (e : DEra) (A : Option Addr) (c : Nat) (l : List Zaa) (w : World) (hG : Glob w) (hA : RdSl w A c Zaa.enc 11 l) (h : RsSm l) (hu : UnOk e l) :
  Does Tryz.prog 97 [.agg e.enc.toArray, .slice A l.length c] w (fun v O => v = .tuple #[.int .i64 (endT e l), .int .i64 0] /\ O = []) := by
 have w1 := fun w' => Zeh e.off w'
 have w2 := fun w' => Zeh e.save w'
 have w3 := fun w' => Zeh (endB e l) w'
 rw [hu.o] at w1
 rw [hu.s] at w2
 rw [hu.b] at w3
 have ho := Zpf hu.o
 have hbb := Zpf hu.b
 obtain ⟨_, hcl⟩ := Zfu hu.c
 have hb := fun w' (hw : Bel w.heap.size w w') => Zp3 e A c l w' (hA.up hw)
 have hn := fun w' (hw : Bel w.heap.size w w') => Zem e.til (Go.Wk.bsE e l) w' (hG.up hw)
 have hn2 : (ZaE e.til (Go.Wk.bsE e l)).2 = 0 := by
  unfold ZaE
  rw [if_neg (by rw [hu.c]; decide)]
 have hnb : -4611686018427387904 <= (ZaE e.til (Go.Wk.bsE e l)).1 /\ (ZaE e.til (Go.Wk.bsE e l)).1 <= 4611686018427387904 := by
  have h1 := Zg6 e.til.year e.til.month e.til.day
  have h2 := (Zfu hu.c).1
  unfold ZaE
  rw [if_neg (by rw [hu.c]; decide)]
  dsimp only
  split <;> omega
 have hs := fun w' (hw : Bel w.heap.size w w') => Zp1 e A c l (ZaE e.til (Go.Wk.bsE e l)).1 w' (hG.up hw) (hA.up hw) h hnb
 have hc := fun w' (hw : Bel w.heap.size w w') => Zg5 e.til hcl w' (hG.up hw)
 have hob := Zg6 e.til.year e.til.month e.til.day
 have hk := hu.k
 rw [hn2] at hn
 change ∀ w', Bel w.heap.size w w' -> Does _ _ _ w' (fun v O => v = .int .i64 (endB e l) /\ O = []) at hs
 unfold endT
 generalize endB e l = bf at *
 generalize (ZaE e.til (Go.Wk.bsE e l)).1 = nm at *
 generalize Go.Wk.bsE e l = bs at *
 generalize (onD e.til.year e.til.month e.til.day).1 = dn at *
 clear hu hG hA h hn2 hnb
 obtain ⟨off, kd, esv, st, fm, ⟨ui, uy, um, ⟨ud1, ud2, ud3⟩, ⟨uc1, uc2⟩⟩⟩ := e
 dsimp only at ho hcl hk w1 w2 hc ⊢
 have t1 : decide (kd < 0) = false := decide_eq_false (by omega)
 have t2 : decide (2 < kd) = false := decide_eq_false (by omega)
 show Does _ _ [.agg #[.int .i64 off, .int .i64 kd, .int .i64 esv, .string st, .string fm, .bool ui, .int .i64 uy, .int .i64 um, .int .i64 ud1, .int .i64 ud2, .int .i64 ud3, .int .i64 uc1, .int .i64 uc2], _] w _
 by_cases h0 : uc2 = 0
 ·have u0 : decide (uc2 = 0) = true := decide_eq_true h0
  rw [if_pos h0]
  by_cases h1 : kd = 1
  ·have k1 : decide (kd = 1) = true := decide_eq_true h1
   refine Zab Tryz.func97 rfl rfl rfl rfl ?_
   repeat (first | refine Zjp ?_ | (refine jg ?_; (try intro F); (refine bx ?_; intro bk); first | refine ⟨_, EndsA, Zdc, ?_⟩ | refine fin ?_) | (refine jn ?_; (try intro F); (refine bx ?_; intro bk); first | refine ⟨_, EndsA, Zdc, ?_⟩ | refine fin ?_))
   exact rtB
  ·have k1 : decide (kd = 1) = false := decide_eq_false h1
   refine Zab Tryz.func97 rfl rfl rfl rfl ?_
   repeat (first | refine Zjp ?_ | (refine jg ?_; (try intro F); (refine bx ?_; intro bk); first | refine ⟨_, EndsA, Zdc, ?_⟩ | refine fin ?_) | (refine jn ?_; (try intro F); (refine bx ?_; intro bk); first | refine ⟨_, EndsA, Zdc, ?_⟩ | refine fin ?_))
   exact rtB
 ·have u0 : decide (uc2 = 0) = false := decide_eq_false h0
  rw [if_neg h0]
  by_cases h2 : uc2 = 1
  ·have u1 : decide (uc2 = 1) = true := decide_eq_true h2
   rw [if_pos h2]
   by_cases h1 : kd = 1
   ·have k1 : decide (kd = 1) = true := decide_eq_true h1
    refine Zab Tryz.func97 rfl rfl rfl rfl ?_
    repeat (first | refine Zjp ?_ | (refine jg ?_; (try intro F); (refine bx ?_; intro bk); first | refine ⟨_, EndsA, Zdc, ?_⟩ | refine fin ?_) | (refine jn ?_; (try intro F); (refine bx ?_; intro bk); first | refine ⟨_, EndsA, Zdc, ?_⟩ | refine fin ?_))
    exact rtB
   ·have k1 : decide (kd = 1) = false := decide_eq_false h1
    refine Zab Tryz.func97 rfl rfl rfl rfl ?_
    repeat (first | refine Zjp ?_ | (refine jg ?_; (try intro F); (refine bx ?_; intro bk); first | refine ⟨_, EndsA, Zdc, ?_⟩ | refine fin ?_) | (refine jn ?_; (try intro F); (refine bx ?_; intro bk); first | refine ⟨_, EndsA, Zdc, ?_⟩ | refine fin ?_))
    exact rtB
  ·have u1 : decide (uc2 = 1) = false := decide_eq_false h2
   rw [if_neg h2]
   by_cases h1 : kd = 1
   ·have k1 : decide (kd = 1) = true := decide_eq_true h1
    refine Zab Tryz.func97 rfl rfl rfl rfl ?_
    repeat (first | refine Zjp ?_ | (refine jg ?_; (try intro F); (refine bx ?_; intro bk); first | refine ⟨_, EndsA, Zdc, ?_⟩ | refine fin ?_) | (refine jn ?_; (try intro F); (refine bx ?_; intro bk); first | refine ⟨_, EndsA, Zdc, ?_⟩ | refine fin ?_))
    exact rtB
   ·have k1 : decide (kd = 1) = false := decide_eq_false h1
    refine Zab Tryz.func97 rfl rfl rfl rfl ?_
    repeat (first | refine Zjp ?_ | (refine jg ?_; (try intro F); (refine bx ?_; intro bk); first | refine ⟨_, EndsA, Zdc, ?_⟩ | refine fin ?_) | (refine jn ?_; (try intro F); (refine bx ?_; intro bk); first | refine ⟨_, EndsA, Zdc, ?_⟩ | refine fin ?_))
    exact rtB
end Go.Proofs.YtdlmhmmhdbbliaaGreatDoor
namespace Go.Wk
open Go Go.RowKit
structure ZbA where
 start : Int
 fin : Int
 era : Int
deriving DecidableEq
def ZbA.enc (x : ZbA) : List Value := [.int .i64 x.start, .int .i64 x.fin, .int .i64 x.era]
theorem ZbA.len (x : ZbA) : x.enc.length = 3 := rfl
def spIn (t : Int) (x : ZbA) : Bool := decide (x.start <= t) && decide (t < x.fin)
def Zea (t : Int) : List ZbA -> Nat -> Int
 | [], _ => -1
 | x :: l, i => if spIn t x then i else Zea t l (i + 1)
def sp0 : ZbA := ⟨0, 0, 0⟩
def Zjr (l : List ZbA) (t : Int) : ZbA × Bool := if Zea t l 0 < 0 then (sp0, false) else (l.getD (Zea t l 0).toNat sp0, true)
theorem Zlx (t : Int) : ∀ (l : List ZbA) (i : Nat), Zea t l i = -1 \/ ((i : Int) <= Zea t l i /\ Zea t l i < i + l.length)
 | [], i => .inl rfl
 | x :: l, i => by
  rw [Zea]
  split
  ·right
   simp
   omega
  ·rcases Zlx t l (i + 1) with h | h
   ·exact .inl h
   ·right
    rw [List.length_cons]
    omega
end Go.Wk
namespace Go.Proofs.YtdlmhmmhdbbliaaGreatDoor
open Go Go.RowKit Go.Wk
attribute [local irreducible] W RL Does Zau Zaj retQ Calls Pu Stp RD Qy Ay Zak
theorem Zw4 {G : Prop} (h : G := by (first | (apply Pu_loadO1; rfl; exact hb 0 _ rfl) | (apply ZcA; rfl; rfl; exact b1))) : G := h
theorem ZrI (x : ZbA) (t : Int) (b : Nat) (w : World) (hb : Zal w ⟨b, 0, none⟩ [.int .i64 t]) : Does Tryz.prog 100 [.agg x.enc.toArray, .pointer (some ⟨b, 0, none⟩)] w (fun v O => v = .bool (spIn t x) /\ O = []) := by
 obtain ⟨s, f, k⟩ := x
 unfold spIn
 dsimp only
 show Does _ _ [.agg #[.int .i64 s, .int .i64 f, .int .i64 k], _] w _
 refine Zab Tryz.func100 rfl rfl rfl rfl ?_
 by_cases h : s <= t
 ·have b1 : decide (s <= t) = true := decide_eq_true h
  rw [b1, Bool.true_and]
  repeat (first | refine und ?_ | (apply RL_pu; rfl; exact Zw4) | (refine js ?_; (refine bx ?_; intro bk)) | refine walk1 ?_)
  exact rtA
 ·have b1 : decide (s <= t) = false := decide_eq_false h
  rw [b1, Bool.false_and]
  repeat (first | refine und ?_ | (apply RL_pu; rfl; exact Zw4) | (refine js ?_; (refine bx ?_; intro bk)) | refine walk1 ?_)
  exact rtA
theorem ZrH (A : Option Addr) (c : Nat) (l : List ZbA) (t : Int) (b : Nat) (w : World) (hA : RdSl w A c ZbA.enc 3 l) (hb : Zal w ⟨b, 0, none⟩ [.int .i64 t]) :
  Does Tryz.prog 99 [.slice A l.length c, .func (.func 100) #[] #[.pointer (some ⟨b, 0, none⟩)]] w (fun v O => v = .int .i64 (Zea t l 0) /\ O = []) := by
 have hle := hA.le
 have hcp := hA.cap
 simp only [maxLen] at hcp
 have hin := fun x w' (hw : Bel w.heap.size w w') => ZrI x t b w' (hb.up hw (Nat.le_refl _))
 obtain ⟨res, hres⟩ : ∃ res, Zea t l 0 = res := ⟨_, rfl⟩
 rw [hres]
 refine Zab Tryz.func99 rfl rfl rfl rfl ?_
 repeat (first | refine walk ?_)
 refine Zao [(0, .slice A l.length c), (1, .func (.func 100) #[] #[.pointer (some ⟨b, 0, none⟩)]), (7, .int .i64 l.length)] [] (fun k : Nat => [(8, .int .i64 k)]) (fun _ => []) (fun k => k <= l.length /\ Zea t (l.drop k) k = res) (fun k => l.length - k) 0 SFA SOA ⟨Nat.zero_le _, hres⟩ ?_
 clear hres
 rintro k ⟨hk, hi⟩
 repeat (first | refine walk ?_)
 refine Zaf rfl (fun hc => ?_) (fun hc => ?_)
 ·have hkl : k < l.length := by simpa using hc
  obtain ⟨hna, hca⟩ := hA.rd k _ (List.getElem?_eq_getElem hkl)
  rw [Zan hkl, Zea] at hi
  have hx := hin l[k]
  generalize l[k] = x at *
  generalize spIn t x = q at *
  obtain ⟨s, f, e⟩ := x
  change Zal w _ [.int .i64 s, .int .i64 f, .int .i64 e] at hca
  cases q with
  | true =>
   rw [if_pos rfl] at hi
   subst hi
   repeat (first | (apply RL_pu; rfl; exact PuI) | (refine js ?_; (apply Zaq (f := 100) (us := []) (vs := [.agg #[.int .i64 s, .int .i64 f, .int .i64 e]]) (cs := [.pointer (some ⟨b, 0, none⟩)]) (h := fun w' hw _ => hx w' hw); rfl; rfl; rintro v O' ⟨rfl, rfl⟩)) | refine walk1 ?_)
   exact rtA
  | false =>
   rw [if_neg (by decide)] at hi
   repeat (first | (apply RL_pu; rfl; exact PuI) | (refine js ?_; (apply Zaq (f := 100) (us := []) (vs := [.agg #[.int .i64 s, .int .i64 f, .int .i64 e]]) (cs := [.pointer (some ⟨b, 0, none⟩)]) (h := fun w' hw _ => hx w' hw); rfl; rfl; rintro v O' ⟨rfl, rfl⟩)) | refine walk1 ?_)
   exact ⟨k + 1, OA, ⟨OA, hi⟩, SFA, SOA⟩
 ·obtain rfl : k = l.length := by simp only [decide_eq_false_iff_not, Int.ofNat_lt] at hc; omega
  rw [List.drop_length, Zea] at hi
  subst hi
  repeat (first | refine walk ?_)
  exact rtA
theorem Zw3 {G : Prop} (h : G := by (apply Zbg; rfl; rfl; exact b1)) : G := h
theorem Znl (A : Option Addr) (c : Nat) (l : List ZbA) (t : Int) (w : World) (hA : RdSl w A c ZbA.enc 3 l) :
  Does Tryz.prog 66 [.slice A l.length c, .int .i64 t] w (fun v O => v = .tuple #[.agg (Zjr l t).1.enc.toArray, .bool (Zjr l t).2] /\ O = []) := by
 have hle := hA.le
 have hcp := hA.cap
 simp only [maxLen] at hcp
 have hix := fun (b : Nat) w' (hw : Bel w.heap.size w w') hb => ZrH A c l t b w' (hA.up hw) hb
 have hrg := Zlx t l 0
 unfold Zjr
 generalize Zea t l 0 = i at *
 refine Zab Tryz.func66 rfl rfl rfl rfl ?_
 by_cases h : i < 0
 ·have b1 : decide (i < 0) = true := decide_eq_true h
  rw [if_pos h]
  repeat (first | (apply RL_pu; rfl; exact Zw3) | (refine js ?_; (first | (apply Zag (h := fun w' hw hH => hix _ w' hw (hH.cells (by repeat' constructor))); rfl; rintro v O' ⟨rfl, rfl⟩) | (refine bx ?_; intro bk))) | refine walk1 ?_)
  exact rtC
 ·have b1 : decide (i < 0) = false := decide_eq_false h
  rw [if_neg h]
  obtain ⟨x, hx⟩ : ∃ x, l[i.toNat]? = some x := ⟨_, List.getElem?_eq_getElem (by omega)⟩
  obtain ⟨hna, hca⟩ := hA.rd _ _ hx
  rw [List.getD_eq_getElem?_getD, hx, Option.getD_some]
  obtain ⟨s, f, e⟩ := x
  change Zal w _ [.int .i64 s, .int .i64 f, .int .i64 e] at hca
  repeat (first | (apply RL_pu; rfl; (first | exact Zw3 | exact PuI)) | (refine js ?_; (first | (apply Zag (h := fun w' hw hH => hix _ w' hw (hH.cells (by repeat' constructor))); rfl; rintro v O' ⟨rfl, rfl⟩) | (refine bx ?_; intro bk))) | refine walk1 ?_)
  exact rtC
def KnP (rs : List Zaa) (m : List (ByteArray × Value)) : Prop := ∀ k v, mget m k = some v -> ∃ A c, v = .slice A (ofB rs k).length c
def KnAt (rs : List Zaa) (m : List (ByteArray × Value)) (w : World) : Prop := ∀ k A n c, mget m k = some (.slice A n c) -> RdSl w A c Zaa.enc 11 (ofB rs k)
def ruEr (rs : List Zaa) (e : DEra) : List Zaa := if e.kind = 2 then ofB rs e.set else []
def ZyQ (Ar Az Al As : Option Addr) (cr cz cl cs : Nat) (s : Zai) (b : Nat) : Value := .agg #[.slice Ar s.rules.length cr, .slice Az s.zones.length cz, .slice Al s.links.length cl, .slice As s.shifts.length cs, .map (some b)]
def BkR (rs : List Zaa) (b : Nat) (e : DEra) (R : List It) (v : Value) (O' : List It) : Prop :=
 ∃ A c m' S', v = .slice A (ruEr rs e).length c /\ KnP rs m' /\ O' = .mp b m' :: .fact S' (fun w => KnAt rs m' w /\ RdSl w A c Zaa.enc 11 (ruEr rs e)) :: R
theorem ZoE {P : Program} {f : FuncId} {args : List Value} {w : World} {I : List It} {R R' : Value -> List It -> Prop} (h : Zak P f args w I R) (hr : ∀ v O base w', R v O -> Zaw base O w' -> ∃ O', R' v O' /\ Zaw base O' w') : Zak P f args w I R' := by
 unfold Zak at h ⊢
 exact fun w' hB hH => Calls.mono (h w' hB hH) fun _ _ ⟨v, O, h1, h2, h3, h4⟩ => by
  obtain ⟨O', h5, h6⟩ := hr v O _ _ h4 h3
  exact ⟨v, O', h1, h2, h6, h5⟩
theorem Zw2 {G : Prop} (h : G := by (first | (apply ZaD; rfl; rfl; exact b1) | (apply ZbR; rfl; rfl; (focus repeat' constructor); exact hv; exact hs))) : G := h
theorem Zn4 (Ar Az Al As : Option Addr) (cr cz cl cs : Nat) (s : Zai) (b : Nat) (m : List (ByteArray × Value)) (S : Nat -> Prop) (P : World -> Prop) (R : List It) (e : DEra) (wr : World) (hA : Zat wr Ar Az Al As cr cz cl cs s) (hn : s.rules.length <= 1000000) (hP : KnP s.rules m) (hK : ∀ w, P w -> KnAt s.rules m w) :
  Zak Tryz.prog 98 [ZyQ Ar Az Al As cr cz cl cs s b, .agg e.enc.toArray] wr (.mp b m :: .fact S P :: R) (BkR s.rules b e R) := by
 have hof := fun w' (hw : Bel wr.heap.size wr w') => ZeQ Ar Az Al As cr cz cl cs s e.set w' (hA.up hw) hn
 unfold BkR ruEr
 obtain ⟨off, kd, esv, st, fm, ⟨ui, uy, um, ⟨ud1, ud2, ud3⟩, ⟨uc1, uc2⟩⟩⟩ := e
 dsimp only at hof ⊢
 show Zak _ _ [.agg #[.slice Ar s.rules.length cr, .slice Az s.zones.length cz, .slice Al s.links.length cl, .slice As s.shifts.length cs, .map (some b)], .agg #[.int .i64 off, .int .i64 kd, .int .i64 esv, .string st, .string fm, .bool ui, .int .i64 uy, .int .i64 um, .int .i64 ud1, .int .i64 ud2, .int .i64 ud3, .int .i64 uc1, .int .i64 uc2]] wr _ _
 by_cases hk : kd = 2
 ·have b1 : (!decide (kd = 2)) = false := by rw [decide_eq_true hk]; rfl
  rw [if_pos hk]
  cases hg : mget m st with
  | some v =>
   obtain ⟨A, c, rfl⟩ := hP st v hg
   have hv : (mget m st).getD (.slice none 0 0) = .slice A (ofB s.rules st).length c := by rw [hg]; rfl
   have hs : (mget m st).isSome = true := by rw [hg]; rfl
   refine Zbz Tryz.func98 rfl rfl rfl rfl ?_
   refine Zgj [.fact S P] (.mp b m :: R) (fun w => KnAt s.rules m w /\ RdSl w A c Zaa.enc 11 (ofB s.rules st)) (.cons (.there .here) (.cons .here (.refl _))) (fun w' hi => ⟨hK _ (ZdT (hi _ List.mem_cons_self)), hK _ (ZdT (hi _ List.mem_cons_self)) st A _ c hg⟩) ?_
   repeat (first | (apply RL_pu; rfl; exact Zw2) | (refine js ?_; (refine bx ?_; intro bk)) | refine walk1 ?_)
   exact ret_1 _ _ (.tmp rfl) (.drop (.drop (.cons (.there .here) (.cons .here (.refl _))))) ⟨A, c, m, _, rfl, hP, rfl⟩
  | none =>
   have hv : (mget m st).getD (.slice none 0 0) = .slice none 0 0 := by rw [hg]; rfl
   have hs : (mget m st).isSome = false := by rw [hg]; rfl
   refine ZoE (R := fun v O => ∃ A3 c3, v = .slice A3 (ofB s.rules st).length c3 /\ O = [.fact S P, .row (.slice A3 (ofB s.rules st).length c3) 82 11 (ofB s.rules st).length ((ofB s.rules st).flatMap Zaa.enc)] ++ (.mp b (mset m st (.slice A3 (ofB s.rules st).length c3)) :: R)) ?_ ?_
   ·refine Zbz Tryz.func98 rfl rfl rfl rfl ?_
    repeat (first | (apply RL_pu; rfl; exact Zw2) | (refine js ?_; (first | (apply Zag (h := fun w' hw _ => hof w' hw); rfl; rintro v O' ⟨A3, c3, rfl, rfl⟩) | (refine bx ?_; intro bk))) | refine walk1 ?_)
    exact ret_1 _ _ (.tmp rfl) (.cons (.there (.there (.there (.there .here)))) (.cons .here (.cons (.there (.there .here)) (.drop (.drop (.refl _)))))) ⟨A3, c3, rfl, rfl⟩
   ·rintro v O base w' ⟨A3, c3, rfl, rfl⟩ hH
    have hrr : ∀ w', (∀ i ∈ [It.fact S P, .row (.slice A3 (ofB s.rules st).length c3) 82 11 (ofB s.rules st).length ((ofB s.rules st).flatMap Zaa.enc)], i.sat w') -> KnAt s.rules (mset m st (.slice A3 (ofB s.rules st).length c3)) w' /\ RdSl w' A3 c3 Zaa.enc 11 (ofB s.rules st) := by
     intro w' hi
     have h1 := hK _ (ZdT (hi _ List.mem_cons_self))
     have h2 := Zbj Zaa.len (hi _ (List.mem_cons_of_mem _ List.mem_cons_self))
     refine ⟨fun k A n c hk => ?_, h2⟩
     rw [Zer] at hk
     by_cases hks : k = st
     ·subst hks
      rw [if_pos rfl] at hk
      cases hk
      exact h2
     ·rw [if_neg hks] at hk
      exact h1 k A n c hk
    refine ⟨_, ⟨A3, c3, mset m st (.slice A3 (ofB s.rules st).length c3), foot [It.fact S P, .row (.slice A3 (ofB s.rules st).length c3) 82 11 (ofB s.rules st).length ((ofB s.rules st).flatMap Zaa.enc)], rfl, fun k v hk => ?_, rfl⟩, (hH.fact hrr).sub (.cons (.there .here) (.cons .here (.refl _)))⟩
    rw [Zer] at hk
    by_cases hks : k = st
    ·subst hks
     rw [if_pos rfl] at hk
     cases hk
     exact ⟨A3, c3, rfl⟩
    ·rw [if_neg hks] at hk
     exact hP k v hk
 ·have b1 : (!decide (kd = 2)) = true := by rw [decide_eq_false hk]; rfl
  rw [if_neg hk]
  refine Zbz Tryz.func98 rfl rfl rfl rfl ?_
  refine Zgj [.fact S P] (.mp b m :: R) (fun w => KnAt s.rules m w /\ RdSl w none 0 Zaa.enc 11 []) (.cons (.there .here) (.cons .here (.refl _))) (fun w' hi => ⟨hK _ (ZdT (hi _ List.mem_cons_self)), Zny _ _ _⟩) ?_
  repeat (first | (apply RL_pu; rfl; (apply ZaD; rfl; rfl; exact b1)) | (refine js ?_; (refine bx ?_; intro bk)) | refine walk1 ?_)
  exact ret_1 _ _ (.tmp rfl) (.drop (.drop (.cons (.there .here) (.cons .here (.refl _))))) ⟨none, 0, m, _, rfl, hP, rfl⟩
end Go.Proofs.YtdlmhmmhdbbliaaGreatDoor
namespace Go.Wk
open Go Go.RowKit
structure SpG where
 k : Nat
 st : Int
 A : Option Addr
 c : Nat
 m : Nat
 xs : List Value
 acc : List ZbA
 mp : List (ByteArray × Value)
 S : Nat -> Prop
 P : World -> Prop
end Go.Wk
namespace Go.Proofs.YtdlmhmmhdbbliaaGreatDoor
open Go Go.RowKit Go.Wk
attribute [local irreducible] W RL Does Zau Zaj retQ Calls Pu Stp RD Qy Ay Zak
def spGo (rs : List Zaa) : List DEra -> Int -> Nat -> Option (List ZbA)
 | [], _, _ => some []
 | [_], st, i => some [⟨st, 9223372036854775807, i⟩]
 | e :: f :: l, st, i => if endT e (ruEr rs e) <= st then none else (spGo rs (f :: l) (endT e (ruEr rs e)) (i + 1)).map fun r => ⟨st, endT e (ruEr rs e), i⟩ :: r
def Znm (rs : List Zaa) (l : List DEra) : Option (List ZbA) := spGo rs l (-9223372036854775808) 0
def SpR (l : List ZbA) (v : Value) (O : List It) : Prop := ∃ A c, v = .tuple #[.slice A l.length c, .int .i64 0] /\ O = [.row (.slice A l.length c) 147 3 l.length (l.flatMap ZbA.enc)]
theorem Zuo {G : Prop} (h : G := by (first | (apply Zbg; rfl; rfl; exact hb0) | (apply Zc3; rfl; rfl; exact hb1) | (apply Pu_indexAddr; rfl; rfl; omega; omega; exact hnz) | (apply Pu_loadO1; rfl; exact hcz 1 _ rfl))) : G := h
theorem Zww {G : Prop} (h : G := by first | (apply Qy_y; rfl; exact Zuo) | exact QyA) : G := h
theorem Zza {G : Prop} (h : G := by repeat (first | exact QF.nil | (apply QF.mk; rfl; rfl; decide +kernel; exact Zww))) : G := h
theorem Zun {G : Prop} (h : G := by (first | exact PuI | (apply Zbg; rfl; rfl; exact q1) | (apply ZcA; rfl; rfl; exact q2))) : G := h
theorem Zwv {G : Prop} (h : G := by first | (apply Qy_y; rfl; exact Zun) | exact QyA) : G := h
theorem Zy9 {G : Prop} (h : G := by repeat (first | exact QF.nil | (apply QF.mk; rfl; rfl; decide +kernel; exact Zwv))) : G := h
theorem Zw1 {G : Prop} (h : G := by (first | exact PuI | (apply Zbg; rfl; rfl; exact q1))) : G := h
set_option maxHeartbeats 4000000 in
theorem Zp8 (Ar Az Al As : Option Addr) (cr cz cl cs : Nat) (a : Zai) (i : Nat) (z : ZaY) (res : List ZbA) (w : World) (hG : Glob w) (hA : Zat w Ar Az Al As cr cz cl cs a) (hn : a.rules.length <= 1000000) (hl : z.eras.length <= 1000000) (hz : a.zones[i]? = some z)
  (hE : ∀ k e, z.eras[k]? = some e -> k + 1 < z.eras.length -> RsSm (ruEr a.rules e) /\ UnOk e (ruEr a.rules e)) (hsp : Znm a.rules z.eras = some res) :
  Does Tryz.prog 65 [srcV Ar Az Al As cr cz cl cs a, .int .i64 i] w (SpR res) := by
 have hil : i < a.zones.length := (List.getElem?_eq_some_iff.1 hz).1
 obtain ⟨hnz, cs1, ⟨Ae, ce, hEz, rfl⟩, hcz⟩ := hA.z i _ hz
 have hcpz := hA.zcap
 simp only [maxLen] at hcpz
 have hb0 : decide ((i : Int) < 0) = false := decide_eq_false (by omega)
 have hb1 : decide ((a.zones.length : Int) <= (i : Int)) = false := decide_eq_false (by omega)
 refine Zab Tryz.func65 rfl rfl rfl rfl ?_
 repeat (first | (apply RL_pu; rfl; exact Zuo) | (apply RD_Q; rfl; rfl; decide +kernel; rfl; rfl; exact Zww) | refine walk1 ?_ | (refine jn ?_; (try intro F); (first | (refine bx ?_; intro bk) | (refine stA ?_) | (apply Zae; first | exact Zuo | exact PuA)); first | refine ⟨_, EndsA, Zza, ?_⟩ | refine fin ?_) | (apply RD_W; rfl; intro bk))
 rename_i bm _
 generalize bk = b6
 have hel := hEz.le
 have hec := hEz.cap
 simp only [maxLen] at hec
 refine Zfc 147 3 ?_
 refine Zgj [] [.row (.slice none 0 0) 147 3 0 [], .blk b6 [.slice Ar a.rules.length cr, .slice Az a.zones.length cz, .slice Al a.links.length cl, .slice As a.shifts.length cs, .map (some bm)] 181, .mp bm []] (fun w => KnAt a.rules [] w) SOA (fun w' _ k A n c hk => by cases hk) ?_
 refine Zao [(6, .pointer (some ⟨b6, 0, none⟩)), (9, .slice Ae z.eras.length ce), (33, .slice Ae z.eras.length ce), (34, .int .i64 z.eras.length)] [.blk b6 [.slice Ar a.rules.length cr, .slice Az a.zones.length cz, .slice Al a.links.length cl, .slice As a.shifts.length cs, .map (some bm)] 181]
  (fun g : SpG => [(7, .slice g.A g.m g.c), (8, .int .i64 g.st), (35, .int .i64 g.k)]) (fun g => [.row (.slice g.A g.m g.c) 147 3 g.m g.xs, .mp bm g.mp, .fact g.S g.P])
  (fun g => g.k <= z.eras.length /\ g.m = g.acc.length /\ g.xs = g.acc.flatMap ZbA.enc /\ g.m = g.k /\ KnP a.rules g.mp /\ (∀ w, g.P w -> KnAt a.rules g.mp w) /\ ∃ rest, spGo a.rules (z.eras.drop g.k) g.st g.k = some rest /\ g.acc ++ rest = res) (fun g => z.eras.length - g.k)
  ⟨0, -9223372036854775808, none, 0, 0, [], [], [], foot [], KnAt a.rules []⟩ SFA SOA ⟨Nat.zero_le _, rfl, rfl, rfl, (fun k v hk => by cases hk), fun _ h => h, res, hsp, rfl⟩ ?_
 rintro ⟨k, st, A, c, m, xs, acc, mp, S, P⟩ ⟨hk, hm, hx, hmk, hP, hK, rest, hi, hacc⟩
 dsimp only at hk hm hx hmk hP hK hi hacc ⊢
 repeat (first | refine walk ?_ | (refine jn ?_; (try intro F); (first | (refine bx ?_; intro bk) | (refine stA ?_) | (apply Zae; exact PuA)); refine fin ?_) | (apply RD_W; rfl; intro bk))
 refine Zaf rfl (fun hc => ?_) (fun hc => ?_)
 ·simp only [decide_eq_true_eq, Int.ofNat_lt] at hc
  obtain ⟨hna, hca⟩ := hEz.rd k _ (List.getElem?_eq_getElem hc)
  have hgk := List.getElem?_eq_getElem hc
  rw [Zan hc] at hi
  generalize z.eras[k] = e at *
  by_cases hlast : k + 1 < z.eras.length
  ·have q1 : decide ((k : Int) < (z.eras.length : Int) - 1) = true := decide_eq_true (by omega)
   obtain ⟨hsm, hun⟩ := hE k _ hgk hlast
   rw [Zan hlast, spGo] at hi
   have hin := fun (A3 : Option Addr) (c3 : Nat) w' (hw : Bel w.heap.size w w') hR => Zp2 e A3 c3 (ruEr a.rules e) w' (hG.up hw) hR hsm hun
   have hru := fun R => Zn4 Ar Az Al As cr cz cl cs a bm mp S P R e w hA hn hP hK
   have hrl : (ruEr a.rules e).length <= 1000000 := hsm.n
   generalize endT e (ruEr a.rules e) = T at *
   by_cases hT : T <= st
   ·rw [if_pos hT] at hi
    cases hi
   rw [if_neg hT, <- Zan hlast] at hi
   have q2 : decide (T <= st) = false := decide_eq_false hT
   obtain ⟨r2, hr2, rfl⟩ := Option.map_eq_some_iff.1 hi
   unfold BkR at hru
   generalize ruEr a.rules e = rr at *
   obtain ⟨off, kd, esv, sset, fm, ⟨ui, uy, um, ⟨ud1, ud2, ud3⟩, ⟨uc1, uc2⟩⟩⟩ := e
   simp only [DEra.enc] at hca hin hru
   unfold ZyQ at hru
   repeat (first | (apply RL_pu; rfl; exact Zun) | (apply RD_Q; rfl; rfl; decide +kernel; rfl; rfl; exact Zwv) | refine walk1 ?_ | (refine ZeF ?_; intro F; (first | (apply ZdC (h := hru _); rfl; exact .cons (by repeat' constructor) (.cons (by repeat' constructor) (.refl _)); rintro v O' ⟨A3, c3, m3, S3, rfl, hP3, rfl⟩) | (apply Zag (h := fun w' hw hH => hin A3 c3 w' hw (ZdT (hH.of (A := .fact S3 (fun w => KnAt a.rules m3 w /\ RdSl w A3 c3 Zaa.enc 11 rr)) (by repeat' constructor))).2); rfl; rintro v O' ⟨rfl, rfl⟩)); refine ⟨_, EndsA, SubO.right _ _, ?_⟩) | (refine jn ?_; (try intro F); (first | (apply ZdC (h := hru _); rfl; exact .cons (by repeat' constructor) (.cons (by repeat' constructor) (.refl _)); rintro v O' ⟨A3, c3, m3, S3, rfl, hP3, rfl⟩) | (apply Zag (h := fun w' hw hH => hin A3 c3 w' hw (ZdT (hH.of (A := .fact S3 (fun w => KnAt a.rules m3 w /\ RdSl w A3 c3 Zaa.enc 11 rr)) (by repeat' constructor))).2); rfl; rintro v O' ⟨rfl, rfl⟩) | (apply ZaA; rfl; rfl; (intro A' c'; (focus repeat' constructor)); (intro w' _ hO; exact ZbG (hO.of (by repeat' constructor))); rfl; rfl; (simp only [maxLen]; omega); omega; intro A' c' hc1 hc2 hc3) | (refine bx ?_; intro bk) | (refine stA ?_) | (apply Zae; first | exact Zun | exact PuA)); first | refine ⟨_, EndsA, Zy9, ?_⟩ | refine fin ?_) | (apply RD_W; rfl; intro bk))
   exact ⟨⟨k + 1, T, A', c', m + 1, xs ++ (⟨st, T, k⟩ : ZbA).enc, acc ++ [⟨st, T, k⟩], m3, S3, fun w => KnAt a.rules m3 w /\ RdSl w A3 c3 Zaa.enc 11 rr⟩, OA, ⟨OA, by simp [hm], by rw [hx]; exact Zf3 acc _, OA, hP3, fun _ h => h.1, r2, hr2, by rw [<- hacc]; simp⟩, SFA, SOA⟩
  ·have q1 : decide ((k : Int) < (z.eras.length : Int) - 1) = false := decide_eq_false (by omega)
   rw [List.drop_eq_nil_of_le (by omega), spGo] at hi
   cases hi
   obtain ⟨off, kd, esv, sset, fm, ⟨ui, uy, um, ⟨ud1, ud2, ud3⟩, ⟨uc1, uc2⟩⟩⟩ := e
   simp only [DEra.enc] at hca
   repeat (first | (apply RL_pu; rfl; exact Zw1) | (apply RD_Q; rfl; rfl; decide +kernel; rfl; rfl; exact QyErC2) | refine walk1 ?_ | (refine jn ?_; (try intro F); (first | (apply ZaA; rfl; rfl; (intro A' c'; (focus repeat' constructor)); (intro w' _ hO; exact ZbG (hO.of (by repeat' constructor))); rfl; rfl; (simp only [maxLen]; omega); omega; intro A' c' hc1 hc2 hc3) | (refine bx ?_; intro bk) | (refine stA ?_) | (apply Zae; first | exact Zw1 | exact PuA)); first | refine ⟨_, EndsA, QFErC2, ?_⟩ | refine fin ?_) | (apply RD_W; rfl; intro bk))
   exact ⟨⟨k + 1, 9223372036854775807, A', c', m + 1, xs ++ (⟨st, 9223372036854775807, k⟩ : ZbA).enc, acc ++ [⟨st, 9223372036854775807, k⟩], mp, S, P⟩, OA, ⟨OA, by simp [hm], by rw [hx]; exact Zf3 acc _, OA, hP, hK, [], by dsimp only; rw [List.drop_eq_nil_of_le (by omega)]; rfl, by rw [List.append_nil]; exact hacc⟩, SFA, SOA⟩
 ·simp only [decide_eq_false_iff_not, Int.ofNat_lt] at hc
  obtain rfl : k = z.eras.length := by omega
  rw [List.drop_length, spGo] at hi
  cases hi
  rw [List.append_nil] at hacc
  subst hacc
  repeat (first | refine walk ?_ | (refine jn ?_; (try intro F); (first | (refine bx ?_; intro bk) | (refine stA ?_) | (apply Zae; exact PuA)); refine fin ?_) | (apply RD_W; rfl; intro bk))
  exact ret_2 _ _ [.row (.slice A acc.length c) 147 3 acc.length (acc.flatMap ZbA.enc)] (.tmp rfl) (.tmp rfl) (by subst hm hx; exact SOA) ⟨A, c, by rw [hm], rfl⟩
def Zsq : List Value := [fnV 287, fnV 288, fnV 289]
def MeG (w : World) : Prop := Zal w ⟨1, 0, none⟩ Zsq
theorem MeG.up {w w' : World} (h : MeG w) (hb : Bel w.heap.size w w') : MeG w' := Zal.up h hb (Nat.le_refl _)
def meFn (k : Int) : FuncId := if k = 0 then 287 else if k = 1 then 288 else 289
theorem Zzq {w : World} (hF : MeG w) (k : Int) (hk : 0 <= k /\ k <= 2) : Zal w ((⟨1, 0, none⟩ : Addr).add (k.toNat * 1)) [fnV (meFn k)] := by
 have hc : k = 0 \/ k = 1 \/ k = 2 := by omega
 intro j v hj
 have hj0 : j = 0 := by
  rcases j with _ | j
  ·rfl
  ·cases j <;> cases hj
 subst hj0
 rcases hc with rfl | rfl | rfl
 ·exact hF 0 _ hj
 ·exact hF 1 _ hj
 ·exact hF 2 _ hj
def ZbE (rs : List Zaa) (e : DEra) (t : Int) : Int × ByteArray := if e.kind = 0 then (0, ByteArray.empty) else if e.kind = 1 then (e.save, ByteArray.empty) else atS (ofB rs e.set) e.off t
theorem Znz (Ar Az Al As : Option Addr) (cr cz cl cs : Nat) (a : Zai) (e : DEra) (t : Int) (w : World) (hG : Glob w) (hA : Zat w Ar Az Al As cr cz cl cs a) (hn : a.rules.length <= 1000000) (hk : 0 <= e.kind /\ e.kind <= 2) (hr : e.kind = 2 -> RsSm (ofB a.rules e.set)) (ho : -1000000000 <= e.off /\ e.off <= 1000000000) (ht : -1000000000000000000 <= t /\ t <= 1000000000000000000) :
  Does Tryz.prog (meFn e.kind) [srcV Ar Az Al As cr cz cl cs a, .agg e.enc.toArray, .int .i64 t] w (fun v O => v = stV (ZbE a.rules e t) /\ O = []) := by
 have hof := fun w' (hw : Bel w.heap.size w w') => ZeQ Ar Az Al As cr cz cl cs a e.set w' (hA.up hw) hn
 have hsa := fun (A : Option Addr) (c : Nat) w' (hw : Bel w.heap.size w w') (hR : RdSl w' A c Zaa.enc 11 (ofB a.rules e.set)) (h2 : e.kind = 2) => ZrF A c (ofB a.rules e.set) e.off t w' (hG.up hw) hR (hr h2) ho ht
 unfold ZbE
 have hc : e.kind = 0 \/ e.kind = 1 \/ e.kind = 2 := by omega
 generalize atS (ofB a.rules e.set) e.off t = x at *
 generalize ofB a.rules e.set = rr at *
 obtain ⟨off, kd, esv, sset, fm, ⟨ui, uy, um, ⟨ud1, ud2, ud3⟩, ⟨uc1, uc2⟩⟩⟩ := e
 obtain ⟨xs, xl⟩ := x
 dsimp only at hc hof hsa ⊢
 unfold stV at hsa ⊢
 rcases hc with rfl | rfl | rfl
 ·show Does _ 287 [.agg #[.slice Ar a.rules.length cr, .slice Az a.zones.length cz, .slice Al a.links.length cl, .slice As a.shifts.length cs], .agg #[.int .i64 off, .int .i64 0, .int .i64 esv, .string sset, .string fm, .bool ui, .int .i64 uy, .int .i64 um, .int .i64 ud1, .int .i64 ud2, .int .i64 ud3, .int .i64 uc1, .int .i64 uc2], .int .i64 t] w _
  refine Zab Tryz.func287 rfl rfl rfl rfl ?_
  repeat (first | (refine js ?_; (refine bx ?_; intro bk)) | refine walk ?_)
  exact ret_1 _ [] (.cellB rfl (by repeat' constructor) rfl rfl) .nil ⟨rfl, rfl⟩
 ·show Does _ 288 [.agg #[.slice Ar a.rules.length cr, .slice Az a.zones.length cz, .slice Al a.links.length cl, .slice As a.shifts.length cs], .agg #[.int .i64 off, .int .i64 1, .int .i64 esv, .string sset, .string fm, .bool ui, .int .i64 uy, .int .i64 um, .int .i64 ud1, .int .i64 ud2, .int .i64 ud3, .int .i64 uc1, .int .i64 uc2], .int .i64 t] w _
  refine Zab Tryz.func288 rfl rfl rfl rfl ?_
  repeat (first | (refine js ?_; (refine bx ?_; intro bk)) | refine walk ?_)
  exact ret_1 _ [] (.cellB rfl (by repeat' constructor) rfl rfl) .nil ⟨rfl, rfl⟩
 ·show Does _ 289 [.agg #[.slice Ar a.rules.length cr, .slice Az a.zones.length cz, .slice Al a.links.length cl, .slice As a.shifts.length cs], .agg #[.int .i64 off, .int .i64 2, .int .i64 esv, .string sset, .string fm, .bool ui, .int .i64 uy, .int .i64 um, .int .i64 ud1, .int .i64 ud2, .int .i64 ud3, .int .i64 uc1, .int .i64 uc2], .int .i64 t] w _
  refine Zab Tryz.func289 rfl rfl rfl rfl ?_
  repeat (first | refine walk ?_ | (refine jg ?_; (try intro F); (first | (apply Zag (h := fun w' hw _ => hof w' hw); rfl; rintro v O' ⟨A3, c3, rfl, rfl⟩) | (refine ZaV (fun w' hw hO => hsa A3 c3 w' hw (Zbj Zaa.len (hO.of (by repeat' constructor))) rfl) ?_) | (refine bx ?_; intro bk) | (refine stA ?_)); refine fin ?_) | (refine jn ?_; (try intro F); (first | (refine bx ?_; intro bk) | (refine stA ?_) | (apply Zae; exact PuA)); refine fin ?_) | (apply RD_W; rfl; intro bk))
  exact ret_1 _ [] (.cellB rfl (by repeat' constructor) rfl rfl) .nil ⟨rfl, rfl⟩
structure Zde where
 off : Int
 dst : Bool
 abbr : ByteArray
deriving DecidableEq
def Zde.enc (x : Zde) : List Value := [.int .i64 x.off, .bool x.dst, .string x.abbr]
def Zfi (e : DEra) (x : Int × ByteArray) : Zde := ⟨e.off + x.1, !decide (x.1 = 0), Zc2 e x.1 x.2⟩
def abE (e : DEra) (x : Int × ByteArray) : Int := (ZbI e.format.data.toList e.off x.1 x.2.data.toList).2
structure LcOk (rs : List Zaa) (e : DEra) : Prop where
 k : 0 <= e.kind /\ e.kind <= 2
 o : -1000000000 <= e.off /\ e.off <= 1000000000
 s : -1000000000 <= e.save /\ e.save <= 1000000000
 r : e.kind = 2 -> RsSm (ofB rs e.set)
 f : e.format.size <= 1000000000
theorem Zt7 {G : Prop} (h : G := by (first | (apply Za8; rfl; rfl; omega; omega) | (apply Pu_loadO1; rfl; exact hcell 0 _ rfl))) : G := h
theorem Zwp {G : Prop} (h : G := by first | (apply Qy_y; rfl; exact Zt7) | exact QyA) : G := h
theorem Zwz {G : Prop} (h : G := by repeat (first | exact QF.nil | (apply QF.mk; rfl; rfl; decide +kernel; exact Zwp))) : G := h
theorem Zl2 (Ar Az Al As : Option Addr) (cr cz cl cs : Nat) (a : Zai) (e : DEra) (t : Int) (w : World) (hL : LibW w) (hG : Glob w) (hM : MeG w) (hA : Zat w Ar Az Al As cr cz cl cs a) (hn : a.rules.length <= 1000000) (he : LcOk a.rules e) (ht : -1000000000000000000 <= t /\ t <= 1000000000000000000)
  (hx : -1000000000 <= (ZbE a.rules e t).1 /\ (ZbE a.rules e t).1 <= 1000000000) (hxl : (ZbE a.rules e t).2.size <= 1000000000) (hab : abE e (ZbE a.rules e t) = 0) :
  Does Tryz.prog 26 [srcV Ar Az Al As cr cz cl cs a, .agg e.enc.toArray, .int .i64 t] w (fun v O => v = .tuple #[.agg (Zfi e (ZbE a.rules e t)).enc.toArray, .int .i64 0] /\ O = []) := by
 have hst := fun w' (hw : Bel w.heap.size w w') => Znz Ar Az Al As cr cz cl cs a e t w' (hG.up hw) (hA.up hw) hn he.k he.r he.o ht
 have hcell := Zzq hM e.kind he.k
 have hk := he.k
 have ho := he.o
 haveI : Body Tryz.prog (meFn e.kind) := by
  unfold meFn
  split
  ·infer_instance
  ·split <;> infer_instance
 generalize ZbE a.rules e t = x at *
 have hfa := fun w' (hw : Bel w.heap.size w w') => ZeU e.format x.2 e.off x.1 w' (hL.up hw) he.f hxl (by unfold I64; omega) (by unfold I64; omega)
 unfold abE at hab
 unfold xpV at hfa
 rw [hab] at hfa
 unfold Zfi
 change ∀ w', Bel w.heap.size w w' -> Does _ _ _ w' (fun v O => v = .tuple #[.string (Zc2 e x.1 x.2), .int .i64 0] /\ O = []) at hfa
 generalize Zc2 e x.1 x.2 = ab at *
 obtain ⟨xs, xl⟩ := x
 obtain ⟨off, kd, esv, sset, fm, ⟨ui, uy, um, ⟨ud1, ud2, ud3⟩, ⟨uc1, uc2⟩⟩⟩ := e
 dsimp only at hst hcell hk ho hx hfa ⊢
 unfold stV at hst
 simp only [Zde.enc]
 show Does _ _ [.agg #[.slice Ar a.rules.length cr, .slice Az a.zones.length cz, .slice Al a.links.length cl, .slice As a.shifts.length cs], .agg #[.int .i64 off, .int .i64 kd, .int .i64 esv, .string sset, .string fm, .bool ui, .int .i64 uy, .int .i64 um, .int .i64 ud1, .int .i64 ud2, .int .i64 ud3, .int .i64 uc1, .int .i64 uc2], .int .i64 t] w _
 generalize meFn kd = kf at *
 refine Zab Tryz.func26 rfl rfl rfl rfl ?_
 repeat (first | (apply RL_pu; rfl; exact Zt7) | (apply RD_Q; rfl; rfl; decide +kernel; rfl; rfl; exact Zwp) | refine walk1 ?_ | (refine jg ?_; (try intro F); (first | (apply Zaq (f := kf) (us := []) (cs := []) (vs := [.agg #[.slice Ar a.rules.length cr, .slice Az a.zones.length cz, .slice Al a.links.length cl, .slice As a.shifts.length cs], .agg #[.int .i64 off, .int .i64 kd, .int .i64 esv, .string sset, .string fm, .bool ui, .int .i64 uy, .int .i64 um, .int .i64 ud1, .int .i64 ud2, .int .i64 ud3, .int .i64 uc1, .int .i64 uc2], .int .i64 t]) (h := fun w' hw _ => hst w' hw); rfl; rfl; rintro v O' ⟨rfl, rfl⟩) | (refine Zac hfa ?_) | (refine bx ?_; intro bk) | (refine stA ?_)); first | refine ⟨_, EndsA, Zwz, ?_⟩ | refine fin ?_) | (refine jn ?_; (try intro F); (first | (refine bx ?_; intro bk) | (refine stA ?_) | (apply Zae; first | exact Zt7 | exact PuA)); first | refine ⟨_, EndsA, Zwz, ?_⟩ | refine fin ?_) | (apply RD_W; rfl; intro bk))
 exact rtC
end Go.Proofs.YtdlmhmmhdbbliaaGreatDoor
namespace Go.Proofs.YtdlmhmmhdbbliaaGreatDoor
open Go Go.RowKit Go.Wk
def Zbt (x : Zb2) (y : Int) : Int := if x.kind = 2 then Zam y 1 1 + x.day else (Zg8 x y).1
def Zdg (a b : Int × Bool) : Bool := decide (b.1 < a.1) || (decide (a.1 = b.1) && a.2)
def ZaS (t : Int) (l b : Int × Bool) : Int × Bool := if b.1 <= t /\ Zdg b l = true then b else l
def Zqi (p : Za4) (y : Int) : List (Int × Bool) := [(86400 * Zbt p.start y + p.start.sec - p.stdOff, true), (86400 * Zbt p.fin y + p.fin.sec - p.dstOff, false)]
def ZfR (p : Za4) (y : Int) : Nat -> List (Int × Bool)
 | 0 => []
 | k + 1 => Zqi p y ++ ZfR p (y + 1) k
def ZcB (p : Za4) (t : Int) : Int × Bool := (ZfR p (Zax t - 2) 5).foldl (ZaS t) (-4611686018427387904, false)
def pxAt (p : Za4) (t : Int) : Zde := if p.dst ≠ ByteArray.empty /\ (ZcB p t).2 = true then ⟨p.dstOff, true, p.dst⟩ else ⟨p.stdOff, false, p.std⟩
theorem ZlI (t : Int) (l b : Int × Bool) : (ZaS t l b = b /\ b.1 <= t /\ (l.1 < b.1 \/ (b.1 = l.1 /\ b.2 = true))) \/ (ZaS t l b = l /\ (b.1 <= t -> b.1 < l.1 \/ (b.1 = l.1 /\ b.2 = false))) := by
 unfold ZaS
 by_cases h : b.1 <= t /\ Zdg b l = true
 ·rw [if_pos h]
  obtain ⟨h1, h2⟩ := h
  unfold Zdg at h2
  rw [Bool.or_eq_true, Bool.and_eq_true, decide_eq_true_eq, decide_eq_true_eq] at h2
  exact .inl ⟨rfl, h1, h2⟩
 ·rw [if_neg h]
  refine .inr ⟨rfl, fun h1 => ?_⟩
  have h2 : Zdg b l = false := by
   cases hb : Zdg b l with
   | true => exact absurd ⟨h1, hb⟩ h
   | false => rfl
  unfold Zdg at h2
  rw [Bool.or_eq_false_iff, decide_eq_false_iff_not, Bool.and_eq_false_iff, decide_eq_false_iff_not] at h2
  obtain ⟨a, c⟩ := h2
  rcases c with c | c
  ·exact .inl (by omega)
  ·by_cases e : b.1 = l.1
   ·exact .inr ⟨e, c⟩
   ·exact .inl (by omega)
def pxNo (b r : Int × Bool) : Prop := b.1 < r.1 \/ (b.1 = r.1 /\ (b.2 = true -> r.2 = true))
theorem pxNo.refl (b : Int × Bool) : pxNo b b := .inr ⟨rfl, id⟩
theorem pxNo.trans {a b c : Int × Bool} (h : pxNo a b) (k : pxNo b c) : pxNo a c := by
 rcases h with h | ⟨h, h'⟩
 ·rcases k with k | ⟨k, _⟩
  ·exact .inl (by omega)
  ·exact .inl (by omega)
 ·rcases k with k | ⟨k, k'⟩
  ·exact .inl (by omega)
  ·exact .inr ⟨by omega, fun hh => k' (h' hh)⟩
theorem ZrZ (t : Int) (l b : Int × Bool) : pxNo l (ZaS t l b) /\ (b.1 <= t -> pxNo b (ZaS t l b)) /\ (ZaS t l b = l \/ (ZaS t l b = b /\ b.1 <= t)) := by
 rcases ZlI t l b with ⟨e, c1, c2⟩ | ⟨e, c⟩
 ·rw [e]
  refine ⟨?_, fun _ => pxNo.refl b, .inr ⟨rfl, c1⟩⟩
  rcases c2 with c2 | ⟨c2, c3⟩
  ·exact .inl c2
  ·exact .inr ⟨c2.symm, fun _ => c3⟩
 ·rw [e]
  refine ⟨pxNo.refl l, fun h => ?_, .inl rfl⟩
  rcases c h with c2 | ⟨c2, c3⟩
  ·exact .inl c2
  ·exact .inr ⟨c2, fun hh => by rw [c3] at hh; cases hh⟩
theorem ZrX (t : Int) : ∀ (L : List (Int × Bool)) (l : Int × Bool), (L.foldl (ZaS t) l = l \/ (L.foldl (ZaS t) l ∈ L /\ (L.foldl (ZaS t) l).1 <= t)) /\ pxNo l (L.foldl (ZaS t) l) /\
  (∀ b ∈ L, b.1 <= t -> pxNo b (L.foldl (ZaS t) l))
 | [], l => ⟨.inl rfl, pxNo.refl l, fun b h => by cases h⟩
 | b :: L, l => by
  obtain ⟨h1, h2, h3⟩ := ZrX t L (ZaS t l b)
  obtain ⟨c1, c2, c3⟩ := ZrZ t l b
  rw [List.foldl_cons]
  generalize List.foldl (ZaS t) (ZaS t l b) L = r at *
  refine ⟨?_, c1.trans h2, fun x hx hxt => ?_⟩
  ·rcases h1 with h1 | ⟨h1, h4⟩
   ·rcases c3 with c3 | ⟨c3, c4⟩
    ·exact .inl (h1.trans c3)
    ·exact .inr ⟨by rw [h1, c3]; exact List.mem_cons_self, by rw [h1, c3]; exact c4⟩
   ·exact .inr ⟨List.mem_cons_of_mem _ h1, h4⟩
  ·rcases List.mem_cons.1 hx with rfl | hx
   ·exact (c2 hxt).trans h2
   ·exact h3 x hx hxt
theorem Zdr {p : Za4} {b : Int × Bool} : ∀ (k : Nat) (y : Int), b ∈ ZfR p y k ↔ ∃ j : Nat, j < k /\ b ∈ Zqi p (y + (j : Nat))
 | 0, y => by simp [ZfR]
 | k + 1, y => by
  rw [ZfR, List.mem_append, Zdr k (y + 1)]
  constructor
  ·rintro (h | ⟨j, hj, h⟩)
   ·exact ⟨0, by omega, by simpa using h⟩
   ·exact ⟨j + 1, by omega, by rw [show y + ((j + 1 : Nat) : Int) = y + 1 + (j : Nat) by omega]; exact h⟩
  ·rintro ⟨j, hj, h⟩
   rcases j with _ | j
   ·exact .inl (by simpa using h)
   ·exact .inr ⟨j, by omega, by rw [show y + 1 + (j : Nat) = y + ((j + 1 : Nat) : Int) by omega]; exact h⟩
theorem Zgv {t : Int} (h0 : -40000000000000000 <= t) (h1 : t <= 40000000000000000) : jan1 (Zax t) * 86400 <= t /\ t < jan1 (Zax t + 1) * 86400 := by
 obtain ⟨a, b⟩ := Zmx (t / 86400)
 have hb : -2000000000 <= ZgQ (t / 86400) /\ ZgQ (t / 86400) <= 2000000000 := by
  unfold jan1 at a b
  omega
 have e : Zax t = ZgQ (t / 86400) := by
  unfold Zax
  omega
 rw [e]
 omega
theorem Zqh (y : Int) : Zbt ⟨2, 0, 0, 0, 0⟩ y = jan1 y := by
 rw [ZgI]
 show (if (2 : Int) = 2 then Zam y 1 1 + 0 else _) = _
 rw [if_pos rfl, Int.add_zero]
theorem Zr0 (y s : Int) : Zbt ⟨1, 365, 0, 0, s⟩ y = jan1 (y + 1) - 1 := by
 have h1 : (⟨1, 365, 0, 0, s⟩ : Zb2).kind = 1 := rfl
 unfold Zbt Zg8
 rw [if_neg (by rw [h1]; decide), if_pos h1]
 dsimp only
 rw [Zex, <- ZgI]
 unfold Zqa
 cases Zeb y with
 | true =>
  rw [if_pos ⟨rfl, by decide⟩, if_pos rfl]
  try omega
 | false =>
  rw [if_neg (fun h => by cases h.1), if_neg (by decide)]
  try omega
theorem ZrY {p : Za4} {save t : Int} (h1 : p.start = ⟨2, 0, 0, 0, 0⟩) (h2 : p.fin = ⟨1, 365, 0, 0, 86400 + save⟩) (h3 : p.dstOff = p.stdOff + save) (ho : -86400 <= p.stdOff /\ p.stdOff <= 86400) (ht : -40000000000000000 <= t /\ t <= 40000000000000000) : (ZcB p t).2 = true := by
 obtain ⟨y0, y1⟩ := Zgv ht.1 ht.2
 have hbeg : ∀ y, Zqi p y = [(86400 * jan1 y - p.stdOff, true), (86400 * jan1 (y + 1) - p.stdOff, false)] := fun y => by
  unfold Zqi
  rw [h1, h2, h3, Zqh, Zr0]
  dsimp only
  rw [show 86400 * jan1 y + 0 - p.stdOff = 86400 * jan1 y - p.stdOff by omega, show 86400 * (jan1 (y + 1) - 1) + (86400 + save) - (p.stdOff + save) = 86400 * jan1 (y + 1) - p.stdOff by omega]
 obtain ⟨m1, _, m3⟩ := ZrX t (ZfR p (Zax t - 2) 5) (-4611686018427387904, false)
 unfold ZcB
 generalize List.foldl (ZaS t) (-4611686018427387904, false) (ZfR p (Zax t - 2) 5) = r at *
 generalize Zax t = Y at *
 have hst : ∀ j : Nat, j < 5 -> (86400 * jan1 (Y - 2 + (j : Nat)) - p.stdOff, true) ∈ ZfR p (Y - 2) 5 := fun j hj => (Zdr 5 _).2 ⟨j, hj, by rw [hbeg]; exact List.mem_cons_self⟩
 have hm0 := Zcq (Y - 1) 1
 have hm1 := Zcq (Y + 1) 1
 have hm2 := Zcq (Y + 2) 1
 have e1 : (Y - 1 + ((1 : Nat) : Int)) = Y := by omega
 have e2 : (Y + 1 + ((1 : Nat) : Int)) = Y + 2 := by omega
 have e3 : (Y + 2 + ((1 : Nat) : Int)) = Y + 3 := by omega
 rw [e1] at hm0
 rw [e2] at hm1
 rw [e3] at hm2
 have hb := m3 _ (hst 1 (by decide)) (by
  dsimp only
  rw [show Y - 2 + ((1 : Nat) : Int) = Y - 1 by omega]
  omega)
 have hlow : 86400 * jan1 (Y - 1) - p.stdOff <= r.1 := by
  have e : Y - 2 + ((1 : Nat) : Int) = Y - 1 := by omega
  rw [e] at hb
  rcases hb with hb | ⟨hb, _⟩
  ·have : 86400 * jan1 (Y - 1) - p.stdOff < r.1 := hb
   omega
  ·have : 86400 * jan1 (Y - 1) - p.stdOff = r.1 := hb
   omega
 rcases m1 with m1 | ⟨m1, m2⟩
 ·rw [m1] at hlow
  have hl : 86400 * jan1 (Y - 1) - p.stdOff <= -4611686018427387904 := hlow
  unfold jan1 at hl y1
  omega
 ·obtain ⟨j, hj, hin⟩ := (Zdr 5 _).1 m1
  rw [hbeg] at hin
  rcases List.mem_cons.1 hin with hin | hin
  ·rw [hin]
  ·have hin := List.mem_singleton.1 hin
   by_cases h4 : j < 4
   ·have h5 := m3 _ (hst (j + 1) (by omega)) (by
     rw [hin] at m2
     have m2 : 86400 * jan1 (Y - 2 + (j : Nat) + 1) - p.stdOff <= t := m2
     show 86400 * jan1 (Y - 2 + ((j + 1 : Nat) : Int)) - p.stdOff <= t
     rw [show Y - 2 + ((j + 1 : Nat) : Int) = Y - 2 + (j : Nat) + 1 by omega]
     exact m2)
    rcases h5 with h5 | ⟨_, h5⟩
    ·exfalso
     rw [hin] at h5
     have h5 : 86400 * jan1 (Y - 2 + ((j + 1 : Nat) : Int)) - p.stdOff < 86400 * jan1 (Y - 2 + (j : Nat) + 1) - p.stdOff := h5
     rw [show Y - 2 + ((j + 1 : Nat) : Int) = Y - 2 + (j : Nat) + 1 by omega] at h5
     omega
    ·exact h5 rfl
   ·exfalso
    obtain rfl : j = 4 := by omega
    rw [hin] at m2
    have m2 : 86400 * jan1 (Y - 2 + ((4 : Nat) : Int) + 1) - p.stdOff <= t := m2
    rw [show Y - 2 + ((4 : Nat) : Int) + 1 = Y + 3 by omega] at m2
    omega
theorem ZjT {r : Zaa} (h : DrRule r) : ZaL r.at_ = true := by
 have := h.clk
 unfold ZaL
 simp
 omega
theorem ZsR {l : List Zaa} {i : Nat} {r : Zaa} (hr : DrRule r) (hi : l[i]? = some r) (hto : r.to = 1048576) {n b : Int} (hn : -50000 <= n /\ n <= 50000) (hbe : -20000 <= b /\ b <= 20000) :
  ∃ x, Zdz r n b = (x, 0) /\ ∀ y, inY y = true -> r.from_ <= y -> y <= 2000000000 -> ∃ e, onR (Zah l) r i y = some e /\ (e.nominal - 100000 <= 86400 * Zbt x y + x.sec - n - b /\ 86400 * Zbt x y + x.sec - n - b <= e.nominal + 100000) /\ ((befS l e.nominal).1 = b -> 86400 * Zbt x y + x.sec - n - b = Zcr l e n) := by
 have hm := hr.mon12
 have hc := hr.clk
 have hf0 := hr.f0
 have hck := ZjT hr
 have hl : lastY r = 2000000000 := if_pos hto
 have hnd : Zen r = false := by
  unfold Zen
  rw [decide_eq_true hto, decide_eq_false (show ¬ r.month < 1 by omega), decide_eq_false (show ¬ 12 < r.month by omega), hr.day.chk, hck]
  rfl
 have hsc : Zbp (secD r n b) = true := by
  have : -604799 <= secD r n b /\ secD r n b <= 604799 := by
   unfold secD
   split <;> split <;> omega
  unfold Zbp
  rw [decide_eq_true this.1, decide_eq_true this.2]
  rfl
 have hi1 : Zbp n = true := by unfold Zbp; rw [decide_eq_true (by omega), decide_eq_true (by omega)]; rfl
 have hi2 : Zbp b = true := by unfold Zbp; rw [decide_eq_true (by omega), decide_eq_true (by omega)]; rfl
 have h2000 : inY 2000 = true := by decide
 obtain ⟨d0, _⟩ := ZkA hr.day h2000 hm.1 hm.2
 have hdt : Zdz r n b = ({ (Zcx r.month r.day).1 with sec := secD r n b }, 0) := by
  unfold Zdz
  rw [hnd, if_neg (by decide), d0, if_neg (by decide), hi1, hi2, if_neg (by decide), hsc, if_pos rfl]
 refine ⟨_, hdt, fun y hin hy0 hy1 => ?_⟩
 have hon := hr.day.on hin hm.1 hm.2
 obtain ⟨_, d2⟩ := ZkA hr.day hin hm.1 hm.2
 have hms := d2 (secD r n b)
 have hev : onR (Zah l) r i y = some ⟨y, i, 86400 * (onD y r.month r.day).1 + r.at_.sec + (if r.at_.base = 1 then max (Zah l) (-10800) else 0)⟩ := by
  unfold onR
  rw [if_neg (by rw [hl, hck]; rintro (q | q | q); omega; omega; cases q), if_neg (by rw [hon.1]; decide)]
 have hru : ruE l ⟨y, i, 86400 * (onD y r.month r.day).1 + r.at_.sec + (if r.at_.base = 1 then max (Zah l) (-10800) else 0)⟩ = r := by
  unfold ruE
  rw [List.getD_eq_getElem?_getD]
  dsimp only
  rw [show ((i : Nat) : Int).toNat = i from rfl, hi]
  rfl
 have hk : (Zcx r.month r.day).1.kind ≠ 2 := fun hk => by
  unfold Zg8 at hms
  dsimp only at hms
  rw [hk, if_neg (by decide)] at hms
  have := congrArg Prod.snd hms
  simp at this
 have hpx : Zbt { (Zcx r.month r.day).1 with sec := secD r n b } y = (onD y r.month r.day).1 := by
  unfold Zbt
  rw [if_neg hk, hms]
 have hcb : r.at_.base = 0 \/ r.at_.base = 1 \/ r.at_.base = 2 := by omega
 have hle : Zah l <= 0 := (ZkL l 0).1
 refine ⟨_, hev, ?_, fun hbf => ?_⟩
 ·rw [hpx]
  dsimp only
  unfold secD
  rcases hcb with h | h | h <;> rw [h] <;> simp only [Int.reduceEq, if_true, if_false, or_true, true_or, or_self, or_false, false_or] <;> omega
 unfold Zcr
 rw [hru, hpx]
 dsimp only at hbf ⊢
 rw [hbf]
 unfold secD
 rcases hcb with h | h | h <;> rw [h] <;> simp only [Int.reduceEq, if_true, if_false, or_true, true_or, or_self, or_false, false_or] <;> omega
end Go.Proofs.YtdlmhmmhdbbliaaGreatDoor
