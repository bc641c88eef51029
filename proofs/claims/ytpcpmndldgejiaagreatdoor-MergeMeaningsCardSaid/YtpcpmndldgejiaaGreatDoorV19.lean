/- Parts of the proof. -/
import Derived.Test.YtpcpmndldgejiaaGreatDoorV18
import Derived.Test.YtpcpmndldgejiaaGreatDoorV14
import Derived.Test.YtpcpmndldgejiaaGreatDoorV12
import Derived.Test.YtpcpmndldgejiaaGreatDoorV16
import Derived.Shelf.Lay
import Derived.Shelf.Strings.OnBuilder
import Derived.Shelf.Strings.Prefix
import Derived.Shelf.Strings.Shaped
import Derived.Shelf.Strings.Cut
import Derived.Shelf.Pu.ParseUintPublic10
import Derived.Shelf.GgClosure.StringsRunes
import Derived.Test.YtpcpmndldgejiaaGreatDoorV05
import Derived.Lib.CutLaws
import Derived.Test.YtpcpmndldgejiaaGreatDoorV15
set_option maxHeartbeats 4000000
set_option linter.unusedVariables false
set_option linter.unusedSimpArgs false
namespace Go.Wk
open Go Go.RowKit
def atGo (l : List Zaa) (off t : Int) : Nat → Int → Int × ByteArray
 | 0, nm => befS l nm
 | k + 1, nm => match befD l nm with
  | none => iniS l
  | some e => if instE l e off ≤ t then behS l e else atGo l off t k e.nominal
def atS (l : List Zaa) (off t : Int) : Int × ByteArray := atGo l off t 3 (t + 259200)
end Go.Wk
namespace Go.Proofs.YtpcpmndldgejiaaGreatDoor
open Go Go.RowKit Go.Wk
attribute [local irreducible] W RL Does Zat Zak retQ Calls Pu Stp RD Qy Ay Zam
theorem beIn_bd (least nominal : Int) (hl : least ≤ 0) (r : Zaa) (i : Int) : ∀ (k : Nat) (y : Int), EvOk (beIn least nominal r i y k)
 | 0, _ => fun e he => by cases he
 | k + 1, y => by
  rw [beIn]
  have h := onR_bd least hl r i y
  split
  ·rename_i e he
   split
   ·intro e2 h2; cases h2; exact h e he
   ·exact beIn_bd least nominal hl r i k (y - 1)
  ·exact beIn_bd least nominal hl r i k (y - 1)
theorem befGo_bd (least nominal yr : Int) (hl : least ≤ 0) : ∀ (l : List Zaa) (i : Nat) (b : Option Zac), EvOk b → EvOk (befGo least nominal yr l i b)
 | [], _, _, h => h
 | r :: l, i, b, h => by
  rw [befGo]
  refine befGo_bd least nominal yr hl l (i + 1) _ ?_
  have he := beIn_bd least nominal hl r i 20 (min (lastY r) (yr + 2))
  generalize beIn least nominal r i (min (lastY r) (yr + 2)) 20 = o at *
  cases o with
  | none => exact h
  | some e =>
   cases b with
   | none => exact he
   | some x =>
    dsimp only
    split
    ·exact he
    ·exact h
theorem befD_bd {l : List Zaa} (h : RsSm l) (n : Int) : EvOk (befD l n) := befGo_bd _ _ _ (Zex l h.r).2 l 0 none fun e he => by cases he
structure AtG where
 k : Nat
 nm : Int
theorem PuStL0 {G : Prop} (h : G := by (apply ZeL; rfl; rfl; exact q1)) : G := h
set_option maxHeartbeats 4000000 in
theorem stAt_spec (A : Option Addr) (c : Nat) (l : List Zaa) (off t : Int) (w : World) (hG : Glob w) (hA : RdSl w A c Zaa.enc 11 l) (h : RsSm l) (ho : -1000000000 ≤ off ∧ off ≤ 1000000000) (ht : -1000000000000000000 ≤ t ∧ t ≤ 1000000000000000000) :
  Does Tryz.prog 107 [.slice A l.length c, .int .i64 off, .int .i64 t] w (fun v O => v = stV (atS l off t) ∧ O = []) := by
 have hadd := fun w' => add_spec t 259200 (by omega) w'
 have hbf := fun nm (hb : -4611686018427387904 ≤ nm ∧ nm ≤ 4611686018427387904) w' (hw : Bel w.heap.size w w') => evBefore_spec A c l nm w' (hG.up hw) (hA.up hw) h.n h.b hb
 have hib := fun w' (hw : Bel w.heap.size w w') => initial_spec A c l w' (hG.up hw) (hA.up hw) h
 have hst := fun nm (hb : -4611686018427387904 ≤ nm ∧ nm ≤ 4611686018427387904) w' (hw : Bel w.heap.size w w') => ZdN A c l nm w' (hG.up hw) (hA.up hw) h hb
 obtain ⟨res, hres⟩ : ∃ res, atS l off t = res := ⟨_, rfl⟩
 rw [hres]
 unfold atS at hres
 unfold stV at hib hst ⊢
 refine Zab Tryz.func107 rfl rfl rfl rfl ?_
 repeat (first | (refine js ?_; (first | (refine Zad (fun w' _ => hadd w') ?_) | (refine bx ?_; intro bk))) | refine walk ?_)
 generalize bk = b6
 refine Zal [(0, .slice A l.length c), (1, .int .i64 off), (2, .int .i64 t), (6, .pointer (some ⟨b6, 0, none⟩))] [.blk b6 [.int .i64 0, .string ByteArray.empty] 162] (fun g : AtG => [(18, .int .i64 g.k), (7, .int .i64 g.nm)]) (fun _ => []) (fun g => g.k ≤ 3 ∧ (-4611686018427387904 ≤ g.nm ∧ g.nm ≤ 4611686018427387904) ∧ atGo l off t (3 - g.k) g.nm = res) (fun g => 3 - g.k) ⟨0, t + 259200⟩ SFA SOA ⟨Nat.zero_le _, by dsimp only; omega, hres⟩ ?_
 clear hres
 rintro ⟨k, nm⟩ ⟨hk, hnb, hi⟩
 dsimp only at hk hnb hi ⊢
 repeat (first | (refine js ?_; (refine bx ?_; intro bk)) | refine walk ?_)
 refine Zag rfl (fun hc => ?_) (fun hc => ?_)
 ·have hk3 : k < 3 := by have := of_decide_eq_true hc; omega
  have hb1 := hbf nm hnb
  have hat := befD_at l nm
  have hbd := befD_bd h nm
  rw [show 3 - k = (2 - k) + 1 by omega, atGo] at hi
  generalize befD l nm = o at *
  rcases o with _ | ⟨ey, er, en⟩
  ·dsimp only at hi
   subst hi
   simp only [evV, Zac.enc, dEv0, Option.isSome] at hb1
   repeat (first | (refine js ?_; (first | (refine Zad hb1 ?_) | (refine Zad hib ?_) | (refine bx ?_; intro bk))) | refine walk ?_)
   exact ret_1 _ [] (.cellB rfl (by repeat' constructor) rfl rfl) .nil ⟨rfl, rfl⟩
  ·dsimp only at hi
   have hen := hbd _ rfl
   dsimp only at hen
   simp only [evV, Zac.enc, Option.isSome] at hb1
   have hins := fun w' (hw : Bel w.heap.size w w') => inst_spec A c l ⟨ey, er, en⟩ off w' (hG.up hw) (hA.up hw) h (hat _ rfl) (by dsimp only; omega) ho
   have hbh := fun w' (hw : Bel w.heap.size w w') => ZcM A c l ⟨ey, er, en⟩ w' (hA.up hw) (hat _ rfl)
   unfold stV at hbh
   generalize instE l ⟨ey, er, en⟩ off = I at *
   by_cases hle : I ≤ t
   ·have q1 : decide (I ≤ t) = true := decide_eq_true hle
    rw [if_pos hle] at hi
    subst hi
    repeat (first | (apply RL_pu; rfl; exact PuStL0) | (refine js ?_; (first | (refine Zad hb1 ?_) | (refine Zad hins ?_) | (refine Zad hbh ?_) | (refine bx ?_; intro bk))) | refine walk1 ?_)
    exact ret_1 _ [] (.cellB rfl (by repeat' constructor) rfl rfl) .nil ⟨rfl, rfl⟩
   ·have q1 : decide (I ≤ t) = false := decide_eq_false hle
    rw [if_neg hle] at hi
    repeat (first | (apply RL_pu; rfl; exact PuStL0) | (refine js ?_; (first | (refine Zad hb1 ?_) | (refine Zad hins ?_) | (refine bx ?_; intro bk))) | refine walk1 ?_)
    exact ⟨⟨k + 1, en⟩, OA, ⟨OA, by dsimp only; omega, by dsimp only; rw [show 3 - (k + 1) = 2 - k by omega]; exact hi⟩, SFA, SOA⟩
 ·obtain rfl : k = 3 := by have := of_decide_eq_false hc; omega
  have hs := hst nm hnb
  rw [show atGo l off t (3 - 3) nm = befS l nm from rfl] at hi
  subst hi
  repeat (first | (refine js ?_; (first | (refine Zad hs ?_) | (refine bx ?_; intro bk))) | refine walk ?_)
  exact ret_1 _ [] (.cellB rfl (by repeat' constructor) rfl rfl) .nil ⟨rfl, rfl⟩
end Go.Proofs.YtpcpmndldgejiaaGreatDoor
namespace Go.Wk
open Go Go.RowKit
structure DDate where
 kind : Int
 day : Int
 month : Int
 week : Int
 sec : Int
deriving DecidableEq
def DDate.enc (x : DDate) : List Value := [.int .i64 x.kind, .int .i64 x.day, .int .i64 x.month, .int .i64 x.week, .int .i64 x.sec]
def inClk (n : Int) : Bool := decide (-604799 ≤ n) && decide (n ≤ 604799)
def secD (r : Zaa) (off before : Int) : Int := r.at_.sec + (if r.at_.base = 2 then off else 0) + (if r.at_.base = 2 ∨ r.at_.base = 1 then before else 0)
def bsE (e : DEra) (l : List Zaa) : Int := if e.kind = 2 then max (Zaj l) (-10800) else 0
def bfE (e : DEra) (l : List Zaa) (nm : Int) : Int := if e.kind = 1 then e.save else if e.kind = 2 then (befS l nm).1 else 0
def endB (e : DEra) (l : List Zaa) : Int := bfE e l (ZaE e.til (bsE e l)).1
def endT (e : DEra) (l : List Zaa) : Int :=
 if e.til.at_.base = 0 then 86400 * (onD e.til.year e.til.month e.til.day).1 + e.til.at_.sec - endB e l - e.off
 else if e.til.at_.base = 1 then 86400 * (onD e.til.year e.til.month e.til.day).1 + e.til.at_.sec - e.off
 else 86400 * (onD e.til.year e.til.month e.til.day).1 + e.til.at_.sec
structure UnOk (e : DEra) (l : List Zaa) : Prop where
 k : 0 ≤ e.kind ∧ e.kind ≤ 2
 o : inClk e.off = true
 s : inClk e.save = true
 c : ZaU e.til (bsE e l) = 0
 b : inClk (endB e l) = true
end Go.Wk
namespace Go.Proofs.YtpcpmndldgejiaaGreatDoor
open Go Go.RowKit Go.Wk
attribute [local irreducible] W RL Does Zat Zak retQ Calls Pu Stp RD Qy Ay Zam
theorem inClk_bd {n : Int} (h : inClk n = true) : -604799 ≤ n ∧ n ≤ 604799 := by
 unfold inClk at h
 simpa using h
theorem PuUnI0 {G : Prop} (h : G := by (first | (apply Pu_neg64; rfl; (constructor <;> omega)) | (apply ZeM; rfl; rfl; exact b1))) : G := h
theorem Zek (n : Int) (w : World) : Does Tryz.prog 143 [.int .i64 n, .int .i64 604799] w (fun v O => v = .bool (inClk n) ∧ O = []) := by
 unfold inClk
 refine Zab Tryz.func143 rfl rfl rfl rfl ?_
 by_cases h : -604799 ≤ n
 ·have b1 : decide (-604799 ≤ n) = true := decide_eq_true h
  rw [b1, Bool.true_and]
  repeat (first | refine und ?_ | (apply RL_pu; rfl; exact PuUnI0) | refine walk1 ?_)
  exact rtA
 ·have b1 : decide (-604799 ≤ n) = false := decide_eq_false h
  rw [b1, Bool.false_and]
  repeat (first | refine und ?_ | (apply RL_pu; rfl; exact PuUnI0) | refine walk1 ?_)
  exact rtA
theorem ubase_spec (e : DEra) (A : Option Addr) (c : Nat) (l : List Zaa) (w : World) (hA : RdSl w A c Zaa.enc 11 l) : Does Tryz.prog 144 [.agg e.enc.toArray, .slice A l.length c] w (fun v O => v = .int .i64 (bsE e l) ∧ O = []) := by
 have hl := fun w' (hw : Bel w.heap.size w w') => ZcR A c l w' (hA.up hw)
 unfold bsE
 generalize Zaj l = m at *
 have hmx : (if m < -10800 then -10800 else m) = max m (-10800) := by split <;> omega
 obtain ⟨off, kd, esv, st, fm, ⟨ui, uy, um, ⟨ud1, ud2, ud3⟩, ⟨uc1, uc2⟩⟩⟩ := e
 dsimp only
 show Does _ _ [.agg #[.int .i64 off, .int .i64 kd, .int .i64 esv, .string st, .string fm, .bool ui, .int .i64 uy, .int .i64 um, .int .i64 ud1, .int .i64 ud2, .int .i64 ud3, .int .i64 uc1, .int .i64 uc2], _] w _
 refine Zab Tryz.func144 rfl rfl rfl rfl ?_
 by_cases h : kd = 2
 ·have b1 : (!decide (kd = 2)) = false := by rw [decide_eq_true h]; rfl
  rw [if_pos h]
  repeat (first | (apply RL_pu; rfl; (first | (apply ZaM; rfl; rfl; exact b1) | (apply ZeK; rfl; rfl; exact hmx))) | (refine js ?_; (first | (refine Zad hl ?_) | (refine bx ?_; intro bk))) | refine walk1 ?_)
  exact rtA
 ·have b1 : (!decide (kd = 2)) = true := by rw [decide_eq_false h]; rfl
  rw [if_neg h]
  repeat (first | (apply RL_pu; rfl; (apply ZaM; rfl; rfl; exact b1)) | (refine js ?_; (refine bx ?_; intro bk)) | refine walk1 ?_)
  exact rtA
theorem PuUnI4 {G : Prop} (h : G := by (apply ZaI; rfl; rfl; first | exact b1 | exact b2)) : G := h
theorem usave_spec (e : DEra) (A : Option Addr) (c : Nat) (l : List Zaa) (nm : Int) (w : World) (hG : Glob w) (hA : RdSl w A c Zaa.enc 11 l) (h : RsSm l) (hn : -4611686018427387904 ≤ nm ∧ nm ≤ 4611686018427387904) :
  Does Tryz.prog 145 [.agg e.enc.toArray, .slice A l.length c, .int .i64 nm] w (fun v O => v = .int .i64 (bfE e l nm) ∧ O = []) := by
 have hb := fun w' (hw : Bel w.heap.size w w') => ZdN A c l nm w' (hG.up hw) (hA.up hw) h hn
 unfold bfE
 unfold stV at hb
 generalize befS l nm = x at *
 obtain ⟨sv, sl⟩ := x
 obtain ⟨off, kd, esv, st, fm, ⟨ui, uy, um, ⟨ud1, ud2, ud3⟩, ⟨uc1, uc2⟩⟩⟩ := e
 dsimp only at hb ⊢
 show Does _ _ [.agg #[.int .i64 off, .int .i64 kd, .int .i64 esv, .string st, .string fm, .bool ui, .int .i64 uy, .int .i64 um, .int .i64 ud1, .int .i64 ud2, .int .i64 ud3, .int .i64 uc1, .int .i64 uc2], _, _] w _
 refine Zab Tryz.func145 rfl rfl rfl rfl ?_
 by_cases h1 : kd = 1
 ·have b1 : decide (kd = 1) = true := decide_eq_true h1
  rw [if_pos h1]
  repeat (first | (apply RL_pu; rfl; (apply ZaI; rfl; rfl; exact b1)) | (refine js ?_; (refine bx ?_; intro bk)) | refine walk1 ?_)
  exact rtA
 ·have b1 : decide (kd = 1) = false := decide_eq_false h1
  rw [if_neg h1]
  by_cases h2 : kd = 2
  ·have b2 : decide (kd = 2) = true := decide_eq_true h2
   rw [if_pos h2]
   repeat (first | (apply RL_pu; rfl; exact PuUnI4) | (refine js ?_; (first | (refine Zad hb ?_) | (refine bx ?_; intro bk))) | refine walk1 ?_)
   exact rtA
  ·have b2 : decide (kd = 2) = false := decide_eq_false h2
   rw [if_neg h2]
   repeat (first | (apply RL_pu; rfl; exact PuUnI4) | (refine js ?_; (refine bx ?_; intro bk)) | refine walk1 ?_)
   exact rtA
theorem PuUnI5 {G : Prop} (h : G := by (first | (apply Zbv; rfl; rfl; exact t1) | (apply ZaX; rfl; rfl; exact t2) | (apply ZaI; rfl; rfl; first | exact k1 | exact u0 | exact u1))) : G := h
theorem QyUnI5 {G : Prop} (h : G := by first | (apply Qy_y; rfl; exact PuUnI5) | exact QyA) : G := h
theorem Zdk {G : Prop} (h : G := by repeat (first | exact QF.nil | (apply QF.mk; rfl; rfl; decide +kernel; exact QyUnI5))) : G := h
theorem wkUnI0 {G G' : Prop} (k : G') (h : Hold G' → G := by intro k9; (first | refine und ?_ | (apply RL_pu; rfl; exact PuUnI5) | (apply RD_Q; rfl; rfl; decide +kernel; rfl; rfl; exact QyUnI5) | refine walk1 ?_ | (refine jg ?_; (try intro F); (first | (refine Zad (fun w' _ => w1 w') ?_) | (refine Zad (fun w' _ => w2 w') ?_) | (refine Zad (fun w' _ => w3 w') ?_) | (refine Zad hb ?_) | (refine Zad hn ?_) | (refine Zad hs ?_) | (refine Zad hc ?_)); first | refine ⟨_, EndsA, Zdk, ?_⟩ | refine fin ?_) | (refine jn ?_; (try intro F); (apply Zae; first | exact PuUnI5 | exact PuA); first | refine ⟨_, EndsA, Zdk, ?_⟩ | refine fin ?_)); exact k9.out) : G := h ⟨k⟩
set_option maxHeartbeats 4000000 in
theorem uinst_spec (e : DEra) (A : Option Addr) (c : Nat) (l : List Zaa) (w : World) (hG : Glob w) (hA : RdSl w A c Zaa.enc 11 l) (h : RsSm l) (hu : UnOk e l) :
  Does Tryz.prog 103 [.agg e.enc.toArray, .slice A l.length c] w (fun v O => v = .tuple #[.int .i64 (endT e l), .int .i64 0] ∧ O = []) := by
 have w1 := fun w' => Zek e.off w'
 have w2 := fun w' => Zek e.save w'
 have w3 := fun w' => Zek (endB e l) w'
 rw [hu.o] at w1
 rw [hu.s] at w2
 rw [hu.b] at w3
 have ho := inClk_bd hu.o
 have hbb := inClk_bd hu.b
 obtain ⟨_, hcl⟩ := untilChk_ok hu.c
 have hb := fun w' (hw : Bel w.heap.size w w') => ubase_spec e A c l w' (hA.up hw)
 have hn := fun w' (hw : Bel w.heap.size w w') => Zeq e.til (bsE e l) w' (hG.up hw)
 have hn2 : (ZaE e.til (bsE e l)).2 = 0 := by
  unfold ZaE
  rw [if_neg (by rw [hu.c]; decide)]
 have hnb : -4611686018427387904 ≤ (ZaE e.til (bsE e l)).1 ∧ (ZaE e.til (bsE e l)).1 ≤ 4611686018427387904 := by
  have h1 := onD_bd e.til.year e.til.month e.til.day
  have h2 := (untilChk_ok hu.c).1
  unfold ZaE
  rw [if_neg (by rw [hu.c]; decide)]
  dsimp only
  split <;> omega
 have hs := fun w' (hw : Bel w.heap.size w w') => usave_spec e A c l (ZaE e.til (bsE e l)).1 w' (hG.up hw) (hA.up hw) h hnb
 have hc := fun w' (hw : Bel w.heap.size w w') => seconds_spec e.til hcl w' (hG.up hw)
 have hob := onD_bd e.til.year e.til.month e.til.day
 have hk := hu.k
 rw [hn2] at hn
 change ∀ w', Bel w.heap.size w w' → Does _ _ _ w' (fun v O => v = .int .i64 (endB e l) ∧ O = []) at hs
 unfold endT
 generalize endB e l = bf at *
 generalize (ZaE e.til (bsE e l)).1 = nm at *
 generalize bsE e l = bs at *
 generalize (onD e.til.year e.til.month e.til.day).1 = dn at *
 clear hu hG hA h hn2 hnb
 obtain ⟨off, kd, esv, st, fm, ⟨ui, uy, um, ⟨ud1, ud2, ud3⟩, ⟨uc1, uc2⟩⟩⟩ := e
 dsimp only at ho hcl hk w1 w2 hc ⊢
 have t1 : decide (kd < 0) = false := decide_eq_false (by omega)
 have t2 : decide (2 < kd) = false := decide_eq_false (by omega)
 show Does _ _ [.agg #[.int .i64 off, .int .i64 kd, .int .i64 esv, .string st, .string fm, .bool ui, .int .i64 uy, .int .i64 um, .int .i64 ud1, .int .i64 ud2, .int .i64 ud3, .int .i64 uc1, .int .i64 uc2], _] w _
 by_cases h0 : uc2 = 0
 ·have u0 : decide (uc2 = 0) = true := decide_eq_true h0
  rw [if_pos h0]
  by_cases h1 : kd = 1
  ·have k1 : decide (kd = 1) = true := decide_eq_true h1
   refine Zab Tryz.func103 rfl rfl rfl rfl ?_
   repeat (first | refine wkUnI0 ?_ | (refine jg ?_; (try intro F); (refine bx ?_; intro bk); first | refine ⟨_, EndsA, Zdk, ?_⟩ | refine fin ?_) | (refine jn ?_; (try intro F); (refine bx ?_; intro bk); first | refine ⟨_, EndsA, Zdk, ?_⟩ | refine fin ?_))
   exact rtB
  ·have k1 : decide (kd = 1) = false := decide_eq_false h1
   refine Zab Tryz.func103 rfl rfl rfl rfl ?_
   repeat (first | refine wkUnI0 ?_ | (refine jg ?_; (try intro F); (refine bx ?_; intro bk); first | refine ⟨_, EndsA, Zdk, ?_⟩ | refine fin ?_) | (refine jn ?_; (try intro F); (refine bx ?_; intro bk); first | refine ⟨_, EndsA, Zdk, ?_⟩ | refine fin ?_))
   exact rtB
 ·have u0 : decide (uc2 = 0) = false := decide_eq_false h0
  rw [if_neg h0]
  by_cases h2 : uc2 = 1
  ·have u1 : decide (uc2 = 1) = true := decide_eq_true h2
   rw [if_pos h2]
   by_cases h1 : kd = 1
   ·have k1 : decide (kd = 1) = true := decide_eq_true h1
    refine Zab Tryz.func103 rfl rfl rfl rfl ?_
    repeat (first | refine wkUnI0 ?_ | (refine jg ?_; (try intro F); (refine bx ?_; intro bk); first | refine ⟨_, EndsA, Zdk, ?_⟩ | refine fin ?_) | (refine jn ?_; (try intro F); (refine bx ?_; intro bk); first | refine ⟨_, EndsA, Zdk, ?_⟩ | refine fin ?_))
    exact rtB
   ·have k1 : decide (kd = 1) = false := decide_eq_false h1
    refine Zab Tryz.func103 rfl rfl rfl rfl ?_
    repeat (first | refine wkUnI0 ?_ | (refine jg ?_; (try intro F); (refine bx ?_; intro bk); first | refine ⟨_, EndsA, Zdk, ?_⟩ | refine fin ?_) | (refine jn ?_; (try intro F); (refine bx ?_; intro bk); first | refine ⟨_, EndsA, Zdk, ?_⟩ | refine fin ?_))
    exact rtB
  ·have u1 : decide (uc2 = 1) = false := decide_eq_false h2
   rw [if_neg h2]
   by_cases h1 : kd = 1
   ·have k1 : decide (kd = 1) = true := decide_eq_true h1
    refine Zab Tryz.func103 rfl rfl rfl rfl ?_
    repeat (first | refine wkUnI0 ?_ | (refine jg ?_; (try intro F); (refine bx ?_; intro bk); first | refine ⟨_, EndsA, Zdk, ?_⟩ | refine fin ?_) | (refine jn ?_; (try intro F); (refine bx ?_; intro bk); first | refine ⟨_, EndsA, Zdk, ?_⟩ | refine fin ?_))
    exact rtB
   ·have k1 : decide (kd = 1) = false := decide_eq_false h1
    refine Zab Tryz.func103 rfl rfl rfl rfl ?_
    repeat (first | refine wkUnI0 ?_ | (refine jg ?_; (try intro F); (refine bx ?_; intro bk); first | refine ⟨_, EndsA, Zdk, ?_⟩ | refine fin ?_) | (refine jn ?_; (try intro F); (refine bx ?_; intro bk); first | refine ⟨_, EndsA, Zdk, ?_⟩ | refine fin ?_))
    exact rtB
end Go.Proofs.YtpcpmndldgejiaaGreatDoor
namespace Go.Wk
open Go Go.RowKit
structure ZbI where
 start : Int
 fin : Int
 era : Int
deriving DecidableEq
def ZbI.enc (x : ZbI) : List Value := [.int .i64 x.start, .int .i64 x.fin, .int .i64 x.era]
theorem ZbI.len (x : ZbI) : x.enc.length = 3 := rfl
def spIn (t : Int) (x : ZbI) : Bool := decide (x.start ≤ t) && decide (t < x.fin)
def Zeg (t : Int) : List ZbI → Nat → Int
 | [], _ => -1
 | x :: l, i => if spIn t x then i else Zeg t l (i + 1)
def sp0 : ZbI := ⟨0, 0, 0⟩
def spFind (l : List ZbI) (t : Int) : ZbI × Bool := if Zeg t l 0 < 0 then (sp0, false) else (l.getD (Zeg t l 0).toNat sp0, true)
theorem spIdx_rng (t : Int) : ∀ (l : List ZbI) (i : Nat), Zeg t l i = -1 ∨ ((i : Int) ≤ Zeg t l i ∧ Zeg t l i < i + l.length)
 | [], i => .inl rfl
 | x :: l, i => by
  rw [Zeg]
  split
  ·right
   simp
   omega
  ·rcases spIdx_rng t l (i + 1) with h | h
   ·exact .inl h
   ·right
    rw [List.length_cons]
    omega
end Go.Wk
namespace Go.Proofs.YtpcpmndldgejiaaGreatDoor
open Go Go.RowKit Go.Wk
attribute [local irreducible] W RL Does Zat Zak retQ Calls Pu Stp RD Qy Ay Zam
theorem PuErA0 {G : Prop} (h : G := by (first | (apply Pu_loadO1; rfl; exact hb 0 _ rfl) | (apply ZeL; rfl; rfl; exact b1))) : G := h
theorem spIn_spec (x : ZbI) (t : Int) (b : Nat) (w : World) (hb : Zap w ⟨b, 0, none⟩ [.int .i64 t]) : Does Tryz.prog 106 [.agg x.enc.toArray, .pointer (some ⟨b, 0, none⟩)] w (fun v O => v = .bool (spIn t x) ∧ O = []) := by
 obtain ⟨s, f, k⟩ := x
 unfold spIn
 dsimp only
 show Does _ _ [.agg #[.int .i64 s, .int .i64 f, .int .i64 k], _] w _
 refine Zab Tryz.func106 rfl rfl rfl rfl ?_
 by_cases h : s ≤ t
 ·have b1 : decide (s ≤ t) = true := decide_eq_true h
  rw [b1, Bool.true_and]
  repeat (first | refine und ?_ | (apply RL_pu; rfl; exact PuErA0) | (refine js ?_; (refine bx ?_; intro bk)) | refine walk1 ?_)
  exact rtA
 ·have b1 : decide (s ≤ t) = false := decide_eq_false h
  rw [b1, Bool.false_and]
  repeat (first | refine und ?_ | (apply RL_pu; rfl; exact PuErA0) | (refine js ?_; (refine bx ?_; intro bk)) | refine walk1 ?_)
  exact rtA
theorem spIx_spec (A : Option Addr) (c : Nat) (l : List ZbI) (t : Int) (b : Nat) (w : World) (hA : RdSl w A c ZbI.enc 3 l) (hb : Zap w ⟨b, 0, none⟩ [.int .i64 t]) :
  Does Tryz.prog 105 [.slice A l.length c, .func (.func 106) #[] #[.pointer (some ⟨b, 0, none⟩)]] w (fun v O => v = .int .i64 (Zeg t l 0) ∧ O = []) := by
 have hle := hA.le
 have hcp := hA.cap
 simp only [maxLen] at hcp
 have hin := fun x w' (hw : Bel w.heap.size w w') => spIn_spec x t b w' (hb.up hw (Nat.le_refl _))
 obtain ⟨res, hres⟩ : ∃ res, Zeg t l 0 = res := ⟨_, rfl⟩
 rw [hres]
 refine Zab Tryz.func105 rfl rfl rfl rfl ?_
 repeat (first | refine walk ?_)
 refine Zal [(0, .slice A l.length c), (1, .func (.func 106) #[] #[.pointer (some ⟨b, 0, none⟩)]), (7, .int .i64 l.length)] [] (fun k : Nat => [(8, .int .i64 k)]) (fun _ => []) (fun k => k ≤ l.length ∧ Zeg t (l.drop k) k = res) (fun k => l.length - k) 0 SFA SOA ⟨Nat.zero_le _, hres⟩ ?_
 clear hres
 rintro k ⟨hk, hi⟩
 repeat (first | refine walk ?_)
 refine Zag rfl (fun hc => ?_) (fun hc => ?_)
 ·have hkl : k < l.length := by simpa using hc
  obtain ⟨hna, hca⟩ := hA.rd k _ (List.getElem?_eq_getElem hkl)
  rw [Zai hkl, Zeg] at hi
  have hx := hin l[k]
  generalize l[k] = x at *
  generalize spIn t x = q at *
  obtain ⟨s, f, e⟩ := x
  change Zap w _ [.int .i64 s, .int .i64 f, .int .i64 e] at hca
  cases q with
  | true =>
   rw [if_pos rfl] at hi
   subst hi
   repeat (first | (apply RL_pu; rfl; exact PuI) | (refine js ?_; (apply ZaA (f := 106) (us := []) (vs := [.agg #[.int .i64 s, .int .i64 f, .int .i64 e]]) (cs := [.pointer (some ⟨b, 0, none⟩)]) (h := fun w' hw _ => hx w' hw); rfl; rfl; rintro v O' ⟨rfl, rfl⟩)) | refine walk1 ?_)
   exact rtA
  | false =>
   rw [if_neg (by decide)] at hi
   repeat (first | (apply RL_pu; rfl; exact PuI) | (refine js ?_; (apply ZaA (f := 106) (us := []) (vs := [.agg #[.int .i64 s, .int .i64 f, .int .i64 e]]) (cs := [.pointer (some ⟨b, 0, none⟩)]) (h := fun w' hw _ => hx w' hw); rfl; rfl; rintro v O' ⟨rfl, rfl⟩)) | refine walk1 ?_)
   exact ⟨k + 1, OA, ⟨OA, hi⟩, SFA, SOA⟩
 ·obtain rfl : k = l.length := by simp only [decide_eq_false_iff_not, Int.ofNat_lt] at hc; omega
  rw [List.drop_length, Zeg] at hi
  subst hi
  repeat (first | refine walk ?_)
  exact rtA
theorem PuErA1 {G : Prop} (h : G := by (apply Zbv; rfl; rfl; exact b1)) : G := h
theorem spFind_spec (A : Option Addr) (c : Nat) (l : List ZbI) (t : Int) (w : World) (hA : RdSl w A c ZbI.enc 3 l) :
  Does Tryz.prog 62 [.slice A l.length c, .int .i64 t] w (fun v O => v = .tuple #[.agg (spFind l t).1.enc.toArray, .bool (spFind l t).2] ∧ O = []) := by
 have hle := hA.le
 have hcp := hA.cap
 simp only [maxLen] at hcp
 have hix := fun (b : Nat) w' (hw : Bel w.heap.size w w') hb => spIx_spec A c l t b w' (hA.up hw) hb
 have hrg := spIdx_rng t l 0
 unfold spFind
 generalize Zeg t l 0 = i at *
 refine Zab Tryz.func62 rfl rfl rfl rfl ?_
 by_cases h : i < 0
 ·have b1 : decide (i < 0) = true := decide_eq_true h
  rw [if_pos h]
  repeat (first | (apply RL_pu; rfl; exact PuErA1) | (refine js ?_; (first | (apply Zah (h := fun w' hw hH => hix _ w' hw (hH.cells (by repeat' constructor))); rfl; rintro v O' ⟨rfl, rfl⟩) | (refine bx ?_; intro bk))) | refine walk1 ?_)
  exact rtC
 ·have b1 : decide (i < 0) = false := decide_eq_false h
  rw [if_neg h]
  obtain ⟨x, hx⟩ : ∃ x, l[i.toNat]? = some x := ⟨_, List.getElem?_eq_getElem (by omega)⟩
  obtain ⟨hna, hca⟩ := hA.rd _ _ hx
  rw [List.getD_eq_getElem?_getD, hx, Option.getD_some]
  obtain ⟨s, f, e⟩ := x
  change Zap w _ [.int .i64 s, .int .i64 f, .int .i64 e] at hca
  repeat (first | (apply RL_pu; rfl; (first | exact PuErA1 | exact PuI)) | (refine js ?_; (first | (apply Zah (h := fun w' hw hH => hix _ w' hw (hH.cells (by repeat' constructor))); rfl; rintro v O' ⟨rfl, rfl⟩) | (refine bx ?_; intro bk))) | refine walk1 ?_)
  exact rtC
def KnP (rs : List Zaa) (m : List (ByteArray × Value)) : Prop := ∀ k v, mget m k = some v → ∃ A c, v = .slice A (ofB rs k).length c
def KnAt (rs : List Zaa) (m : List (ByteArray × Value)) (w : World) : Prop := ∀ k A n c, mget m k = some (.slice A n c) → RdSl w A c Zaa.enc 11 (ofB rs k)
def ruEr (rs : List Zaa) (e : DEra) : List Zaa := if e.kind = 2 then ofB rs e.set else []
def bookV (Ar Az Al As : Option Addr) (cr cz cl cs : Nat) (s : Zaf) (b : Nat) : Value := .agg #[.slice Ar s.rules.length cr, .slice Az s.zones.length cz, .slice Al s.links.length cl, .slice As s.shifts.length cs, .map (some b)]
def BkR (rs : List Zaa) (b : Nat) (e : DEra) (R : List It) (v : Value) (O' : List It) : Prop :=
 ∃ A c m' S', v = .slice A (ruEr rs e).length c ∧ KnP rs m' ∧ O' = .mp b m' :: .fact S' (fun w => KnAt rs m' w ∧ RdSl w A c Zaa.enc 11 (ruEr rs e)) :: R
theorem DoesInMonoH {P : Program} {f : FuncId} {args : List Value} {w : World} {I : List It} {R R' : Value → List It → Prop} (h : Zam P f args w I R) (hr : ∀ v O base w', R v O → Holds base O w' → ∃ O', R' v O' ∧ Holds base O' w') : Zam P f args w I R' := by
 unfold Zam at h ⊢
 exact fun w' hB hH => Calls.mono (h w' hB hH) fun _ _ ⟨v, O, h1, h2, h3, h4⟩ => by
  obtain ⟨O', h5, h6⟩ := hr v O _ _ h4 h3
  exact ⟨v, O', h1, h2, h6, h5⟩
theorem PuErB0 {G : Prop} (h : G := by (first | (apply ZaM; rfl; rfl; exact b1) | (apply Zbk; rfl; rfl; (focus repeat' constructor); exact hv; exact hs))) : G := h
theorem brules_spec (Ar Az Al As : Option Addr) (cr cz cl cs : Nat) (s : Zaf) (b : Nat) (m : List (ByteArray × Value)) (S : Nat → Prop) (P : World → Prop) (R : List It) (e : DEra) (wr : World) (hA : Zao wr Ar Az Al As cr cz cl cs s) (hn : s.rules.length ≤ 1000000) (hP : KnP s.rules m) (hK : ∀ w, P w → KnAt s.rules m w) :
  Zam Tryz.prog 104 [bookV Ar Az Al As cr cz cl cs s b, .agg e.enc.toArray] wr (.mp b m :: .fact S P :: R) (BkR s.rules b e R) := by
 have hof := fun w' (hw : Bel wr.heap.size wr w') => ofN_spec Ar Az Al As cr cz cl cs s e.set w' (hA.up hw) hn
 unfold BkR ruEr
 obtain ⟨off, kd, esv, st, fm, ⟨ui, uy, um, ⟨ud1, ud2, ud3⟩, ⟨uc1, uc2⟩⟩⟩ := e
 dsimp only at hof ⊢
 show Zam _ _ [.agg #[.slice Ar s.rules.length cr, .slice Az s.zones.length cz, .slice Al s.links.length cl, .slice As s.shifts.length cs, .map (some b)], .agg #[.int .i64 off, .int .i64 kd, .int .i64 esv, .string st, .string fm, .bool ui, .int .i64 uy, .int .i64 um, .int .i64 ud1, .int .i64 ud2, .int .i64 ud3, .int .i64 uc1, .int .i64 uc2]] wr _ _
 by_cases hk : kd = 2
 ·have b1 : (!decide (kd = 2)) = false := by rw [decide_eq_true hk]; rfl
  rw [if_pos hk]
  cases hg : mget m st with
  | some v =>
   obtain ⟨A, c, rfl⟩ := hP st v hg
   have hv : (mget m st).getD (.slice none 0 0) = .slice A (ofB s.rules st).length c := by rw [hg]; rfl
   have hs : (mget m st).isSome = true := by rw [hg]; rfl
   refine ZaY Tryz.func104 rfl rfl rfl rfl ?_
   refine ZcO [.fact S P] (.mp b m :: R) (fun w => KnAt s.rules m w ∧ RdSl w A c Zaa.enc 11 (ofB s.rules st)) (.cons (.there .here) (.cons .here (.refl _))) (fun w' hi => ⟨hK _ (ZaQ (hi _ List.mem_cons_self)), hK _ (ZaQ (hi _ List.mem_cons_self)) st A _ c hg⟩) ?_
   repeat (first | (apply RL_pu; rfl; exact PuErB0) | (refine js ?_; (refine bx ?_; intro bk)) | refine walk1 ?_)
   exact ret_1 _ _ (.tmp rfl) (.drop (.drop (.cons (.there .here) (.cons .here (.refl _))))) ⟨A, c, m, _, rfl, hP, rfl⟩
  | none =>
   have hv : (mget m st).getD (.slice none 0 0) = .slice none 0 0 := by rw [hg]; rfl
   have hs : (mget m st).isSome = false := by rw [hg]; rfl
   refine DoesInMonoH (R := fun v O => ∃ A3 c3, v = .slice A3 (ofB s.rules st).length c3 ∧ O = [.fact S P, .row (.slice A3 (ofB s.rules st).length c3) 118 11 (ofB s.rules st).length ((ofB s.rules st).flatMap Zaa.enc)] ++ (.mp b (mset m st (.slice A3 (ofB s.rules st).length c3)) :: R)) ?_ ?_
   ·refine ZaY Tryz.func104 rfl rfl rfl rfl ?_
    repeat (first | (apply RL_pu; rfl; exact PuErB0) | (refine js ?_; (first | (apply Zah (h := fun w' hw _ => hof w' hw); rfl; rintro v O' ⟨A3, c3, rfl, rfl⟩) | (refine bx ?_; intro bk))) | refine walk1 ?_)
    exact ret_1 _ _ (.tmp rfl) (.cons (.there (.there (.there (.there .here)))) (.cons .here (.cons (.there (.there .here)) (.drop (.drop (.refl _)))))) ⟨A3, c3, rfl, rfl⟩
   ·rintro v O base w' ⟨A3, c3, rfl, rfl⟩ hH
    have hrr : ∀ w', (∀ i ∈ [It.fact S P, .row (.slice A3 (ofB s.rules st).length c3) 118 11 (ofB s.rules st).length ((ofB s.rules st).flatMap Zaa.enc)], i.sat w') → KnAt s.rules (mset m st (.slice A3 (ofB s.rules st).length c3)) w' ∧ RdSl w' A3 c3 Zaa.enc 11 (ofB s.rules st) := by
     intro w' hi
     have h1 := hK _ (ZaQ (hi _ List.mem_cons_self))
     have h2 := Za3 Zaa.len (hi _ (List.mem_cons_of_mem _ List.mem_cons_self))
     refine ⟨fun k A n c hk => ?_, h2⟩
     rw [Zcz] at hk
     by_cases hks : k = st
     ·subst hks
      rw [if_pos rfl] at hk
      cases hk
      exact h2
     ·rw [if_neg hks] at hk
      exact h1 k A n c hk
    refine ⟨_, ⟨A3, c3, mset m st (.slice A3 (ofB s.rules st).length c3), foot [It.fact S P, .row (.slice A3 (ofB s.rules st).length c3) 118 11 (ofB s.rules st).length ((ofB s.rules st).flatMap Zaa.enc)], rfl, fun k v hk => ?_, rfl⟩, (hH.fact hrr).sub (.cons (.there .here) (.cons .here (.refl _)))⟩
    rw [Zcz] at hk
    by_cases hks : k = st
    ·subst hks
     rw [if_pos rfl] at hk
     cases hk
     exact ⟨A3, c3, rfl⟩
    ·rw [if_neg hks] at hk
     exact hP k v hk
 ·have b1 : (!decide (kd = 2)) = true := by rw [decide_eq_false hk]; rfl
  rw [if_neg hk]
  refine ZaY Tryz.func104 rfl rfl rfl rfl ?_
  refine ZcO [.fact S P] (.mp b m :: R) (fun w => KnAt s.rules m w ∧ RdSl w none 0 Zaa.enc 11 []) (.cons (.there .here) (.cons .here (.refl _))) (fun w' hi => ⟨hK _ (ZaQ (hi _ List.mem_cons_self)), nilRd _ _ _⟩) ?_
  repeat (first | (apply RL_pu; rfl; (apply ZaM; rfl; rfl; exact b1)) | (refine js ?_; (refine bx ?_; intro bk)) | refine walk1 ?_)
  exact ret_1 _ _ (.tmp rfl) (.drop (.drop (.cons (.there .here) (.cons .here (.refl _))))) ⟨none, 0, m, _, rfl, hP, rfl⟩
end Go.Proofs.YtpcpmndldgejiaaGreatDoor
namespace Go.Wk
open Go Go.RowKit
structure SpG where
 k : Nat
 st : Int
 A : Option Addr
 c : Nat
 m : Nat
 xs : List Value
 acc : List ZbI
 mp : List (ByteArray × Value)
 S : Nat → Prop
 P : World → Prop
end Go.Wk
namespace Go.Proofs.YtpcpmndldgejiaaGreatDoor
open Go Go.RowKit Go.Wk
attribute [local irreducible] W RL Does Zat Zak retQ Calls Pu Stp RD Qy Ay Zam
def spGo (rs : List Zaa) : List DEra → Int → Nat → Option (List ZbI)
 | [], _, _ => some []
 | [_], st, i => some [⟨st, 9223372036854775807, i⟩]
 | e :: f :: l, st, i => if endT e (ruEr rs e) ≤ st then none else (spGo rs (f :: l) (endT e (ruEr rs e)) (i + 1)).map fun r => ⟨st, endT e (ruEr rs e), i⟩ :: r
def spAll (rs : List Zaa) (l : List DEra) : Option (List ZbI) := spGo rs l (-9223372036854775808) 0
def SpR (l : List ZbI) (v : Value) (O : List It) : Prop := ∃ A c, v = .tuple #[.slice A l.length c, .int .i64 0] ∧ O = [.row (.slice A l.length c) 150 3 l.length (l.flatMap ZbI.enc)]
theorem PuErC0 {G : Prop} (h : G := by (first | (apply Zbv; rfl; rfl; exact hb0) | (apply ZeM; rfl; rfl; exact hb1) | (apply Pu_indexAddr; rfl; rfl; omega; omega; exact hnz) | (apply Pu_loadO1; rfl; exact hcz 1 _ rfl))) : G := h
theorem QyErC0 {G : Prop} (h : G := by first | (apply Qy_y; rfl; exact PuErC0) | exact QyA) : G := h
theorem QFErC0 {G : Prop} (h : G := by repeat (first | exact QF.nil | (apply QF.mk; rfl; rfl; decide +kernel; exact QyErC0))) : G := h
theorem PuErC1 {G : Prop} (h : G := by (first | exact PuI | (apply Zbv; rfl; rfl; exact q1) | (apply ZeL; rfl; rfl; exact q2))) : G := h
theorem QyErC1 {G : Prop} (h : G := by first | (apply Qy_y; rfl; exact PuErC1) | exact QyA) : G := h
theorem QFErC1 {G : Prop} (h : G := by repeat (first | exact QF.nil | (apply QF.mk; rfl; rfl; decide +kernel; exact QyErC1))) : G := h
theorem PuErC2 {G : Prop} (h : G := by (first | exact PuI | (apply Zbv; rfl; rfl; exact q1))) : G := h
set_option maxHeartbeats 4000000 in
theorem spans_spec (Ar Az Al As : Option Addr) (cr cz cl cs : Nat) (a : Zaf) (i : Nat) (z : ZaN) (res : List ZbI) (w : World) (hG : Glob w) (hA : Zao w Ar Az Al As cr cz cl cs a) (hn : a.rules.length ≤ 1000000) (hl : z.eras.length ≤ 1000000) (hz : a.zones[i]? = some z)
  (hE : ∀ k e, z.eras[k]? = some e → k + 1 < z.eras.length → RsSm (ruEr a.rules e) ∧ UnOk e (ruEr a.rules e)) (hsp : spAll a.rules z.eras = some res) :
  Does Tryz.prog 60 [srcV Ar Az Al As cr cz cl cs a, .int .i64 i] w (SpR res) := by
 have hil : i < a.zones.length := (List.getElem?_eq_some_iff.1 hz).1
 obtain ⟨hnz, cs1, ⟨Ae, ce, hEz, rfl⟩, hcz⟩ := hA.z i _ hz
 have hcpz := hA.zcap
 simp only [maxLen] at hcpz
 have hb0 : decide ((i : Int) < 0) = false := decide_eq_false (by omega)
 have hb1 : decide ((a.zones.length : Int) ≤ (i : Int)) = false := decide_eq_false (by omega)
 refine Zab Tryz.func60 rfl rfl rfl rfl ?_
 repeat (first | (apply RL_pu; rfl; exact PuErC0) | (apply RD_Q; rfl; rfl; decide +kernel; rfl; rfl; exact QyErC0) | refine walk1 ?_ | (refine jn ?_; (try intro F); (first | (refine bx ?_; intro bk) | (refine stA ?_) | (apply Zae; first | exact PuErC0 | exact PuA)); first | refine ⟨_, EndsA, QFErC0, ?_⟩ | refine fin ?_) | (apply RD_W; rfl; intro bk))
 rename_i bm _
 generalize bk = b6
 have hel := hEz.le
 have hec := hEz.cap
 simp only [maxLen] at hec
 refine Zcd 150 3 ?_
 refine ZcO [] [.row (.slice none 0 0) 150 3 0 [], .blk b6 [.slice Ar a.rules.length cr, .slice Az a.zones.length cz, .slice Al a.links.length cl, .slice As a.shifts.length cs, .map (some bm)] 198, .mp bm []] (fun w => KnAt a.rules [] w) SOA (fun w' _ k A n c hk => by cases hk) ?_
 refine Zal [(6, .pointer (some ⟨b6, 0, none⟩)), (9, .slice Ae z.eras.length ce), (33, .slice Ae z.eras.length ce), (34, .int .i64 z.eras.length)] [.blk b6 [.slice Ar a.rules.length cr, .slice Az a.zones.length cz, .slice Al a.links.length cl, .slice As a.shifts.length cs, .map (some bm)] 198]
  (fun g : SpG => [(7, .slice g.A g.m g.c), (8, .int .i64 g.st), (35, .int .i64 g.k)]) (fun g => [.row (.slice g.A g.m g.c) 150 3 g.m g.xs, .mp bm g.mp, .fact g.S g.P])
  (fun g => g.k ≤ z.eras.length ∧ g.m = g.acc.length ∧ g.xs = g.acc.flatMap ZbI.enc ∧ g.m = g.k ∧ KnP a.rules g.mp ∧ (∀ w, g.P w → KnAt a.rules g.mp w) ∧ ∃ rest, spGo a.rules (z.eras.drop g.k) g.st g.k = some rest ∧ g.acc ++ rest = res) (fun g => z.eras.length - g.k)
  ⟨0, -9223372036854775808, none, 0, 0, [], [], [], foot [], KnAt a.rules []⟩ SFA SOA ⟨Nat.zero_le _, rfl, rfl, rfl, (fun k v hk => by cases hk), fun _ h => h, res, hsp, rfl⟩ ?_
 rintro ⟨k, st, A, c, m, xs, acc, mp, S, P⟩ ⟨hk, hm, hx, hmk, hP, hK, rest, hi, hacc⟩
 dsimp only at hk hm hx hmk hP hK hi hacc ⊢
 repeat (first | refine walk ?_ | (refine jn ?_; (try intro F); (first | (refine bx ?_; intro bk) | (refine stA ?_) | (apply Zae; exact PuA)); refine fin ?_) | (apply RD_W; rfl; intro bk))
 refine Zag rfl (fun hc => ?_) (fun hc => ?_)
 ·simp only [decide_eq_true_eq, Int.ofNat_lt] at hc
  obtain ⟨hna, hca⟩ := hEz.rd k _ (List.getElem?_eq_getElem hc)
  have hgk := List.getElem?_eq_getElem hc
  rw [Zai hc] at hi
  generalize z.eras[k] = e at *
  by_cases hlast : k + 1 < z.eras.length
  ·have q1 : decide ((k : Int) < (z.eras.length : Int) - 1) = true := decide_eq_true (by omega)
   obtain ⟨hsm, hun⟩ := hE k _ hgk hlast
   rw [Zai hlast, spGo] at hi
   have hin := fun (A3 : Option Addr) (c3 : Nat) w' (hw : Bel w.heap.size w w') hR => uinst_spec e A3 c3 (ruEr a.rules e) w' (hG.up hw) hR hsm hun
   have hru := fun R => brules_spec Ar Az Al As cr cz cl cs a bm mp S P R e w hA hn hP hK
   have hrl : (ruEr a.rules e).length ≤ 1000000 := hsm.n
   generalize endT e (ruEr a.rules e) = T at *
   by_cases hT : T ≤ st
   ·rw [if_pos hT] at hi
    cases hi
   rw [if_neg hT, ← Zai hlast] at hi
   have q2 : decide (T ≤ st) = false := decide_eq_false hT
   obtain ⟨r2, hr2, rfl⟩ := Option.map_eq_some_iff.1 hi
   unfold BkR at hru
   generalize ruEr a.rules e = rr at *
   obtain ⟨off, kd, esv, sset, fm, ⟨ui, uy, um, ⟨ud1, ud2, ud3⟩, ⟨uc1, uc2⟩⟩⟩ := e
   simp only [DEra.enc] at hca hin hru
   unfold bookV at hru
   repeat (first | (apply RL_pu; rfl; exact PuErC1) | (apply RD_Q; rfl; rfl; decide +kernel; rfl; rfl; exact QyErC1) | refine walk1 ?_ | (refine RD_G0w ?_; intro F; (first | (apply Zbt (h := hru _); rfl; exact .cons (by repeat' constructor) (.cons (by repeat' constructor) (.refl _)); rintro v O' ⟨A3, c3, m3, S3, rfl, hP3, rfl⟩) | (apply Zah (h := fun w' hw hH => hin A3 c3 w' hw (ZaQ (hH.of (A := .fact S3 (fun w => KnAt a.rules m3 w ∧ RdSl w A3 c3 Zaa.enc 11 rr)) (by repeat' constructor))).2); rfl; rintro v O' ⟨rfl, rfl⟩)); refine ⟨_, EndsA, SubO.right _ _, ?_⟩) | (refine jn ?_; (try intro F); (first | (apply Zbt (h := hru _); rfl; exact .cons (by repeat' constructor) (.cons (by repeat' constructor) (.refl _)); rintro v O' ⟨A3, c3, m3, S3, rfl, hP3, rfl⟩) | (apply Zah (h := fun w' hw hH => hin A3 c3 w' hw (ZaQ (hH.of (A := .fact S3 (fun w => KnAt a.rules m3 w ∧ RdSl w A3 c3 Zaa.enc 11 rr)) (by repeat' constructor))).2); rfl; rintro v O' ⟨rfl, rfl⟩) | (apply Zaq; rfl; rfl; (intro A' c'; (focus repeat' constructor)); (intro w' _ hO; exact Za1 (hO.of (by repeat' constructor))); rfl; rfl; (simp only [maxLen]; omega); omega; intro A' c' hc1 hc2 hc3) | (refine bx ?_; intro bk) | (refine stA ?_) | (apply Zae; first | exact PuErC1 | exact PuA)); first | refine ⟨_, EndsA, QFErC1, ?_⟩ | refine fin ?_) | (apply RD_W; rfl; intro bk))
   exact ⟨⟨k + 1, T, A', c', m + 1, xs ++ (⟨st, T, k⟩ : ZbI).enc, acc ++ [⟨st, T, k⟩], m3, S3, fun w => KnAt a.rules m3 w ∧ RdSl w A3 c3 Zaa.enc 11 rr⟩, OA, ⟨OA, by simp [hm], by rw [hx]; exact Zb9 acc _, OA, hP3, fun _ h => h.1, r2, hr2, by rw [← hacc]; simp⟩, SFA, SOA⟩
  ·have q1 : decide ((k : Int) < (z.eras.length : Int) - 1) = false := decide_eq_false (by omega)
   rw [List.drop_eq_nil_of_le (by omega), spGo] at hi
   cases hi
   obtain ⟨off, kd, esv, sset, fm, ⟨ui, uy, um, ⟨ud1, ud2, ud3⟩, ⟨uc1, uc2⟩⟩⟩ := e
   simp only [DEra.enc] at hca
   repeat (first | (apply RL_pu; rfl; exact PuErC2) | (apply RD_Q; rfl; rfl; decide +kernel; rfl; rfl; exact QyErC2) | refine walk1 ?_ | (refine jn ?_; (try intro F); (first | (apply Zaq; rfl; rfl; (intro A' c'; (focus repeat' constructor)); (intro w' _ hO; exact Za1 (hO.of (by repeat' constructor))); rfl; rfl; (simp only [maxLen]; omega); omega; intro A' c' hc1 hc2 hc3) | (refine bx ?_; intro bk) | (refine stA ?_) | (apply Zae; first | exact PuErC2 | exact PuA)); first | refine ⟨_, EndsA, QFErC2, ?_⟩ | refine fin ?_) | (apply RD_W; rfl; intro bk))
   exact ⟨⟨k + 1, 9223372036854775807, A', c', m + 1, xs ++ (⟨st, 9223372036854775807, k⟩ : ZbI).enc, acc ++ [⟨st, 9223372036854775807, k⟩], mp, S, P⟩, OA, ⟨OA, by simp [hm], by rw [hx]; exact Zb9 acc _, OA, hP, hK, [], by dsimp only; rw [List.drop_eq_nil_of_le (by omega)]; rfl, by rw [List.append_nil]; exact hacc⟩, SFA, SOA⟩
 ·simp only [decide_eq_false_iff_not, Int.ofNat_lt] at hc
  obtain rfl : k = z.eras.length := by omega
  rw [List.drop_length, spGo] at hi
  cases hi
  rw [List.append_nil] at hacc
  subst hacc
  repeat (first | refine walk ?_ | (refine jn ?_; (try intro F); (first | (refine bx ?_; intro bk) | (refine stA ?_) | (apply Zae; exact PuA)); refine fin ?_) | (apply RD_W; rfl; intro bk))
  exact ret_2 _ _ [.row (.slice A acc.length c) 150 3 acc.length (acc.flatMap ZbI.enc)] (.tmp rfl) (.tmp rfl) (by subst hm hx; exact SOA) ⟨A, c, by rw [hm], rfl⟩
end Go.Proofs.YtpcpmndldgejiaaGreatDoor
namespace Go.Proofs.YtpcpmndldgejiaaGreatDoor
open Go.Shelf Go.RowKit Go.Lib
def joinLay_ren : Ren where
 f := fun | 156 => 234 | 165 => 248 | 166 => 249 | 169 => 250 | 240 => 260 | 241 => 261 | 276 => 264 | 277 => 265 | n => n
 t := fun | 31 => 32 | 9 => 9 | 3 => 3 | 4 => 4 | 0 => 0 | 20 => 20 | 72 => 341 | 76 => 343 | 70 => 339 | 37 => 24 | 75 => 318 | 127 => 357 | 164 => 362 | 5 => 5 | 80 => 345 | n => n
 g := fun n => n
theorem joinLay : Lays.n156 Tryz.prog joinLay_ren where
 mixed := by kernel_rfl
 f156 := Tryz.func234.trans (congrArg some (by kernel_rfl))
 f165 := Tryz.func248.trans (congrArg some (by kernel_rfl))
 f166 := Tryz.func249.trans (congrArg some (by kernel_rfl))
 f169 := Tryz.func250.trans (congrArg some (by kernel_rfl))
 f240 := Tryz.func260.trans (congrArg some (by kernel_rfl))
 f241 := Tryz.func261.trans (congrArg some (by kernel_rfl))
 f276 := Tryz.func264.trans (congrArg some (by kernel_rfl))
 f277 := Tryz.func265.trans (congrArg some (by kernel_rfl))
 t0 := Tryz.underlying0
 a0 := Tryz.isAgg0
 z0 := Tryz.sizeOf0
 v0 := Tryz.zeroValue0
 t3 := Tryz.underlying3
 a3 := Tryz.isAgg3
 z3 := Tryz.sizeOf3
 v3 := Tryz.zeroValue3
 t4 := Tryz.underlying4
 a4 := Tryz.isAgg4
 z4 := Tryz.sizeOf4
 v4 := Tryz.zeroValue4
 t9 := Tryz.underlying9
 a9 := Tryz.isAgg9
 z9 := Tryz.sizeOf9
 v9 := Tryz.zeroValue9
 t20 := Tryz.underlying20
 a20 := Tryz.isAgg20
 z20 := Tryz.sizeOf20
 v20 := Tryz.zeroValue20
 t31 := Tryz.underlying32
 a31 := Tryz.isAgg32
 z31 := Tryz.sizeOf32
 v31 := Tryz.zeroValue32
 t37 := Tryz.underlying24
 a37 := Tryz.isAgg24
 z37 := Tryz.sizeOf24
 v37 := Tryz.zeroValue24
 t70 := Tryz.underlying339
 a70 := Tryz.isAgg339
 z70 := Tryz.sizeOf339
 v70 := Tryz.zeroValue339
 t72 := Tryz.underlying341
 a72 := Tryz.isAgg341
 z72 := Tryz.sizeOf341
 v72 := Tryz.zeroValue341
 t75 := Tryz.underlying318
 a75 := Tryz.isAgg318
 z75 := Tryz.sizeOf318
 v75 := Tryz.zeroValue318
 t76 := Tryz.underlying343
 a76 := Tryz.isAgg343
 z76 := Tryz.sizeOf343
 v76 := Tryz.zeroValue343
 t127 := Tryz.underlying357
 a127 := Tryz.isAgg357
 z127 := Tryz.sizeOf357
 v127 := Tryz.zeroValue357
 t164 := Tryz.underlying362
 a164 := Tryz.isAgg362
 z164 := Tryz.sizeOf362
 v164 := Tryz.zeroValue362
def prefLay_ren : Ren where
 f := fun | 99 => 221 | 206 => 243 | n => n
 t := fun | 9 => 9 | 4 => 4 | 3 => 3 | n => n
 g := fun n => n
theorem prefLay : Lays.n99 Tryz.prog prefLay_ren where
 mixed := by kernel_rfl
 f99 := Tryz.func221.trans (congrArg some (by kernel_rfl))
 f206 := Tryz.func243.trans (congrArg some (by kernel_rfl))
 t3 := Tryz.underlying3
 a3 := Tryz.isAgg3
 z3 := Tryz.sizeOf3
 v3 := Tryz.zeroValue3
 t4 := Tryz.underlying4
 a4 := Tryz.isAgg4
 z4 := Tryz.sizeOf4
 v4 := Tryz.zeroValue4
 t9 := Tryz.underlying9
 a9 := Tryz.isAgg9
 z9 := Tryz.sizeOf9
 v9 := Tryz.zeroValue9
def puLay_ren : Ren where
 f := fun | 14 => 220 | 16 => 241 | 17 => 242 | 19 => 253 | 20 => 254 | 21 => 255 | 22 => 256 | 23 => 257 | 24 => 258 | 25 => 262 | 27 => 31 | 26 => 263 | 28 => 69 | 29 => 109 | 30 => 151 | 31 => 152 | 32 => 153 | 33 => 154 | 35 => 187 | 34 => 193 | 36 => 194 | 37 => 195 | 38 => 196 | 39 => 215 | 40 => 216 | n => n
 t := fun | 9 => 9 | 3 => 3 | 22 => 27 | 24 => 318 | 25 => 319 | 4 => 4 | 34 => 348 | 5 => 5 | 36 => 243 | 37 => 24 | 0 => 0 | 39 => 350 | 21 => 21 | 44 => 360 | 47 => 357 | 50 => 367 | 48 => 365 | 2 => 2 | 52 => 251 | 55 => 254 | 59 => 289 | 60 => 28 | 20 => 20 | 61 => 290 | 65 => 333 | 66 => 334 | 67 => 345 | n => n
 g := fun | 0 => 10 | 1 => 11 | 2 => 3 | 3 => 5 | 4 => 6 | n => n
theorem puLay : LaysPu.n14 Tryz.prog puLay_ren where
 mixed := by kernel_rfl
 f14 := Tryz.func220.trans (congrArg some (by kernel_rfl))
 f16 := Tryz.func241.trans (congrArg some (by kernel_rfl))
 f17 := Tryz.func242.trans (congrArg some (by kernel_rfl))
 f19 := Tryz.func253.trans (congrArg some (by kernel_rfl))
 f20 := Tryz.func254.trans (congrArg some (by kernel_rfl))
 f21 := Tryz.func255.trans (congrArg some (by kernel_rfl))
 f22 := Tryz.func256.trans (congrArg some (by kernel_rfl))
 f23 := Tryz.func257.trans (congrArg some (by kernel_rfl))
 f24 := Tryz.func258.trans (congrArg some (by kernel_rfl))
 f25 := Tryz.func262.trans (congrArg some (by kernel_rfl))
 f26 := Tryz.func263.trans (congrArg some (by kernel_rfl))
 f27 := Tryz.func31.trans (congrArg some (by kernel_rfl))
 f28 := Tryz.func69.trans (congrArg some (by kernel_rfl))
 f29 := Tryz.func109.trans (congrArg some (by kernel_rfl))
 f30 := Tryz.func151.trans (congrArg some (by kernel_rfl))
 f31 := Tryz.func152.trans (congrArg some (by kernel_rfl))
 f32 := Tryz.func153.trans (congrArg some (by kernel_rfl))
 f33 := Tryz.func154.trans (congrArg some (by kernel_rfl))
 f34 := Tryz.func193.trans (congrArg some (by kernel_rfl))
 f35 := Tryz.func187.trans (congrArg some (by kernel_rfl))
 f36 := Tryz.func194.trans (congrArg some (by kernel_rfl))
 f37 := Tryz.func195.trans (congrArg some (by kernel_rfl))
 f38 := Tryz.func196.trans (congrArg some (by kernel_rfl))
 f39 := Tryz.func215.trans (congrArg some (by kernel_rfl))
 f40 := Tryz.func216.trans (congrArg some (by kernel_rfl))
 t0 := Tryz.underlying0
 a0 := Tryz.isAgg0
 z0 := Tryz.sizeOf0
 v0 := Tryz.zeroValue0
 t2 := Tryz.underlying2
 a2 := Tryz.isAgg2
 z2 := Tryz.sizeOf2
 v2 := Tryz.zeroValue2
 t3 := Tryz.underlying3
 a3 := Tryz.isAgg3
 z3 := Tryz.sizeOf3
 v3 := Tryz.zeroValue3
 t4 := Tryz.underlying4
 a4 := Tryz.isAgg4
 z4 := Tryz.sizeOf4
 v4 := Tryz.zeroValue4
 t5 := Tryz.underlying5
 a5 := Tryz.isAgg5
 z5 := Tryz.sizeOf5
 v5 := Tryz.zeroValue5
 t9 := Tryz.underlying9
 a9 := Tryz.isAgg9
 z9 := Tryz.sizeOf9
 v9 := Tryz.zeroValue9
 t20 := Tryz.underlying20
 a20 := Tryz.isAgg20
 z20 := Tryz.sizeOf20
 v20 := Tryz.zeroValue20
 t21 := Tryz.underlying21
 a21 := Tryz.isAgg21
 z21 := Tryz.sizeOf21
 v21 := Tryz.zeroValue21
 t22 := Tryz.underlying27
 a22 := Tryz.isAgg27
 z22 := Tryz.sizeOf27
 v22 := Tryz.zeroValue27
 t24 := Tryz.underlying318
 a24 := Tryz.isAgg318
 z24 := Tryz.sizeOf318
 v24 := Tryz.zeroValue318
 t25 := Tryz.underlying319
 a25 := Tryz.isAgg319
 z25 := Tryz.sizeOf319
 v25 := Tryz.zeroValue319
 t34 := Tryz.underlying348
 a34 := Tryz.isAgg348
 z34 := Tryz.sizeOf348
 v34 := Tryz.zeroValue348
 t36 := Tryz.underlying243
 a36 := Tryz.isAgg243
 z36 := Tryz.sizeOf243
 v36 := Tryz.zeroValue243
 t37 := Tryz.underlying24
 a37 := Tryz.isAgg24
 z37 := Tryz.sizeOf24
 v37 := Tryz.zeroValue24
 t39 := Tryz.underlying350
 a39 := Tryz.isAgg350
 z39 := Tryz.sizeOf350
 v39 := Tryz.zeroValue350
 t44 := Tryz.underlying360
 a44 := Tryz.isAgg360
 z44 := Tryz.sizeOf360
 v44 := Tryz.zeroValue360
 t47 := Tryz.underlying357
 a47 := Tryz.isAgg357
 z47 := Tryz.sizeOf357
 v47 := Tryz.zeroValue357
 t48 := Tryz.underlying365
 a48 := Tryz.isAgg365
 z48 := Tryz.sizeOf365
 v48 := Tryz.zeroValue365
 t50 := Tryz.underlying367
 a50 := Tryz.isAgg367
 z50 := Tryz.sizeOf367
 v50 := Tryz.zeroValue367
 t52 := Tryz.underlying251
 a52 := Tryz.isAgg251
 z52 := Tryz.sizeOf251
 v52 := Tryz.zeroValue251
 t55 := Tryz.underlying254
 a55 := Tryz.isAgg254
 z55 := Tryz.sizeOf254
 v55 := Tryz.zeroValue254
 t59 := Tryz.underlying289
 a59 := Tryz.isAgg289
 z59 := Tryz.sizeOf289
 v59 := Tryz.zeroValue289
 t60 := Tryz.underlying28
 a60 := Tryz.isAgg28
 z60 := Tryz.sizeOf28
 v60 := Tryz.zeroValue28
 t61 := Tryz.underlying290
 a61 := Tryz.isAgg290
 z61 := Tryz.sizeOf290
 t65 := Tryz.underlying333
 a65 := Tryz.isAgg333
 z65 := Tryz.sizeOf333
 v65 := Tryz.zeroValue333
 t66 := Tryz.underlying334
 a66 := Tryz.isAgg334
 z66 := Tryz.sizeOf334
 v66 := Tryz.zeroValue334
 t67 := Tryz.underlying345
 a67 := Tryz.isAgg345
 z67 := Tryz.sizeOf345
 v67 := Tryz.zeroValue345
 i0 := by kernel_rfl
 i2 := by kernel_rfl
 i3 := by kernel_rfl
 i4 := by kernel_rfl
 i5 := by kernel_rfl
 i9 := by kernel_rfl
 i20 := by kernel_rfl
 i21 := by kernel_rfl
 i22 := by kernel_rfl
 i24 := by kernel_rfl
 i25 := by kernel_rfl
 i34 := by kernel_rfl
 c34 := by kernel_rfl
 i36 := by kernel_rfl
 i37 := by kernel_rfl
 i39 := by kernel_rfl
 i44 := by kernel_rfl
 i47 := by kernel_rfl
 i48 := by kernel_rfl
 i50 := by kernel_rfl
 i52 := by kernel_rfl
 i55 := by kernel_rfl
 i59 := by kernel_rfl
 i60 := by kernel_rfl
 i65 := by kernel_rfl
 i66 := by kernel_rfl
 i67 := by kernel_rfl
 g0 := by kernel_rfl
 m0 := by kernel_rfl
 g1 := by kernel_rfl
 m1 := by kernel_rfl
 g2 := by kernel_rfl
 m2 := by kernel_rfl
 g3 := by kernel_rfl
 m3 := by kernel_rfl
 g4 := by kernel_rfl
 m4 := by kernel_rfl
def cutLay_ren : Ren where
 f := fun | 145 => 162 | 220 => 201 | 219 => 219 | 217 => 237 | 225 => 238 | 224 => 239 | 267 => 240 | 266 => 251 | 314 => 252 | n => n
 t := fun | 9 => 9 | 4 => 4 | 59 => 211 | 3 => 3 | 5 => 5 | 46 => 243 | 146 => 346 | 51 => 28 | n => n
 g := fun | 1 => 7 | n => n
theorem cutLay : LaysM.n145 Tryz.prog cutLay_ren where
 mixed := by kernel_rfl
 f145 := Tryz.func162.trans (congrArg some (by kernel_rfl))
 f217 := Tryz.func237.trans (congrArg some (by kernel_rfl))
 f219 := Tryz.func219.trans (congrArg some (by kernel_rfl))
 f220 := Tryz.func201.trans (congrArg some (by kernel_rfl))
 f224 := Tryz.func239.trans (congrArg some (by kernel_rfl))
 f225 := Tryz.func238.trans (congrArg some (by kernel_rfl))
 f266 := Tryz.func251.trans (congrArg some (by kernel_rfl))
 f267 := Tryz.func240.trans (congrArg some (by kernel_rfl))
 f314 := Tryz.func252.trans (congrArg some (by kernel_rfl))
 t3 := Tryz.underlying3
 a3 := Tryz.isAgg3
 z3 := Tryz.sizeOf3
 v3 := Tryz.zeroValue3
 t4 := Tryz.underlying4
 a4 := Tryz.isAgg4
 z4 := Tryz.sizeOf4
 v4 := Tryz.zeroValue4
 t5 := Tryz.underlying5
 a5 := Tryz.isAgg5
 z5 := Tryz.sizeOf5
 v5 := Tryz.zeroValue5
 t9 := Tryz.underlying9
 a9 := Tryz.isAgg9
 z9 := Tryz.sizeOf9
 v9 := Tryz.zeroValue9
 t46 := Tryz.underlying243
 a46 := Tryz.isAgg243
 z46 := Tryz.sizeOf243
 v46 := Tryz.zeroValue243
 t51 := Tryz.underlying28
 a51 := Tryz.isAgg28
 z51 := Tryz.sizeOf28
 v51 := Tryz.zeroValue28
 t59 := Tryz.underlying211
 a59 := Tryz.isAgg211
 z59 := Tryz.sizeOf211
 v59 := Tryz.zeroValue211
 t146 := Tryz.underlying346
 a146 := Tryz.isAgg346
 z146 := Tryz.sizeOf346
 v146 := Tryz.zeroValue346
 g1 := by kernel_rfl
 i3 := by kernel_rfl
 i4 := by kernel_rfl
 i5 := by kernel_rfl
 i9 := by kernel_rfl
 i46 := by kernel_rfl
 i51 := by kernel_rfl
 i59 := by kernel_rfl
 i146 := by kernel_rfl
 m1 := by kernel_rfl
 s1_3 := fun w h => cell_of_shapedOpen_int (zero := #[.int .i64 0]) h (by decide) (by kernel_rfl) rfl (by kernel_rfl) (by kernel_rfl) Tryz.underlying3
def ixfLay_ren : Ren where
 f := fun | 15 => 164 | 20 => 203 | n => n
 t := fun | 9 => 9 | 23 => 264 | 3 => 3 | 4 => 4 | 0 => 0 | 21 => 21 | n => n
 g := fun n => n
theorem ixfLay : LaysGw.n15 Tryz.prog ixfLay_ren where
 mixed := by kernel_rfl
 f15 := Tryz.func164.trans (congrArg some (by kernel_rfl))
 f20 := Tryz.func203.trans (congrArg some (by kernel_rfl))
 t0 := Tryz.underlying0
 a0 := Tryz.isAgg0
 z0 := Tryz.sizeOf0
 v0 := Tryz.zeroValue0
 t3 := Tryz.underlying3
 a3 := Tryz.isAgg3
 z3 := Tryz.sizeOf3
 v3 := Tryz.zeroValue3
 t4 := Tryz.underlying4
 a4 := Tryz.isAgg4
 z4 := Tryz.sizeOf4
 v4 := Tryz.zeroValue4
 t9 := Tryz.underlying9
 a9 := Tryz.isAgg9
 z9 := Tryz.sizeOf9
 v9 := Tryz.zeroValue9
 t21 := Tryz.underlying21
 a21 := Tryz.isAgg21
 z21 := Tryz.sizeOf21
 v21 := Tryz.zeroValue21
 t23 := Tryz.underlying264
 a23 := Tryz.isAgg264
 z23 := Tryz.sizeOf264
 v23 := Tryz.zeroValue264
 i0 := by kernel_rfl
 i3 := by kernel_rfl
 i4 := by kernel_rfl
 i9 := by kernel_rfl
 i21 := by kernel_rfl
 i23 := by kernel_rfl
theorem joinExtra : Builder.Extra Tryz.prog joinLay_ren where
 sizeBuilder := by kernel_rfl
 liesBuilder := by kernel_rfl
 t5 := Tryz.underlying5
 a5 := Tryz.isAgg5
 z5 := Tryz.sizeOf5
 v5 := Tryz.zeroValue5
 infoByte := by kernel_rfl
 cellsByte := by kernel_rfl
 sizeByte := by kernel_rfl
 neB5 := by decide
end Go.Proofs.YtpcpmndldgejiaaGreatDoor
namespace Go.Wk
open Go Go.RowKit
theorem cutAt_ix (p : List UInt8) : ∀ (f acc : List UInt8), Zds p f acc = if 0 ≤ Lib.index f p then some (acc ++ f.take (Lib.index f p).toNat, f.drop ((Lib.index f p).toNat + p.length)) else none
 | [], acc => by
  simp only [Zds, Lib.index, List.isEmpty_iff]
  by_cases h : p = []
  ·simp [h]
  ·rw [if_neg h, if_neg h]; rfl
 | c :: l, acc => by
  by_cases h : p.isPrefixOf (c :: l) = true
  ·simp [Zds, Lib.index, h]
  ·have e0 : Lib.index (c :: l) p = if (Lib.index l p == -1) = true then -1 else Lib.index l p + 1 := by rw [Lib.index, if_neg h]
   generalize hI : Lib.index (c :: l) p = I at *
   subst e0
   rw [Zds, if_neg h, cutAt_ix p l]
   clear hI
   have hge := Lib.index_ge l p
   by_cases h2 : Lib.index l p = -1
   ·simp [h2]
   ·rw [if_pos (show 0 ≤ Lib.index l p by omega)]
    have hb : (Lib.index l p == -1) = false := by simpa using h2
    rw [hb]
    simp only [Bool.false_eq_true, if_false]
    rw [if_pos (show 0 ≤ Lib.index l p + 1 by omega)]
    have e : (Lib.index l p + 1).toNat = (Lib.index l p).toNat + 1 := by omega
    rw [e, show (Lib.index l p).toNat + 1 + p.length = ((Lib.index l p).toNat + p.length) + 1 by omega]
    simp
def cutV (f p : List UInt8) : List UInt8 × List UInt8 × Bool := match Zds p f [] with | some (a, b) => (a, b, true) | none => (f, [], false)
theorem cutV_eq (f p : List UInt8) : Lib.cut f p = cutV f p := by
 unfold Lib.cut cutV
 rw [cutAt_ix]
 by_cases h : 0 ≤ Lib.index f p
 ·rw [if_pos h, if_pos h]; rfl
 ·rw [if_neg h, if_neg h]
theorem cutAt_len {p f acc a b : List UInt8} (h : Zds p f acc = some (a, b)) : a.length + b.length + p.length ≤ acc.length + f.length := by
 induction f generalizing acc with
 | nil =>
  simp only [Zds] at h
  split at h
  ·rename_i hp; simp only [Option.some.injEq, Prod.mk.injEq] at h; obtain ⟨rfl, rfl⟩ := h; simp [hp]
  ·cases h
 | cons c l ih =>
  simp only [Zds] at h
  split at h
  ·rename_i hp
   simp only [Option.some.injEq, Prod.mk.injEq] at h
   obtain ⟨rfl, rfl⟩ := h
   have := List.IsPrefix.length_le (List.isPrefixOf_iff_prefix.1 hp)
   rw [List.length_drop]
   omega
  ·have := ih h
   simp only [List.length_append, List.length_cons, List.length_nil] at this ⊢
   omega
end Go.Wk
namespace Go.Proofs.YtpcpmndldgejiaaGreatDoor
open Go Go.RowKit Go.Wk
attribute [local irreducible] W RL Does Zat Zak retQ Calls Pu Stp RD Qy Ay Zam
end Go.Proofs.YtpcpmndldgejiaaGreatDoor
namespace Go.Wk
open Go Go.RowKit
def Zdz (c : Int) : Bool := (decide (c < 65) || decide (90 < c)) && (decide (c < 97) || decide (122 < c))
end Go.Wk
namespace Go.Proofs.YtpcpmndldgejiaaGreatDoor
open Go Go.RowKit Go.Wk
attribute [local irreducible] W RL Does Zat Zak retQ Calls Pu Stp RD Qy Ay Zam
theorem right_spec (s : ByteArray) (ok : Bool) (w : World) : Does Tryz.prog 116 [.string s, .bool ok] w (fun v O => v = .tuple #[.string (if ok then s else ByteArray.empty), .int .i64 (if ok then 0 else 15)] ∧ O = []) := by
 rw [show ByteArray.empty = ⟨#[]⟩ from rfl]
 refine Zab Tryz.func116 rfl rfl rfl rfl ?_
 cases ok
 ·repeat' (first | refine walk ?_ | (refine Zag rfl (fun hc => ?_) (fun hc => ?_)))
  all_goals exact clo2
 ·repeat' (first | refine walk ?_ | (refine Zag rfl (fun hc => ?_) (fun hc => ?_)))
  all_goals exact clo2
end Go.Proofs.YtpcpmndldgejiaaGreatDoor
