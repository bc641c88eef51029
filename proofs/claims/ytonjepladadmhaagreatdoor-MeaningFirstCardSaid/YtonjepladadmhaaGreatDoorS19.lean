/- Contract: state.Instant. Contract: state.At. Plain functions: dates of rules (layer 38). Contracts: until.base, save, Instant. Contracts: eras.Find, slices.IndexFunc at spans. Contract: ruleset.Of. Contract: eras.book.rules. -/
import Derived.Test.YtonjepladadmhaaGreatDoorS18
import Derived.Test.YtonjepladadmhaaGreatDoorS13
import Derived.Test.YtonjepladadmhaaGreatDoorS08
import Derived.Test.YtonjepladadmhaaGreatDoorS15
import Derived.Test.YtonjepladadmhaaGreatDoorS14
set_option maxHeartbeats 4000000
set_option linter.unusedVariables false
set_option linter.unusedSimpArgs false
namespace Go.Proofs.YtonjepladadmhaaGreatDoor
open Go Go.RowKit Go.Wk
attribute [local irreducible] W RL Does thenQ blockQ retQ Calls Pu Stp RD Qy Ay DoesIn
theorem ruE_bd {l : List DRule} (h : RsSm l) (e : DEvent) : -1000000000 ≤ (ruE l e).save ∧ (ruE l e).save ≤ 1000000000 := by
 unfold ruE
 rw [List.getD_eq_getElem?_getD]
 cases hx : l[e.rule.toNat]? with
 | none => exact ⟨by decide, by decide⟩
 | some r => exact h.s r (List.mem_of_getElem? hx)
theorem iniS_bd {l : List DRule} (h : RsSm l) : -1000000000 ≤ (iniS l).1 ∧ (iniS l).1 ≤ 1000000000 := by
 unfold iniS
 cases fstD l true 0 with
 | none =>
  dsimp only
  exact ⟨by decide, by decide⟩
 | some e =>
  dsimp only
  cases fstD l false (ruE l e).save with
  | none => exact ruE_bd h e
  | some o => exact ruE_bd h o
theorem befS_bd {l : List DRule} (h : RsSm l) (n : Int) : -1000000000 ≤ (befS l n).1 ∧ (befS l n).1 ≤ 1000000000 := by
 unfold befS
 cases befD l n with
 | none => exact iniS_bd h
 | some e => exact ruE_bd h e
theorem PuStK1 {G : Prop} (h : G := by (apply Pu_eqlB; rfl; rfl; first | exact q0 | exact q1)) : G := h
set_option maxHeartbeats 4000000 in
theorem inst_spec (A : Option Addr) (c : Nat) (l : List DRule) (e : DEvent) (off : Int) (w : World) (hG : Glob w) (hA : RdSl w A c DRule.enc 11 l) (h : RsSm l) (he : 0 ≤ e.rule ∧ e.rule < l.length) (hnm : -1000000000000000000 ≤ e.nominal ∧ e.nominal ≤ 1000000000000000000) (ho : -1000000000 ≤ off ∧ off ≤ 1000000000) :
  Does Tryz.prog 29 [.slice A l.length c, .agg e.enc.toArray, .int .i64 off] w (fun v O => v = .int .i64 (instE l e off) ∧ O = []) := by
 have hle := hA.le
 have hcp := hA.cap
 simp only [maxLen] at hcp
 obtain ⟨ru, hru⟩ : ∃ ru, l[e.rule.toNat]? = some ru := ⟨_, List.getElem?_eq_getElem (by omega)⟩
 obtain ⟨hna, hca⟩ := hA.rd _ _ hru
 have hba := fun w' (hw : Bel w.heap.size w w') => base19_spec A c l w' (hA.up hw)
 have hbf := fun w' (hw : Bel w.heap.size w w') => stBefore_spec A c l e.nominal w' (hG.up hw) (hA.up hw) h (by omega)
 have hbd := befS_bd h e.nominal
 have hld := leastD_le l h.r
 have hld2 : -1000000000 ≤ max (leastD l) (-10800) ∧ max (leastD l) (-10800) ≤ 0 := by omega
 unfold instE
 rw [ruE_at hru]
 obtain ⟨ey, er, en⟩ := e
 dsimp only at he hnm hru hca hbf hbd ⊢
 have b1 : decide (er < 0) = false := decide_eq_false (by omega)
 have b2 : decide ((l.length : Int) ≤ er) = false := decide_eq_false (by omega)
 have hcb : w.cell? ((((adr A).add (er.toNat * 11)).add 7).add 1) = some (.int .i64 ru.at_.base) := by
  rw [add_of_add]
  exact hca 8 _ rfl
 clear hru hca
 generalize ru.at_.base = rb at *
 generalize max (leastD l) (-10800) = mb at *
 unfold stV at hbf
 generalize befS l en = st at *
 obtain ⟨sv, sl⟩ := st
 dsimp only at hbd hbf ⊢
 show Does _ _ [_, .agg #[.int .i64 ey, .int .i64 er, .int .i64 en], _] w _
 refine Does_of_W Tryz.func29 rfl rfl rfl rfl ?_
 repeat (first | refine und ?_ | (apply RL_pu; rfl; (first | (apply Pu_lssB; rfl; rfl; exact b1) | (apply Pu_geqB; rfl; rfl; exact b2) | exact PuI | (apply Pu_loadO1; rfl; exact hcb))) | (refine js ?_; (refine bx ?_; intro bk)) | refine walk1 ?_)
 rename_i b4 b7
 generalize bk = b8
 refine W_cond rfl (fun hc => ?_) (fun hc => ?_)
 ·obtain rfl : rb = 1 := of_decide_eq_true hc
  rw [if_pos rfl]
  obtain ⟨x1, hx1⟩ : ∃ x1, mb = x1 := ⟨_, rfl⟩
  rw [hx1] at hba hld2 ⊢
  repeat (first | (refine js ?_; (first | (refine callE hba ?_) | (apply Stp_callVIn (f := 72) (us := []) (vs := [.int .i64 x1]) (cs := [.pointer (some ⟨b7, 0, none⟩), .pointer (some ⟨b8, 0, none⟩)]) (h := inst1_spec (.blk b4 [.int .i64 ey, .int .i64 er, .int .i64 en] 84) x1 en b7 b8 w (by omega) (by omega)); rfl; rfl; exact SOA; rintro v O' ⟨rfl, rfl⟩) | (apply Stp_callVIn (f := 72) (us := []) (vs := [.int .i64 off]) (cs := [.pointer (some ⟨b7, 0, none⟩), .pointer (some ⟨b8, 0, none⟩)]) (h := inst1_spec (.blk b4 [.int .i64 ey, .int .i64 er, .int .i64 en] 84) off (en - x1) b7 b8 w (by omega) (by omega)); rfl; rfl; exact SOA; rintro v O' ⟨rfl, rfl⟩) | (refine bx ?_; intro bk))) | refine walk ?_)
  exact rtA
 ·have hn1 : ¬ rb = 1 := of_decide_eq_false hc
  have q1 : decide (rb = 1) = false := decide_eq_false hn1
  rw [if_neg hn1]
  by_cases h0 : rb = 0
  ·have q0 : decide (rb = 0) = true := decide_eq_true h0
   rw [if_pos h0]
   obtain ⟨x1, hx1⟩ : ∃ x1, sv = x1 := ⟨_, rfl⟩
   rw [hx1] at hbf hbd ⊢
   repeat (first | (apply RL_pu; rfl; exact PuStK1) | (refine js ?_; (first | (refine callE hbf ?_) | (apply Stp_callVIn (f := 72) (us := []) (vs := [.int .i64 x1]) (cs := [.pointer (some ⟨b7, 0, none⟩), .pointer (some ⟨b8, 0, none⟩)]) (h := inst1_spec (.blk b4 [.int .i64 ey, .int .i64 er, .int .i64 en] 84) x1 en b7 b8 w (by omega) (by omega)); rfl; rfl; exact SOA; rintro v O' ⟨rfl, rfl⟩) | (apply Stp_callVIn (f := 72) (us := []) (vs := [.int .i64 off]) (cs := [.pointer (some ⟨b7, 0, none⟩), .pointer (some ⟨b8, 0, none⟩)]) (h := inst1_spec (.blk b4 [.int .i64 ey, .int .i64 er, .int .i64 en] 84) off (en - x1) b7 b8 w (by omega) (by omega)); rfl; rfl; exact SOA; rintro v O' ⟨rfl, rfl⟩) | (refine bx ?_; intro bk))) | refine walk1 ?_)
   exact rtA
  ·have q0 : decide (rb = 0) = false := decide_eq_false h0
   rw [if_neg h0]
   repeat (first | (apply RL_pu; rfl; exact PuStK1) | (refine js ?_; (refine bx ?_; intro bk)) | refine walk1 ?_)
   exact rtA
end Go.Proofs.YtonjepladadmhaaGreatDoor
namespace Go.Wk
open Go Go.RowKit
def atGo (l : List DRule) (off t : Int) : Nat → Int → Int × ByteArray
 | 0, nm => befS l nm
 | k + 1, nm => match befD l nm with
  | none => iniS l
  | some e => if instE l e off ≤ t then behS l e else atGo l off t k e.nominal
def atS (l : List DRule) (off t : Int) : Int × ByteArray := atGo l off t 3 (t + 259200)
end Go.Wk
namespace Go.Proofs.YtonjepladadmhaaGreatDoor
open Go Go.RowKit Go.Wk
attribute [local irreducible] W RL Does thenQ blockQ retQ Calls Pu Stp RD Qy Ay DoesIn
theorem beIn_bd (least nominal : Int) (hl : least ≤ 0) (r : DRule) (i : Int) : ∀ (k : Nat) (y : Int), EvOk (beIn least nominal r i y k)
 | 0, _ => fun e he => by cases he
 | k + 1, y => by
  rw [beIn]
  have h := onR_bd least hl r i y
  split
  ·rename_i e he
   split
   ·intro e2 h2; cases h2; exact h e he
   ·exact beIn_bd least nominal hl r i k (y - 1)
  ·exact beIn_bd least nominal hl r i k (y - 1)
theorem befGo_bd (least nominal yr : Int) (hl : least ≤ 0) : ∀ (l : List DRule) (i : Nat) (b : Option DEvent), EvOk b → EvOk (befGo least nominal yr l i b)
 | [], _, _, h => h
 | r :: l, i, b, h => by
  rw [befGo]
  refine befGo_bd least nominal yr hl l (i + 1) _ ?_
  have he := beIn_bd least nominal hl r i 20 (min (lastY r) (yr + 2))
  generalize beIn least nominal r i (min (lastY r) (yr + 2)) 20 = o at *
  cases o with
  | none => exact h
  | some e =>
   cases b with
   | none => exact he
   | some x =>
    dsimp only
    split
    ·exact he
    ·exact h
theorem befD_bd {l : List DRule} (h : RsSm l) (n : Int) : EvOk (befD l n) := befGo_bd _ _ _ (leastD_le l h.r).2 l 0 none fun e he => by cases he
structure AtG where
 k : Nat
 nm : Int
theorem PuStL0 {G : Prop} (h : G := by (apply Pu_leqB; rfl; rfl; exact q1)) : G := h
set_option maxHeartbeats 4000000 in
theorem stAt_spec (A : Option Addr) (c : Nat) (l : List DRule) (off t : Int) (w : World) (hG : Glob w) (hA : RdSl w A c DRule.enc 11 l) (h : RsSm l) (ho : -1000000000 ≤ off ∧ off ≤ 1000000000) (ht : -1000000000000000000 ≤ t ∧ t ≤ 1000000000000000000) :
  Does Tryz.prog 298 [.slice A l.length c, .int .i64 off, .int .i64 t] w (fun v O => v = stV (atS l off t) ∧ O = []) := by
 have hadd := fun w' => add_spec t 259200 (by omega) w'
 have hbf := fun nm (hb : -4611686018427387904 ≤ nm ∧ nm ≤ 4611686018427387904) w' (hw : Bel w.heap.size w w') => evBefore_spec A c l nm w' (hG.up hw) (hA.up hw) h.n h.b hb
 have hib := fun w' (hw : Bel w.heap.size w w') => initial_spec A c l w' (hG.up hw) (hA.up hw) h
 have hst := fun nm (hb : -4611686018427387904 ≤ nm ∧ nm ≤ 4611686018427387904) w' (hw : Bel w.heap.size w w') => stBefore_spec A c l nm w' (hG.up hw) (hA.up hw) h hb
 obtain ⟨res, hres⟩ : ∃ res, atS l off t = res := ⟨_, rfl⟩
 rw [hres]
 unfold atS at hres
 unfold stV at hib hst ⊢
 refine Does_of_W Tryz.func298 rfl rfl rfl rfl ?_
 repeat (first | (refine js ?_; (first | (refine callE (fun w' _ => hadd w') ?_) | (refine bx ?_; intro bk))) | refine walk ?_)
 generalize bk = b6
 refine W_loopF [(0, .slice A l.length c), (1, .int .i64 off), (2, .int .i64 t), (6, .pointer (some ⟨b6, 0, none⟩))] [.blk b6 [.int .i64 0, .string ByteArray.empty] 88] (fun g : AtG => [(18, .int .i64 g.k), (7, .int .i64 g.nm)]) (fun _ => []) (fun g => g.k ≤ 3 ∧ (-4611686018427387904 ≤ g.nm ∧ g.nm ≤ 4611686018427387904) ∧ atGo l off t (3 - g.k) g.nm = res) (fun g => 3 - g.k) ⟨0, t + 259200⟩ SFA SOA ⟨Nat.zero_le _, by dsimp only; omega, hres⟩ ?_
 clear hres
 rintro ⟨k, nm⟩ ⟨hk, hnb, hi⟩
 dsimp only at hk hnb hi ⊢
 repeat (first | (refine js ?_; (refine bx ?_; intro bk)) | refine walk ?_)
 refine W_cond rfl (fun hc => ?_) (fun hc => ?_)
 ·have hk3 : k < 3 := by have := of_decide_eq_true hc; omega
  have hb1 := hbf nm hnb
  have hat := befD_at l nm
  have hbd := befD_bd h nm
  rw [show 3 - k = (2 - k) + 1 by omega, atGo] at hi
  generalize befD l nm = o at *
  rcases o with _ | ⟨ey, er, en⟩
  ·dsimp only at hi
   subst hi
   simp only [evV, DEvent.enc, dEv0, Option.isSome] at hb1
   repeat (first | (refine js ?_; (first | (refine callE hb1 ?_) | (refine callE hib ?_) | (refine bx ?_; intro bk))) | refine walk ?_)
   exact ret_1 _ [] (.cellB rfl (by repeat' constructor) rfl rfl) .nil ⟨rfl, rfl⟩
  ·dsimp only at hi
   have hen := hbd _ rfl
   dsimp only at hen
   simp only [evV, DEvent.enc, Option.isSome] at hb1
   have hins := fun w' (hw : Bel w.heap.size w w') => inst_spec A c l ⟨ey, er, en⟩ off w' (hG.up hw) (hA.up hw) h (hat _ rfl) (by dsimp only; omega) ho
   have hbh := fun w' (hw : Bel w.heap.size w w') => behind_spec19 A c l ⟨ey, er, en⟩ w' (hA.up hw) (hat _ rfl)
   unfold stV at hbh
   generalize instE l ⟨ey, er, en⟩ off = I at *
   by_cases hle : I ≤ t
   ·have q1 : decide (I ≤ t) = true := decide_eq_true hle
    rw [if_pos hle] at hi
    subst hi
    repeat (first | (apply RL_pu; rfl; exact PuStL0) | (refine js ?_; (first | (refine callE hb1 ?_) | (refine callE hins ?_) | (refine callE hbh ?_) | (refine bx ?_; intro bk))) | refine walk1 ?_)
    exact ret_1 _ [] (.cellB rfl (by repeat' constructor) rfl rfl) .nil ⟨rfl, rfl⟩
   ·have q1 : decide (I ≤ t) = false := decide_eq_false hle
    rw [if_neg hle] at hi
    repeat (first | (apply RL_pu; rfl; exact PuStL0) | (refine js ?_; (first | (refine callE hb1 ?_) | (refine callE hins ?_) | (refine bx ?_; intro bk))) | refine walk1 ?_)
    exact ⟨⟨k + 1, en⟩, OA, ⟨OA, by dsimp only; omega, by dsimp only; rw [show 3 - (k + 1) = 2 - k by omega]; exact hi⟩, SFA, SOA⟩
 ·obtain rfl : k = 3 := by have := of_decide_eq_false hc; omega
  have hs := hst nm hnb
  rw [show atGo l off t (3 - 3) nm = befS l nm from rfl] at hi
  subst hi
  repeat (first | (refine js ?_; (first | (refine callE hs ?_) | (refine bx ?_; intro bk))) | refine walk ?_)
  exact ret_1 _ [] (.cellB rfl (by repeat' constructor) rfl rfl) .nil ⟨rfl, rfl⟩
end Go.Proofs.YtonjepladadmhaaGreatDoor
namespace Go.Wk
open Go Go.RowKit
structure DDate where
 kind : Int
 day : Int
 month : Int
 week : Int
 sec : Int
deriving DecidableEq
def DDate.enc (x : DDate) : List Value := [.int .i64 x.kind, .int .i64 x.day, .int .i64 x.month, .int .i64 x.week, .int .i64 x.sec]
def dt0 : DDate := ⟨0, 0, 0, 0, 0⟩
def inClk (n : Int) : Bool := decide (-604799 ≤ n) && decide (n ≤ 604799)
def bsE (e : DEra) (l : List DRule) : Int := if e.kind = 2 then max (leastD l) (-10800) else 0
def bfE (e : DEra) (l : List DRule) (nm : Int) : Int := if e.kind = 1 then e.save else if e.kind = 2 then (befS l nm).1 else 0
def endB (e : DEra) (l : List DRule) : Int := bfE e l (nominalU e.til (bsE e l)).1
def endT (e : DEra) (l : List DRule) : Int :=
 if e.til.at_.base = 0 then 86400 * (onD e.til.year e.til.month e.til.day).1 + e.til.at_.sec - endB e l - e.off
 else if e.til.at_.base = 1 then 86400 * (onD e.til.year e.til.month e.til.day).1 + e.til.at_.sec - e.off
 else 86400 * (onD e.til.year e.til.month e.til.day).1 + e.til.at_.sec
structure UnOk (e : DEra) (l : List DRule) : Prop where
 k : 0 ≤ e.kind ∧ e.kind ≤ 2
 o : inClk e.off = true
 s : inClk e.save = true
 c : untilChk e.til (bsE e l) = 0
 b : inClk (endB e l) = true
end Go.Wk
namespace Go.Proofs.YtonjepladadmhaaGreatDoor
open Go Go.RowKit Go.Wk
attribute [local irreducible] W RL Does thenQ blockQ retQ Calls Pu Stp RD Qy Ay DoesIn
theorem inClk_bd {n : Int} (h : inClk n = true) : -604799 ≤ n ∧ n ≤ 604799 := by
 unfold inClk at h
 simpa using h
theorem PuUnI0 {G : Prop} (h : G := by (first | (apply Pu_neg64; rfl; (constructor <;> omega)) | (apply Pu_geqB; rfl; rfl; exact b1))) : G := h
theorem uwithin_spec (n : Int) (w : World) : Does Tryz.prog 124 [.int .i64 n, .int .i64 604799] w (fun v O => v = .bool (inClk n) ∧ O = []) := by
 unfold inClk
 refine Does_of_W Tryz.func124 rfl rfl rfl rfl ?_
 by_cases h : -604799 ≤ n
 ·have b1 : decide (-604799 ≤ n) = true := decide_eq_true h
  rw [b1, Bool.true_and]
  repeat (first | refine und ?_ | (apply RL_pu; rfl; exact PuUnI0) | refine walk1 ?_)
  exact rtA
 ·have b1 : decide (-604799 ≤ n) = false := decide_eq_false h
  rw [b1, Bool.false_and]
  repeat (first | refine und ?_ | (apply RL_pu; rfl; exact PuUnI0) | refine walk1 ?_)
  exact rtA
theorem ubase_spec (e : DEra) (A : Option Addr) (c : Nat) (l : List DRule) (w : World) (hA : RdSl w A c DRule.enc 11 l) : Does Tryz.prog 126 [.agg e.enc.toArray, .slice A l.length c] w (fun v O => v = .int .i64 (bsE e l) ∧ O = []) := by
 have hl := fun w' (hw : Bel w.heap.size w w') => least_spec A c l w' (hA.up hw)
 unfold bsE
 generalize leastD l = m at *
 have hmx : (if m < -10800 then -10800 else m) = max m (-10800) := by split <;> omega
 obtain ⟨off, kd, esv, st, fm, ⟨ui, uy, um, ⟨ud1, ud2, ud3⟩, ⟨uc1, uc2⟩⟩⟩ := e
 dsimp only
 show Does _ _ [.agg #[.int .i64 off, .int .i64 kd, .int .i64 esv, .string st, .string fm, .bool ui, .int .i64 uy, .int .i64 um, .int .i64 ud1, .int .i64 ud2, .int .i64 ud3, .int .i64 uc1, .int .i64 uc2], _] w _
 refine Does_of_W Tryz.func126 rfl rfl rfl rfl ?_
 by_cases h : kd = 2
 ·have b1 : (!decide (kd = 2)) = false := by rw [decide_eq_true h]; rfl
  rw [if_pos h]
  repeat (first | (apply RL_pu; rfl; (first | (apply Pu_neqB'; rfl; rfl; exact b1) | (apply Pu_maxK; rfl; rfl; exact hmx))) | (refine js ?_; (first | (refine callE hl ?_) | (refine bx ?_; intro bk))) | refine walk1 ?_)
  exact rtA
 ·have b1 : (!decide (kd = 2)) = true := by rw [decide_eq_false h]; rfl
  rw [if_neg h]
  repeat (first | (apply RL_pu; rfl; (apply Pu_neqB'; rfl; rfl; exact b1)) | (refine js ?_; (refine bx ?_; intro bk)) | refine walk1 ?_)
  exact rtA
theorem PuUnI4 {G : Prop} (h : G := by (apply Pu_eqlB; rfl; rfl; first | exact b1 | exact b2)) : G := h
theorem usave_spec (e : DEra) (A : Option Addr) (c : Nat) (l : List DRule) (nm : Int) (w : World) (hG : Glob w) (hA : RdSl w A c DRule.enc 11 l) (h : RsSm l) (hn : -4611686018427387904 ≤ nm ∧ nm ≤ 4611686018427387904) :
  Does Tryz.prog 127 [.agg e.enc.toArray, .slice A l.length c, .int .i64 nm] w (fun v O => v = .int .i64 (bfE e l nm) ∧ O = []) := by
 have hb := fun w' (hw : Bel w.heap.size w w') => stBefore_spec A c l nm w' (hG.up hw) (hA.up hw) h hn
 unfold bfE
 unfold stV at hb
 generalize befS l nm = x at *
 obtain ⟨sv, sl⟩ := x
 obtain ⟨off, kd, esv, st, fm, ⟨ui, uy, um, ⟨ud1, ud2, ud3⟩, ⟨uc1, uc2⟩⟩⟩ := e
 dsimp only at hb ⊢
 show Does _ _ [.agg #[.int .i64 off, .int .i64 kd, .int .i64 esv, .string st, .string fm, .bool ui, .int .i64 uy, .int .i64 um, .int .i64 ud1, .int .i64 ud2, .int .i64 ud3, .int .i64 uc1, .int .i64 uc2], _, _] w _
 refine Does_of_W Tryz.func127 rfl rfl rfl rfl ?_
 by_cases h1 : kd = 1
 ·have b1 : decide (kd = 1) = true := decide_eq_true h1
  rw [if_pos h1]
  repeat (first | (apply RL_pu; rfl; (apply Pu_eqlB; rfl; rfl; exact b1)) | (refine js ?_; (refine bx ?_; intro bk)) | refine walk1 ?_)
  exact rtA
 ·have b1 : decide (kd = 1) = false := decide_eq_false h1
  rw [if_neg h1]
  by_cases h2 : kd = 2
  ·have b2 : decide (kd = 2) = true := decide_eq_true h2
   rw [if_pos h2]
   repeat (first | (apply RL_pu; rfl; exact PuUnI4) | (refine js ?_; (first | (refine callE hb ?_) | (refine bx ?_; intro bk))) | refine walk1 ?_)
   exact rtA
  ·have b2 : decide (kd = 2) = false := decide_eq_false h2
   rw [if_neg h2]
   repeat (first | (apply RL_pu; rfl; exact PuUnI4) | (refine js ?_; (refine bx ?_; intro bk)) | refine walk1 ?_)
   exact rtA
theorem PuUnI5 {G : Prop} (h : G := by (first | (apply Pu_lssB; rfl; rfl; exact t1) | (apply Pu_gtrB; rfl; rfl; exact t2) | (apply Pu_eqlB; rfl; rfl; first | exact k1 | exact u0 | exact u1))) : G := h
theorem QyUnI5 {G : Prop} (h : G := by first | (apply Qy_y; rfl; exact PuUnI5) | exact QyA) : G := h
theorem QFUnI5 {G : Prop} (h : G := by repeat (first | exact QF.nil | (apply QF.mk; rfl; rfl; decide +kernel; exact QyUnI5))) : G := h
theorem wkUnI0 {G G' : Prop} (k : G') (h : Hold G' → G := by intro k9; (first | refine und ?_ | (apply RL_pu; rfl; exact PuUnI5) | (apply RD_Q; rfl; rfl; decide +kernel; rfl; rfl; exact QyUnI5) | refine walk1 ?_ | (refine jg ?_; (try intro F); (first | (refine callE (fun w' _ => w1 w') ?_) | (refine callE (fun w' _ => w2 w') ?_) | (refine callE (fun w' _ => w3 w') ?_) | (refine callE hb ?_) | (refine callE hn ?_) | (refine callE hs ?_) | (refine callE hc ?_)); first | refine ⟨_, EndsA, QFUnI5, ?_⟩ | refine fin ?_) | (refine jn ?_; (try intro F); (apply Stp_pu; first | exact PuUnI5 | exact PuA); first | refine ⟨_, EndsA, QFUnI5, ?_⟩ | refine fin ?_)); exact k9.out) : G := h ⟨k⟩
set_option maxHeartbeats 4000000 in
theorem uinst_spec (e : DEra) (A : Option Addr) (c : Nat) (l : List DRule) (w : World) (hG : Glob w) (hA : RdSl w A c DRule.enc 11 l) (h : RsSm l) (hu : UnOk e l) :
  Does Tryz.prog 75 [.agg e.enc.toArray, .slice A l.length c] w (fun v O => v = .tuple #[.int .i64 (endT e l), .int .i64 0] ∧ O = []) := by
 have w1 := fun w' => uwithin_spec e.off w'
 have w2 := fun w' => uwithin_spec e.save w'
 have w3 := fun w' => uwithin_spec (endB e l) w'
 rw [hu.o] at w1
 rw [hu.s] at w2
 rw [hu.b] at w3
 have ho := inClk_bd hu.o
 have hbb := inClk_bd hu.b
 obtain ⟨_, hcl⟩ := untilChk_ok hu.c
 have hb := fun w' (hw : Bel w.heap.size w w') => ubase_spec e A c l w' (hA.up hw)
 have hn := fun w' (hw : Bel w.heap.size w w') => nominal_spec e.til (bsE e l) w' (hG.up hw)
 have hn2 : (nominalU e.til (bsE e l)).2 = 0 := by
  unfold nominalU
  rw [if_neg (by rw [hu.c]; decide)]
 have hnb : -4611686018427387904 ≤ (nominalU e.til (bsE e l)).1 ∧ (nominalU e.til (bsE e l)).1 ≤ 4611686018427387904 := by
  have h1 := onD_bd e.til.year e.til.month e.til.day
  have h2 := (untilChk_ok hu.c).1
  unfold nominalU
  rw [if_neg (by rw [hu.c]; decide)]
  dsimp only
  split <;> omega
 have hs := fun w' (hw : Bel w.heap.size w w') => usave_spec e A c l (nominalU e.til (bsE e l)).1 w' (hG.up hw) (hA.up hw) h hnb
 have hc := fun w' (hw : Bel w.heap.size w w') => seconds_spec e.til hcl w' (hG.up hw)
 have hob := onD_bd e.til.year e.til.month e.til.day
 have hk := hu.k
 rw [hn2] at hn
 change ∀ w', Bel w.heap.size w w' → Does _ _ _ w' (fun v O => v = .int .i64 (endB e l) ∧ O = []) at hs
 unfold endT
 generalize endB e l = bf at *
 generalize (nominalU e.til (bsE e l)).1 = nm at *
 generalize bsE e l = bs at *
 generalize (onD e.til.year e.til.month e.til.day).1 = dn at *
 clear hu hG hA h hn2 hnb
 obtain ⟨off, kd, esv, st, fm, ⟨ui, uy, um, ⟨ud1, ud2, ud3⟩, ⟨uc1, uc2⟩⟩⟩ := e
 dsimp only at ho hcl hk w1 w2 hc ⊢
 have t1 : decide (kd < 0) = false := decide_eq_false (by omega)
 have t2 : decide (2 < kd) = false := decide_eq_false (by omega)
 show Does _ _ [.agg #[.int .i64 off, .int .i64 kd, .int .i64 esv, .string st, .string fm, .bool ui, .int .i64 uy, .int .i64 um, .int .i64 ud1, .int .i64 ud2, .int .i64 ud3, .int .i64 uc1, .int .i64 uc2], _] w _
 by_cases h0 : uc2 = 0
 ·have u0 : decide (uc2 = 0) = true := decide_eq_true h0
  rw [if_pos h0]
  by_cases h1 : kd = 1
  ·have k1 : decide (kd = 1) = true := decide_eq_true h1
   refine Does_of_W Tryz.func75 rfl rfl rfl rfl ?_
   repeat (first | refine wkUnI0 ?_ | (refine jg ?_; (try intro F); (refine bx ?_; intro bk); first | refine ⟨_, EndsA, QFUnI5, ?_⟩ | refine fin ?_) | (refine jn ?_; (try intro F); (refine bx ?_; intro bk); first | refine ⟨_, EndsA, QFUnI5, ?_⟩ | refine fin ?_))
   exact rtB
  ·have k1 : decide (kd = 1) = false := decide_eq_false h1
   refine Does_of_W Tryz.func75 rfl rfl rfl rfl ?_
   repeat (first | refine wkUnI0 ?_ | (refine jg ?_; (try intro F); (refine bx ?_; intro bk); first | refine ⟨_, EndsA, QFUnI5, ?_⟩ | refine fin ?_) | (refine jn ?_; (try intro F); (refine bx ?_; intro bk); first | refine ⟨_, EndsA, QFUnI5, ?_⟩ | refine fin ?_))
   exact rtB
 ·have u0 : decide (uc2 = 0) = false := decide_eq_false h0
  rw [if_neg h0]
  by_cases h2 : uc2 = 1
  ·have u1 : decide (uc2 = 1) = true := decide_eq_true h2
   rw [if_pos h2]
   by_cases h1 : kd = 1
   ·have k1 : decide (kd = 1) = true := decide_eq_true h1
    refine Does_of_W Tryz.func75 rfl rfl rfl rfl ?_
    repeat (first | refine wkUnI0 ?_ | (refine jg ?_; (try intro F); (refine bx ?_; intro bk); first | refine ⟨_, EndsA, QFUnI5, ?_⟩ | refine fin ?_) | (refine jn ?_; (try intro F); (refine bx ?_; intro bk); first | refine ⟨_, EndsA, QFUnI5, ?_⟩ | refine fin ?_))
    exact rtB
   ·have k1 : decide (kd = 1) = false := decide_eq_false h1
    refine Does_of_W Tryz.func75 rfl rfl rfl rfl ?_
    repeat (first | refine wkUnI0 ?_ | (refine jg ?_; (try intro F); (refine bx ?_; intro bk); first | refine ⟨_, EndsA, QFUnI5, ?_⟩ | refine fin ?_) | (refine jn ?_; (try intro F); (refine bx ?_; intro bk); first | refine ⟨_, EndsA, QFUnI5, ?_⟩ | refine fin ?_))
    exact rtB
  ·have u1 : decide (uc2 = 1) = false := decide_eq_false h2
   rw [if_neg h2]
   by_cases h1 : kd = 1
   ·have k1 : decide (kd = 1) = true := decide_eq_true h1
    refine Does_of_W Tryz.func75 rfl rfl rfl rfl ?_
    repeat (first | refine wkUnI0 ?_ | (refine jg ?_; (try intro F); (refine bx ?_; intro bk); first | refine ⟨_, EndsA, QFUnI5, ?_⟩ | refine fin ?_) | (refine jn ?_; (try intro F); (refine bx ?_; intro bk); first | refine ⟨_, EndsA, QFUnI5, ?_⟩ | refine fin ?_))
    exact rtB
   ·have k1 : decide (kd = 1) = false := decide_eq_false h1
    refine Does_of_W Tryz.func75 rfl rfl rfl rfl ?_
    repeat (first | refine wkUnI0 ?_ | (refine jg ?_; (try intro F); (refine bx ?_; intro bk); first | refine ⟨_, EndsA, QFUnI5, ?_⟩ | refine fin ?_) | (refine jn ?_; (try intro F); (refine bx ?_; intro bk); first | refine ⟨_, EndsA, QFUnI5, ?_⟩ | refine fin ?_))
    exact rtB
end Go.Proofs.YtonjepladadmhaaGreatDoor
namespace Go.Wk
open Go Go.RowKit
structure DSpan where
 start : Int
 fin : Int
 era : Int
deriving DecidableEq
def DSpan.enc (x : DSpan) : List Value := [.int .i64 x.start, .int .i64 x.fin, .int .i64 x.era]
theorem DSpan.len (x : DSpan) : x.enc.length = 3 := rfl
def spIn (t : Int) (x : DSpan) : Bool := decide (x.start ≤ t) && decide (t < x.fin)
def spIdx (t : Int) : List DSpan → Nat → Int
 | [], _ => -1
 | x :: l, i => if spIn t x then i else spIdx t l (i + 1)
def sp0 : DSpan := ⟨0, 0, 0⟩
def spFind (l : List DSpan) (t : Int) : DSpan × Bool := if spIdx t l 0 < 0 then (sp0, false) else (l.getD (spIdx t l 0).toNat sp0, true)
theorem spIdx_rng (t : Int) : ∀ (l : List DSpan) (i : Nat), spIdx t l i = -1 ∨ ((i : Int) ≤ spIdx t l i ∧ spIdx t l i < i + l.length)
 | [], i => .inl rfl
 | x :: l, i => by
  rw [spIdx]
  split
  ·right
   simp
   omega
  ·rcases spIdx_rng t l (i + 1) with h | h
   ·exact .inl h
   ·right
    rw [List.length_cons]
    omega
end Go.Wk
namespace Go.Proofs.YtonjepladadmhaaGreatDoor
open Go Go.RowKit Go.Wk
attribute [local irreducible] W RL Does thenQ blockQ retQ Calls Pu Stp RD Qy Ay DoesIn
theorem PuErA0 {G : Prop} (h : G := by (first | (apply Pu_loadO1; rfl; exact hb 0 _ rfl) | (apply Pu_leqB; rfl; rfl; exact b1))) : G := h
theorem spIn_spec (x : DSpan) (t : Int) (b : Nat) (w : World) (hb : CellsAt w ⟨b, 0, none⟩ [.int .i64 t]) : Does Tryz.prog 176 [.agg x.enc.toArray, .pointer (some ⟨b, 0, none⟩)] w (fun v O => v = .bool (spIn t x) ∧ O = []) := by
 obtain ⟨s, f, k⟩ := x
 unfold spIn
 dsimp only
 show Does _ _ [.agg #[.int .i64 s, .int .i64 f, .int .i64 k], _] w _
 refine Does_of_W Tryz.func176 rfl rfl rfl rfl ?_
 by_cases h : s ≤ t
 ·have b1 : decide (s ≤ t) = true := decide_eq_true h
  rw [b1, Bool.true_and]
  repeat (first | refine und ?_ | (apply RL_pu; rfl; exact PuErA0) | (refine js ?_; (refine bx ?_; intro bk)) | refine walk1 ?_)
  exact rtA
 ·have b1 : decide (s ≤ t) = false := decide_eq_false h
  rw [b1, Bool.false_and]
  repeat (first | refine und ?_ | (apply RL_pu; rfl; exact PuErA0) | (refine js ?_; (refine bx ?_; intro bk)) | refine walk1 ?_)
  exact rtA
theorem spIx_spec (A : Option Addr) (c : Nat) (l : List DSpan) (t : Int) (b : Nat) (w : World) (hA : RdSl w A c DSpan.enc 3 l) (hb : CellsAt w ⟨b, 0, none⟩ [.int .i64 t]) :
  Does Tryz.prog 175 [.slice A l.length c, .func (.func 176) #[] #[.pointer (some ⟨b, 0, none⟩)]] w (fun v O => v = .int .i64 (spIdx t l 0) ∧ O = []) := by
 have hle := hA.le
 have hcp := hA.cap
 simp only [maxLen] at hcp
 have hin := fun x w' (hw : Bel w.heap.size w w') => spIn_spec x t b w' (hb.up hw (Nat.le_refl _))
 obtain ⟨res, hres⟩ : ∃ res, spIdx t l 0 = res := ⟨_, rfl⟩
 rw [hres]
 refine Does_of_W Tryz.func175 rfl rfl rfl rfl ?_
 repeat (first | refine walk ?_)
 refine W_loopF [(0, .slice A l.length c), (1, .func (.func 176) #[] #[.pointer (some ⟨b, 0, none⟩)]), (7, .int .i64 l.length)] [] (fun k : Nat => [(8, .int .i64 k)]) (fun _ => []) (fun k => k ≤ l.length ∧ spIdx t (l.drop k) k = res) (fun k => l.length - k) 0 SFA SOA ⟨Nat.zero_le _, hres⟩ ?_
 clear hres
 rintro k ⟨hk, hi⟩
 repeat (first | refine walk ?_)
 refine W_cond rfl (fun hc => ?_) (fun hc => ?_)
 ·have hkl : k < l.length := by simpa using hc
  obtain ⟨hna, hca⟩ := hA.rd k _ (List.getElem?_eq_getElem hkl)
  rw [drop_cons hkl, spIdx] at hi
  have hx := hin l[k]
  generalize l[k] = x at *
  generalize spIn t x = q at *
  obtain ⟨s, f, e⟩ := x
  change CellsAt w _ [.int .i64 s, .int .i64 f, .int .i64 e] at hca
  cases q with
  | true =>
   rw [if_pos rfl] at hi
   subst hi
   repeat (first | (apply RL_pu; rfl; exact PuI) | (refine js ?_; (apply Stp_callV (f := 176) (us := []) (vs := [.agg #[.int .i64 s, .int .i64 f, .int .i64 e]]) (cs := [.pointer (some ⟨b, 0, none⟩)]) (h := fun w' hw _ => hx w' hw); rfl; rfl; rintro v O' ⟨rfl, rfl⟩)) | refine walk1 ?_)
   exact rtA
  | false =>
   rw [if_neg (by decide)] at hi
   repeat (first | (apply RL_pu; rfl; exact PuI) | (refine js ?_; (apply Stp_callV (f := 176) (us := []) (vs := [.agg #[.int .i64 s, .int .i64 f, .int .i64 e]]) (cs := [.pointer (some ⟨b, 0, none⟩)]) (h := fun w' hw _ => hx w' hw); rfl; rfl; rintro v O' ⟨rfl, rfl⟩)) | refine walk1 ?_)
   exact ⟨k + 1, OA, ⟨OA, hi⟩, SFA, SOA⟩
 ·obtain rfl : k = l.length := by simp only [decide_eq_false_iff_not, Int.ofNat_lt] at hc; omega
  rw [List.drop_length, spIdx] at hi
  subst hi
  repeat (first | refine walk ?_)
  exact rtA
theorem PuErA1 {G : Prop} (h : G := by (apply Pu_lssB; rfl; rfl; exact b1)) : G := h
theorem spFind_spec (A : Option Addr) (c : Nat) (l : List DSpan) (t : Int) (w : World) (hA : RdSl w A c DSpan.enc 3 l) :
  Does Tryz.prog 129 [.slice A l.length c, .int .i64 t] w (fun v O => v = .tuple #[.agg (spFind l t).1.enc.toArray, .bool (spFind l t).2] ∧ O = []) := by
 have hle := hA.le
 have hcp := hA.cap
 simp only [maxLen] at hcp
 have hix := fun (b : Nat) w' (hw : Bel w.heap.size w w') hb => spIx_spec A c l t b w' (hA.up hw) hb
 have hrg := spIdx_rng t l 0
 unfold spFind
 generalize spIdx t l 0 = i at *
 refine Does_of_W Tryz.func129 rfl rfl rfl rfl ?_
 by_cases h : i < 0
 ·have b1 : decide (i < 0) = true := decide_eq_true h
  rw [if_pos h]
  repeat (first | (apply RL_pu; rfl; exact PuErA1) | (refine js ?_; (first | (apply Stp_call (h := fun w' hw hH => hix _ w' hw (hH.cells (by repeat' constructor))); rfl; rintro v O' ⟨rfl, rfl⟩) | (refine bx ?_; intro bk))) | refine walk1 ?_)
  exact rtC
 ·have b1 : decide (i < 0) = false := decide_eq_false h
  rw [if_neg h]
  obtain ⟨x, hx⟩ : ∃ x, l[i.toNat]? = some x := ⟨_, List.getElem?_eq_getElem (by omega)⟩
  obtain ⟨hna, hca⟩ := hA.rd _ _ hx
  rw [List.getD_eq_getElem?_getD, hx, Option.getD_some]
  obtain ⟨s, f, e⟩ := x
  change CellsAt w _ [.int .i64 s, .int .i64 f, .int .i64 e] at hca
  repeat (first | (apply RL_pu; rfl; (first | exact PuErA1 | exact PuI)) | (refine js ?_; (first | (apply Stp_call (h := fun w' hw hH => hix _ w' hw (hH.cells (by repeat' constructor))); rfl; rintro v O' ⟨rfl, rfl⟩) | (refine bx ?_; intro bk))) | refine walk1 ?_)
  exact rtC
end Go.Proofs.YtonjepladadmhaaGreatDoor
namespace Go.Proofs.YtonjepladadmhaaGreatDoor
open Go Go.RowKit Go.Wk
attribute [local irreducible] W RL Does thenQ blockQ retQ Calls Pu Stp RD Qy Ay
theorem PuOfN0 {G : Prop} (h : G := by (first | (apply Pu_indexAddr; rfl; rfl; omega; omega; (first | exact hna)) | (apply Pu_loadON; rfl; (first | exact hca); rfl))) : G := h
theorem ofN_spec (Ar Az Al As : Option Addr) (cr cz cl cs : Nat) (a : DSource) (set : ByteArray) (w : World) (hA : RdSource w Ar Az Al As cr cz cl cs a) (hn : a.rules.length ≤ 1000000) :
  Does Tryz.prog 17 [srcV Ar Az Al As cr cz cl cs a, .string set] w (NewSl 27 11 DRule.enc (ofB a.rules set)) := by
 generalize hres : ofB a.rules set = res
 refine Does_of_W Tryz.func17 rfl rfl rfl rfl ?_
 repeat (first | (refine js ?_; (refine bx ?_; intro bk)) | refine walk ?_)
 refine W_nil 27 11 ?_
 refine W_loopF [(1, _), (2, _), (4, _), (9, _), (10, _)] [_] (fun g : AG DRule => [(5, .slice g.A g.m g.c), (11, .int .i64 g.k)]) (fun g => [.row (.slice g.A g.m g.c) 27 11 g.m g.xs]) (fun g => g.k ≤ a.rules.length ∧ g.m = g.acc.length ∧ g.xs = g.acc.flatMap DRule.enc ∧ g.m ≤ g.k ∧ g.acc ++ ofB (a.rules.drop g.k) set = res) (fun g => a.rules.length - g.k) ⟨0, none, 0, 0, [], []⟩ ⟨rfl, rfl, rfl, rfl, rfl, rfl, rfl, trivial⟩ (.cons (by repeat' constructor) (.refl _)) ⟨by simp, rfl, rfl, Nat.le_refl _, by simpa using hres⟩ ?_
 rintro ⟨k, A, c, m, xs, acc⟩ ⟨hk, hm, hx, hmk, hi⟩
 dsimp only at hk hm hx hmk hi ⊢
 repeat (first | (refine js ?_; (refine bx ?_; intro bk)) | refine walk ?_)
 refine W_cond rfl (fun hc => ?_) (fun hc => ?_)
 ·simp only [decide_eq_true_eq, Int.ofNat_lt] at hc
  obtain ⟨hna, hca⟩ := hA.r.rd k _ (List.getElem?_eq_getElem hc)
  rw [drop_cons hc, ofB, List.filter_cons] at hi
  generalize a.rules[k] = r at *
  repeat (first | (apply RL_pu; rfl; exact PuOfN0) | (refine js ?_; (refine bx ?_; intro bk)) | refine walk1 ?_)
  refine W_cond rfl (fun h3 => ?_) (fun h3 => ?_)
  ·rw [if_pos h3] at hi
   repeat (first | (apply RL_pu; rfl; exact PuOfN0) | (refine js ?_; (first | (apply Stp_append; rfl; rfl; (intro A' c'; (focus repeat' constructor)); (intro w' _ hO; exact blkRaw (hO.of (by repeat' constructor))); rfl; rfl; (simp only [maxLen]; omega); omega; intro A' c' hc1 hc2 hc3) | (refine bx ?_; intro bk))) | refine walk1 ?_)
   exact ⟨⟨k + 1, A', c', m + 1, xs ++ r.enc, acc ++ [r]⟩, OA, ⟨OA, by simp [hm], by rw [hx]; exact flat_snoc acc r, OA, by rw [← hi]; simp [ofB]⟩, SFA, SOA⟩
  rw [h3] at hi
  repeat (first | (refine js ?_; (refine bx ?_; intro bk)) | refine walk ?_)
  exact ⟨⟨k + 1, A, c, m, xs, acc⟩, OA, ⟨OA, hm, hx, OA, hi⟩, SFA, SOA⟩
 simp only [decide_eq_false_iff_not, Int.ofNat_lt] at hc
 rw [List.drop_eq_nil_of_le (by omega)] at hi
 simp only [ofB, List.filter_nil, List.append_nil] at hi
 subst hi
 repeat (first | (refine js ?_; (refine bx ?_; intro bk)) | refine walk ?_)
 exact ret_1 _ [.row (.slice A acc.length c) 27 11 acc.length (acc.flatMap DRule.enc)] (.tmp rfl) (by subst hm hx; exact SOA) ⟨A, c, by rw [hm], rfl⟩
end Go.Proofs.YtonjepladadmhaaGreatDoor
namespace Go.Proofs.YtonjepladadmhaaGreatDoor
open Go Go.RowKit Go.Wk
attribute [local irreducible] W RL Does thenQ blockQ retQ Calls Pu Stp RD Qy Ay DoesIn
def KnP (rs : List DRule) (m : List (ByteArray × Value)) : Prop := ∀ k v, mget m k = some v → ∃ A c, v = .slice A (ofB rs k).length c
def KnAt (rs : List DRule) (m : List (ByteArray × Value)) (w : World) : Prop := ∀ k A n c, mget m k = some (.slice A n c) → RdSl w A c DRule.enc 11 (ofB rs k)
def ruEr (rs : List DRule) (e : DEra) : List DRule := if e.kind = 2 then ofB rs e.set else []
def bookV (Ar Az Al As : Option Addr) (cr cz cl cs : Nat) (s : DSource) (b : Nat) : Value := .agg #[.slice Ar s.rules.length cr, .slice Az s.zones.length cz, .slice Al s.links.length cl, .slice As s.shifts.length cs, .map (some b)]
def BkR (rs : List DRule) (b : Nat) (e : DEra) (R : List It) (v : Value) (O' : List It) : Prop :=
 ∃ A c m' S', v = .slice A (ruEr rs e).length c ∧ KnP rs m' ∧ O' = .mp b m' :: .fact S' (fun w => KnAt rs m' w ∧ RdSl w A c DRule.enc 11 (ruEr rs e)) :: R
theorem DoesInMonoH {P : Program} {f : FuncId} {args : List Value} {w : World} {I : List It} {R R' : Value → List It → Prop} (h : DoesIn P f args w I R) (hr : ∀ v O base w', R v O → Holds base O w' → ∃ O', R' v O' ∧ Holds base O' w') : DoesIn P f args w I R' := by
 unfold DoesIn at h ⊢
 exact fun w' hB hH => Calls.mono (h w' hB hH) fun _ _ ⟨v, O, h1, h2, h3, h4⟩ => by
  obtain ⟨O', h5, h6⟩ := hr v O _ _ h4 h3
  exact ⟨v, O', h1, h2, h6, h5⟩
theorem PuErB0 {G : Prop} (h : G := by (first | (apply Pu_neqB'; rfl; rfl; exact b1) | (apply Pu_lookupOkC; rfl; rfl; (focus repeat' constructor); exact hv; exact hs))) : G := h
theorem brules_spec (Ar Az Al As : Option Addr) (cr cz cl cs : Nat) (s : DSource) (b : Nat) (m : List (ByteArray × Value)) (S : Nat → Prop) (P : World → Prop) (R : List It) (e : DEra) (wr : World) (hA : RdSource wr Ar Az Al As cr cz cl cs s) (hn : s.rules.length ≤ 1000000) (hP : KnP s.rules m) (hK : ∀ w, P w → KnAt s.rules m w) :
  DoesIn Tryz.prog 76 [bookV Ar Az Al As cr cz cl cs s b, .agg e.enc.toArray] wr (.mp b m :: .fact S P :: R) (BkR s.rules b e R) := by
 have hof := fun w' (hw : Bel wr.heap.size wr w') => ofN_spec Ar Az Al As cr cz cl cs s e.set w' (hA.up hw) hn
 unfold BkR ruEr
 obtain ⟨off, kd, esv, st, fm, ⟨ui, uy, um, ⟨ud1, ud2, ud3⟩, ⟨uc1, uc2⟩⟩⟩ := e
 dsimp only at hof ⊢
 show DoesIn _ _ [.agg #[.slice Ar s.rules.length cr, .slice Az s.zones.length cz, .slice Al s.links.length cl, .slice As s.shifts.length cs, .map (some b)], .agg #[.int .i64 off, .int .i64 kd, .int .i64 esv, .string st, .string fm, .bool ui, .int .i64 uy, .int .i64 um, .int .i64 ud1, .int .i64 ud2, .int .i64 ud3, .int .i64 uc1, .int .i64 uc2]] wr _ _
 by_cases hk : kd = 2
 ·have b1 : (!decide (kd = 2)) = false := by rw [decide_eq_true hk]; rfl
  rw [if_pos hk]
  cases hg : mget m st with
  | some v =>
   obtain ⟨A, c, rfl⟩ := hP st v hg
   have hv : (mget m st).getD (.slice none 0 0) = .slice A (ofB s.rules st).length c := by rw [hg]; rfl
   have hs : (mget m st).isSome = true := by rw [hg]; rfl
   refine DoesIn_of_W Tryz.func76 rfl rfl rfl rfl ?_
   refine W_toFact [.fact S P] (.mp b m :: R) (fun w => KnAt s.rules m w ∧ RdSl w A c DRule.enc 11 (ofB s.rules st)) (.cons (.there .here) (.cons .here (.refl _))) (fun w' hi => ⟨hK _ (fact_at (hi _ List.mem_cons_self)), hK _ (fact_at (hi _ List.mem_cons_self)) st A _ c hg⟩) ?_
   repeat (first | (apply RL_pu; rfl; exact PuErB0) | (refine js ?_; (refine bx ?_; intro bk)) | refine walk1 ?_)
   exact ret_1 _ _ (.tmp rfl) (.drop (.drop (.cons (.there .here) (.cons .here (.refl _))))) ⟨A, c, m, _, rfl, hP, rfl⟩
  | none =>
   have hv : (mget m st).getD (.slice none 0 0) = .slice none 0 0 := by rw [hg]; rfl
   have hs : (mget m st).isSome = false := by rw [hg]; rfl
   refine DoesInMonoH (R := fun v O => ∃ A3 c3, v = .slice A3 (ofB s.rules st).length c3 ∧ O = [.fact S P, .row (.slice A3 (ofB s.rules st).length c3) 27 11 (ofB s.rules st).length ((ofB s.rules st).flatMap DRule.enc)] ++ (.mp b (mset m st (.slice A3 (ofB s.rules st).length c3)) :: R)) ?_ ?_
   ·refine DoesIn_of_W Tryz.func76 rfl rfl rfl rfl ?_
    repeat (first | (apply RL_pu; rfl; exact PuErB0) | (refine js ?_; (first | (apply Stp_call (h := fun w' hw _ => hof w' hw); rfl; rintro v O' ⟨A3, c3, rfl, rfl⟩) | (refine bx ?_; intro bk))) | refine walk1 ?_)
    exact ret_1 _ _ (.tmp rfl) (.cons (.there (.there (.there (.there .here)))) (.cons .here (.cons (.there (.there .here)) (.drop (.drop (.refl _)))))) ⟨A3, c3, rfl, rfl⟩
   ·rintro v O base w' ⟨A3, c3, rfl, rfl⟩ hH
    have hrr : ∀ w', (∀ i ∈ [It.fact S P, .row (.slice A3 (ofB s.rules st).length c3) 27 11 (ofB s.rules st).length ((ofB s.rules st).flatMap DRule.enc)], i.sat w') → KnAt s.rules (mset m st (.slice A3 (ofB s.rules st).length c3)) w' ∧ RdSl w' A3 c3 DRule.enc 11 (ofB s.rules st) := by
     intro w' hi
     have h1 := hK _ (fact_at (hi _ List.mem_cons_self))
     have h2 := rowRd DRule.len (hi _ (List.mem_cons_of_mem _ List.mem_cons_self))
     refine ⟨fun k A n c hk => ?_, h2⟩
     rw [mget_mset] at hk
     by_cases hks : k = st
     ·subst hks
      rw [if_pos rfl] at hk
      cases hk
      exact h2
     ·rw [if_neg hks] at hk
      exact h1 k A n c hk
    refine ⟨_, ⟨A3, c3, mset m st (.slice A3 (ofB s.rules st).length c3), foot [It.fact S P, .row (.slice A3 (ofB s.rules st).length c3) 27 11 (ofB s.rules st).length ((ofB s.rules st).flatMap DRule.enc)], rfl, fun k v hk => ?_, rfl⟩, (hH.fact hrr).sub (.cons (.there .here) (.cons .here (.refl _)))⟩
    rw [mget_mset] at hk
    by_cases hks : k = st
    ·subst hks
     rw [if_pos rfl] at hk
     cases hk
     exact ⟨A3, c3, rfl⟩
    ·rw [if_neg hks] at hk
     exact hP k v hk
 ·have b1 : (!decide (kd = 2)) = true := by rw [decide_eq_false hk]; rfl
  rw [if_neg hk]
  refine DoesIn_of_W Tryz.func76 rfl rfl rfl rfl ?_
  refine W_toFact [.fact S P] (.mp b m :: R) (fun w => KnAt s.rules m w ∧ RdSl w none 0 DRule.enc 11 []) (.cons (.there .here) (.cons .here (.refl _))) (fun w' hi => ⟨hK _ (fact_at (hi _ List.mem_cons_self)), nilRd _ _ _⟩) ?_
  repeat (first | (apply RL_pu; rfl; (apply Pu_neqB'; rfl; rfl; exact b1)) | (refine js ?_; (refine bx ?_; intro bk)) | refine walk1 ?_)
  exact ret_1 _ _ (.tmp rfl) (.drop (.drop (.cons (.there .here) (.cons .here (.refl _))))) ⟨none, 0, m, _, rfl, hP, rfl⟩
end Go.Proofs.YtonjepladadmhaaGreatDoor
