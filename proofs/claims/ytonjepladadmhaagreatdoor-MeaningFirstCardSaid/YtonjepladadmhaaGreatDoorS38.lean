/- Contracts: meaning.states, local. Contracts: links.Find. Contracts: meaning.zone, find, At, Era, First. Plain law: the spans of a zone and the states of its eras (layers 19, 23, 26). -/
import Derived.Test.YtonjepladadmhaaGreatDoorS20
import Derived.Test.YtonjepladadmhaaGreatDoorS24
import Derived.Test.YtonjepladadmhaaGreatDoorS37
import Derived.Test.YtonjepladadmhaaGreatDoorS16
import Derived.Test.YtonjepladadmhaaGreatDoorS15
import Derived.Test.YtonjepladadmhaaGreatDoorS26
set_option maxHeartbeats 4000000
set_option linter.unusedVariables false
set_option linter.unusedSimpArgs false
namespace Go.Proofs.YtonjepladadmhaaGreatDoor
open Go Go.RowKit Go.Wk
attribute [local irreducible] W RL Does thenQ blockQ retQ Calls Pu Stp RD Qy Ay DoesIn
def meCells : List Value := [fnV 295, fnV 296, fnV 297]
def MeG (w : World) : Prop := CellsAt w ⟨3, 0, none⟩ meCells
theorem MeG.up {w w' : World} (h : MeG w) (hb : Bel w.heap.size w w') : MeG w' := CellsAt.up h hb (Nat.le_refl _)
def meFn (k : Int) : FuncId := if k = 0 then 295 else if k = 1 then 296 else 297
theorem me_at {w : World} (hF : MeG w) (k : Int) (hk : 0 ≤ k ∧ k ≤ 2) : CellsAt w ((⟨3, 0, none⟩ : Addr).add (k.toNat * 1)) [fnV (meFn k)] := by
 have hc : k = 0 ∨ k = 1 ∨ k = 2 := by omega
 intro j v hj
 have hj0 : j = 0 := by
  rcases j with _ | j
  ·rfl
  ·cases j <;> cases hj
 subst hj0
 rcases hc with rfl | rfl | rfl
 ·exact hF 0 _ hj
 ·exact hF 1 _ hj
 ·exact hF 2 _ hj
def stateD (rs : List DRule) (e : DEra) (t : Int) : Int × ByteArray := if e.kind = 0 then (0, ByteArray.empty) else if e.kind = 1 then (e.save, ByteArray.empty) else atS (ofB rs e.set) e.off t
theorem mstate_spec (Ar Az Al As : Option Addr) (cr cz cl cs : Nat) (a : DSource) (e : DEra) (t : Int) (w : World) (hG : Glob w) (hA : RdSource w Ar Az Al As cr cz cl cs a) (hn : a.rules.length ≤ 1000000) (hk : 0 ≤ e.kind ∧ e.kind ≤ 2) (hr : e.kind = 2 → RsSm (ofB a.rules e.set)) (ho : -1000000000 ≤ e.off ∧ e.off ≤ 1000000000) (ht : -1000000000000000000 ≤ t ∧ t ≤ 1000000000000000000) :
  Does Tryz.prog (meFn e.kind) [srcV Ar Az Al As cr cz cl cs a, .agg e.enc.toArray, .int .i64 t] w (fun v O => v = stV (stateD a.rules e t) ∧ O = []) := by
 have hof := fun w' (hw : Bel w.heap.size w w') => ofN_spec Ar Az Al As cr cz cl cs a e.set w' (hA.up hw) hn
 have hsa := fun (A : Option Addr) (c : Nat) w' (hw : Bel w.heap.size w w') (hR : RdSl w' A c DRule.enc 11 (ofB a.rules e.set)) (h2 : e.kind = 2) => stAt_spec A c (ofB a.rules e.set) e.off t w' (hG.up hw) hR (hr h2) ho ht
 unfold stateD
 have hc : e.kind = 0 ∨ e.kind = 1 ∨ e.kind = 2 := by omega
 generalize atS (ofB a.rules e.set) e.off t = x at *
 generalize ofB a.rules e.set = rr at *
 obtain ⟨off, kd, esv, sset, fm, ⟨ui, uy, um, ⟨ud1, ud2, ud3⟩, ⟨uc1, uc2⟩⟩⟩ := e
 obtain ⟨xs, xl⟩ := x
 dsimp only at hc hof hsa ⊢
 unfold stV at hsa ⊢
 rcases hc with rfl | rfl | rfl
 ·show Does _ 295 [.agg #[.slice Ar a.rules.length cr, .slice Az a.zones.length cz, .slice Al a.links.length cl, .slice As a.shifts.length cs], .agg #[.int .i64 off, .int .i64 0, .int .i64 esv, .string sset, .string fm, .bool ui, .int .i64 uy, .int .i64 um, .int .i64 ud1, .int .i64 ud2, .int .i64 ud3, .int .i64 uc1, .int .i64 uc2], .int .i64 t] w _
  refine Does_of_W Tryz.func295 rfl rfl rfl rfl ?_
  repeat (first | (refine js ?_; (refine bx ?_; intro bk)) | refine walk ?_)
  exact ret_1 _ [] (.cellB rfl (by repeat' constructor) rfl rfl) .nil ⟨rfl, rfl⟩
 ·show Does _ 296 [.agg #[.slice Ar a.rules.length cr, .slice Az a.zones.length cz, .slice Al a.links.length cl, .slice As a.shifts.length cs], .agg #[.int .i64 off, .int .i64 1, .int .i64 esv, .string sset, .string fm, .bool ui, .int .i64 uy, .int .i64 um, .int .i64 ud1, .int .i64 ud2, .int .i64 ud3, .int .i64 uc1, .int .i64 uc2], .int .i64 t] w _
  refine Does_of_W Tryz.func296 rfl rfl rfl rfl ?_
  repeat (first | (refine js ?_; (refine bx ?_; intro bk)) | refine walk ?_)
  exact ret_1 _ [] (.cellB rfl (by repeat' constructor) rfl rfl) .nil ⟨rfl, rfl⟩
 ·show Does _ 297 [.agg #[.slice Ar a.rules.length cr, .slice Az a.zones.length cz, .slice Al a.links.length cl, .slice As a.shifts.length cs], .agg #[.int .i64 off, .int .i64 2, .int .i64 esv, .string sset, .string fm, .bool ui, .int .i64 uy, .int .i64 um, .int .i64 ud1, .int .i64 ud2, .int .i64 ud3, .int .i64 uc1, .int .i64 uc2], .int .i64 t] w _
  refine Does_of_W Tryz.func297 rfl rfl rfl rfl ?_
  repeat (first | refine walk ?_ | (refine jg ?_; (try intro F); (first | (apply Stp_call (h := fun w' hw _ => hof w' hw); rfl; rintro v O' ⟨A3, c3, rfl, rfl⟩) | (refine callO (fun w' hw hO => hsa A3 c3 w' hw (rowRd DRule.len (hO.of (by repeat' constructor))) rfl) ?_) | (refine bx ?_; intro bk) | (refine stA ?_)); refine fin ?_) | (refine jn ?_; (try intro F); (first | (refine bx ?_; intro bk) | (refine stA ?_) | (apply Stp_pu; exact PuA)); refine fin ?_) | (apply RD_W; rfl; intro bk))
  exact ret_1 _ [] (.cellB rfl (by repeat' constructor) rfl rfl) .nil ⟨rfl, rfl⟩
structure DLocal where
 off : Int
 dst : Bool
 abbr : ByteArray
deriving DecidableEq
def DLocal.enc (x : DLocal) : List Value := [.int .i64 x.off, .bool x.dst, .string x.abbr]
def lc0 : DLocal := ⟨0, false, ByteArray.empty⟩
def localD (e : DEra) (x : Int × ByteArray) : DLocal := ⟨e.off + x.1, !decide (x.1 = 0), abbrE e x.1 x.2⟩
def abE (e : DEra) (x : Int × ByteArray) : Int := (abbrF e.format.data.toList e.off x.1 x.2.data.toList).2
structure LcOk (rs : List DRule) (e : DEra) : Prop where
 k : 0 ≤ e.kind ∧ e.kind ≤ 2
 o : -1000000000 ≤ e.off ∧ e.off ≤ 1000000000
 s : -1000000000 ≤ e.save ∧ e.save ≤ 1000000000
 r : e.kind = 2 → RsSm (ofB rs e.set)
 f : e.format.size ≤ 1000000000
theorem PuMeA0 {G : Prop} (h : G := by (first | (apply Pu_indexArr; rfl; rfl; omega; omega) | (apply Pu_loadO1; rfl; exact hcell 0 _ rfl))) : G := h
theorem QyMeA0 {G : Prop} (h : G := by first | (apply Qy_y; rfl; exact PuMeA0) | exact QyA) : G := h
theorem QFMeA0 {G : Prop} (h : G := by repeat (first | exact QF.nil | (apply QF.mk; rfl; rfl; decide +kernel; exact QyMeA0))) : G := h
theorem local26_spec (Ar Az Al As : Option Addr) (cr cz cl cs : Nat) (a : DSource) (e : DEra) (t : Int) (w : World) (hL : LibW w) (hG : Glob w) (hM : MeG w) (hA : RdSource w Ar Az Al As cr cz cl cs a) (hn : a.rules.length ≤ 1000000) (he : LcOk a.rules e) (ht : -1000000000000000000 ≤ t ∧ t ≤ 1000000000000000000)
  (hx : -1000000000 ≤ (stateD a.rules e t).1 ∧ (stateD a.rules e t).1 ≤ 1000000000) (hxl : (stateD a.rules e t).2.size ≤ 1000000000) (hab : abE e (stateD a.rules e t) = 0) :
  Does Tryz.prog 79 [srcV Ar Az Al As cr cz cl cs a, .agg e.enc.toArray, .int .i64 t] w (fun v O => v = .tuple #[.agg (localD e (stateD a.rules e t)).enc.toArray, .int .i64 0] ∧ O = []) := by
 have hst := fun w' (hw : Bel w.heap.size w w') => mstate_spec Ar Az Al As cr cz cl cs a e t w' (hG.up hw) (hA.up hw) hn he.k he.r he.o ht
 have hcell := me_at hM e.kind he.k
 have hk := he.k
 have ho := he.o
 haveI : Body Tryz.prog (meFn e.kind) := by
  unfold meFn
  split
  ·infer_instance
  ·split <;> infer_instance
 generalize stateD a.rules e t = x at *
 have hfa := fun w' (hw : Bel w.heap.size w w') => fabbr_spec e.format x.2 e.off x.1 w' (hL.up hw) he.f hxl (by unfold I64; omega) (by unfold I64; omega)
 unfold abE at hab
 unfold xpV at hfa
 rw [hab] at hfa
 unfold localD
 change ∀ w', Bel w.heap.size w w' → Does _ _ _ w' (fun v O => v = .tuple #[.string (abbrE e x.1 x.2), .int .i64 0] ∧ O = []) at hfa
 generalize abbrE e x.1 x.2 = ab at *
 obtain ⟨xs, xl⟩ := x
 obtain ⟨off, kd, esv, sset, fm, ⟨ui, uy, um, ⟨ud1, ud2, ud3⟩, ⟨uc1, uc2⟩⟩⟩ := e
 dsimp only at hst hcell hk ho hx hfa ⊢
 unfold stV at hst
 simp only [DLocal.enc]
 show Does _ _ [.agg #[.slice Ar a.rules.length cr, .slice Az a.zones.length cz, .slice Al a.links.length cl, .slice As a.shifts.length cs], .agg #[.int .i64 off, .int .i64 kd, .int .i64 esv, .string sset, .string fm, .bool ui, .int .i64 uy, .int .i64 um, .int .i64 ud1, .int .i64 ud2, .int .i64 ud3, .int .i64 uc1, .int .i64 uc2], .int .i64 t] w _
 generalize meFn kd = kf at *
 refine Does_of_W Tryz.func79 rfl rfl rfl rfl ?_
 repeat (first | (apply RL_pu; rfl; exact PuMeA0) | (apply RD_Q; rfl; rfl; decide +kernel; rfl; rfl; exact QyMeA0) | refine walk1 ?_ | (refine jg ?_; (try intro F); (first | (apply Stp_callV (f := kf) (us := []) (cs := []) (vs := [.agg #[.slice Ar a.rules.length cr, .slice Az a.zones.length cz, .slice Al a.links.length cl, .slice As a.shifts.length cs], .agg #[.int .i64 off, .int .i64 kd, .int .i64 esv, .string sset, .string fm, .bool ui, .int .i64 uy, .int .i64 um, .int .i64 ud1, .int .i64 ud2, .int .i64 ud3, .int .i64 uc1, .int .i64 uc2], .int .i64 t]) (h := fun w' hw _ => hst w' hw); rfl; rfl; rintro v O' ⟨rfl, rfl⟩) | (refine callE hfa ?_) | (refine bx ?_; intro bk) | (refine stA ?_)); first | refine ⟨_, EndsA, QFMeA0, ?_⟩ | refine fin ?_) | (refine jn ?_; (try intro F); (first | (refine bx ?_; intro bk) | (refine stA ?_) | (apply Stp_pu; first | exact PuMeA0 | exact PuA)); first | refine ⟨_, EndsA, QFMeA0, ?_⟩ | refine fin ?_) | (apply RD_W; rfl; intro bk))
 exact rtC
end Go.Proofs.YtonjepladadmhaaGreatDoor
set_option maxHeartbeats 4000000
namespace Go.Proofs.YtonjepladadmhaaGreatDoor
open Go Go.RowKit Go.Wk
attribute [local irreducible] W RL Does thenQ blockQ retQ Calls Pu Stp RD Qy Ay DoesIn RLI WI
theorem lfind_spec (Ar Az Al As : Option Addr) (cr cz cl cs : Nat) (a : DSource) (name : ByteArray) (w : World) (hA : RdSource w Ar Az Al As cr cz cl cs a) (hn : a.zones.length + a.links.length ≤ 1000000) :
  Does Tryz.prog 39 [srcV Ar Az Al As cr cz cl cs a, .string name] w (fun v O => v = .tuple #[.int .i64 (followD a (a.links.length + 1) [] name).1, .int .i64 (followD a (a.links.length + 1) [] name).2] ∧ O = []) := by
 obtain ⟨res, hres⟩ : ∃ res, followD a (a.links.length + 1) [] name = res := ⟨_, rfl⟩
 rw [hres]
 refine Does_of_W Tryz.func39 rfl rfl rfl rfl ?_
 repeat (first | refine walk ?_ | (refine jg ?_; (try intro F); (first | (apply Stp_call (h := fun w' hw _ => lzones_spec Ar Az Al As cr cz cl cs a w' (hA.up hw) (by omega)); rfl; rintro v O' ⟨b1, m1, rfl, rfl, i1, d1, n1⟩) | (apply Stp_call (h := fun w' hw _ => ltargets_spec Ar Az Al As cr cz cl cs a w' (hA.up hw) (by omega)); rfl; rintro v O' ⟨b2, m2, rfl, rfl, i2, d2, n2⟩) | (refine callO (fun w' hw hO => follow_spec Ar Az Al As cr cz cl cs a b1 b2 m1 m2 name w' (hA.up hw) (hO.of (A := .mp b1 m1) (by repeat' constructor)) (hO.of (A := .mp b2 m2) (by repeat' constructor)) i1 i2 d2 n2) ?_) | (refine bx ?_; intro bk)); refine fin ?_) | (refine jn ?_; (try intro F); (first | (refine bx ?_; intro bk) | (apply Stp_pu; exact PuA)); refine fin ?_))
 rw [hres]
 exact rtB
end Go.Proofs.YtonjepladadmhaaGreatDoor
namespace Go.Proofs.YtonjepladadmhaaGreatDoor
open Go Go.RowKit Go.Wk
attribute [local irreducible] W RL Does thenQ blockQ retQ Calls Pu Stp RD Qy Ay DoesIn
theorem zone26_err (Ar Az Al As : Option Addr) (cr cz cl cs : Nat) (a : DSource) (name : ByteArray) (p : DPlace) (e : Int) (w : World) (h : AccOk w Ar Az Al As cr cz cl cs a) (hf : accD a = some (p, e)) :
  Does Tryz.prog 85 [srcV Ar Az Al As cr cz cl cs a, .string name] w (fun v O => v = .tuple #[.int .i64 0, .int .i64 e] ∧ O = []) := by
 have ha := fun w' (hw : Bel w.heap.size w w') => accTe Ar Az Al As cr cz cl cs a p e w' (h.up hw) hf
 have hb : (!decide (e = 0)) = true := by rw [decide_eq_false (accD_ne hf)]; rfl
 refine Does_of_W Tryz.func85 rfl rfl rfl rfl ?_
 repeat (first | (apply RL_pu; rfl; (apply Pu_neqB'; rfl; rfl; exact hb)) | (refine js ?_; (first | (apply Stp_call (h := fun w' hw _ => ha w' hw); rfl; rintro v O' ⟨⟨p1, p2, p3, rfl⟩, rfl⟩) | (refine bx ?_; intro bk))) | refine walk1 ?_)
 exact rtB
theorem zone26_ok (Ar Az Al As : Option Addr) (cr cz cl cs : Nat) (a : DSource) (name : ByteArray) (w : World) (h : AccOk w Ar Az Al As cr cz cl cs a) (hf : accD a = none) (hn : a.zones.length + a.links.length ≤ 1000000) :
  Does Tryz.prog 85 [srcV Ar Az Al As cr cz cl cs a, .string name] w (fun v O => v = .tuple #[.int .i64 (followD a (a.links.length + 1) [] name).1, .int .i64 (followD a (a.links.length + 1) [] name).2] ∧ O = []) := by
 have ha := fun w' (hw : Bel w.heap.size w w') => accTn Ar Az Al As cr cz cl cs a w' (h.up hw) hf
 have hl := fun w' (hw : Bel w.heap.size w w') => lfind_spec Ar Az Al As cr cz cl cs a name w' (h.A.up hw) hn
 generalize followD a (a.links.length + 1) [] name = x at *
 refine Does_of_W Tryz.func85 rfl rfl rfl rfl ?_
 repeat (first | (refine js ?_; (first | (refine callE ha ?_) | (refine callE hl ?_) | (refine bx ?_; intro bk))) | refine walk ?_)
 exact rtB
def tOk (t : Int) : Bool := decide (-36028797018963968 ≤ t) && decide (t ≤ 36028797018963968)
theorem tOk_iff {t : Int} : tOk t = true ↔ -36028797018963968 ≤ t ∧ t ≤ 36028797018963968 := by unfold tOk; simp
def FdE (e : Int) (v : Value) (O : List It) : Prop := v = .tuple #[.agg #[.string ByteArray.empty, .slice none 0 0], .int .i64 0, .int .i64 e] ∧ O = []
theorem PuMeB1 {G : Prop} (h : G := by (apply Pu_lssB; rfl; rfl; exact b1)) : G := h
theorem QyMeB1 {G : Prop} (h : G := by first | (apply Qy_y; rfl; exact PuMeB1) | exact QyA) : G := h
theorem QFMeB1 {G : Prop} (h : G := by repeat (first | exact QF.nil | (apply QF.mk; rfl; rfl; decide +kernel; exact QyMeB1))) : G := h
theorem PuMeB2 {G : Prop} (h : G := by (first | exact PuMeB1 | (apply Pu_gtrB; rfl; rfl; exact b2))) : G := h
theorem QyMeB2 {G : Prop} (h : G := by first | (apply Qy_y; rfl; exact PuMeB2) | exact QyA) : G := h
theorem QFMeB2 {G : Prop} (h : G := by repeat (first | exact QF.nil | (apply QF.mk; rfl; rfl; decide +kernel; exact QyMeB2))) : G := h
theorem find26_far (Ar Az Al As : Option Addr) (cr cz cl cs : Nat) (a : DSource) (name : ByteArray) (t : Int) (w : World) (ht : tOk t = false) :
  Does Tryz.prog 77 [srcV Ar Az Al As cr cz cl cs a, .string name, .int .i64 t] w (FdE 3) := by
 refine Does_of_W Tryz.func77 rfl rfl rfl rfl ?_
 by_cases h1 : t < -36028797018963968
 ·have b1 : decide (t < -36028797018963968) = true := decide_eq_true h1
  repeat (first | refine und ?_ | (apply RL_pu; rfl; exact PuMeB1) | (apply RD_Q; rfl; rfl; decide +kernel; rfl; rfl; exact QyMeB1) | refine walk1 ?_ | (refine jn ?_; (try intro F); (first | (refine bx ?_; intro bk) | (refine stA ?_) | (apply Stp_pu; first | exact PuMeB1 | exact PuA)); first | refine ⟨_, EndsA, QFMeB1, ?_⟩ | refine fin ?_) | (apply RD_W; rfl; intro bk))
  exact ret_3 _ _ _ [] (.cellB rfl (by repeat' constructor) rfl rfl) (.tmp rfl) (.tmp rfl) .nil ⟨rfl, rfl⟩
 ·have b1 : decide (t < -36028797018963968) = false := decide_eq_false h1
  have b2 : decide (36028797018963968 < t) = true := by
   refine decide_eq_true (Int.not_le.1 fun h2 => ?_)
   rw [tOk_iff.2 ⟨by omega, h2⟩] at ht
   cases ht
  repeat (first | refine und ?_ | (apply RL_pu; rfl; exact PuMeB2) | (apply RD_Q; rfl; rfl; decide +kernel; rfl; rfl; exact QyMeB2) | refine walk1 ?_ | (refine jn ?_; (try intro F); (first | (refine bx ?_; intro bk) | (refine stA ?_) | (apply Stp_pu; first | exact PuMeB2 | exact PuA)); first | refine ⟨_, EndsA, QFMeB2, ?_⟩ | refine fin ?_) | (apply RD_W; rfl; intro bk))
  exact ret_3 _ _ _ [] (.cellB rfl (by repeat' constructor) rfl rfl) (.tmp rfl) (.tmp rfl) .nil ⟨rfl, rfl⟩
theorem PuMeB3 {G : Prop} (h : G := by (first | exact PuMeB2 | (apply Pu_neqB'; rfl; rfl; exact b3))) : G := h
theorem QyMeB3 {G : Prop} (h : G := by first | (apply Qy_y; rfl; exact PuMeB3) | exact QyA) : G := h
theorem QFMeB3 {G : Prop} (h : G := by repeat (first | exact QF.nil | (apply QF.mk; rfl; rfl; decide +kernel; exact QyMeB3))) : G := h
theorem find26_no (Ar Az Al As : Option Addr) (cr cz cl cs : Nat) (a : DSource) (name : ByteArray) (t z0 e : Int) (w : World) (ht : tOk t = true) (he : e ≠ 0)
  (hz : ∀ w', Bel w.heap.size w w' → Does Tryz.prog 85 [srcV Ar Az Al As cr cz cl cs a, .string name] w' (fun v O => v = .tuple #[.int .i64 z0, .int .i64 e] ∧ O = [])) :
  Does Tryz.prog 77 [srcV Ar Az Al As cr cz cl cs a, .string name, .int .i64 t] w (FdE e) := by
 have h2 := tOk_iff.1 ht
 have b1 : decide (t < -36028797018963968) = false := decide_eq_false (by omega)
 have b2 : decide (36028797018963968 < t) = false := decide_eq_false (by omega)
 have b3 : (!decide (e = 0)) = true := by rw [decide_eq_false he]; rfl
 refine Does_of_W Tryz.func77 rfl rfl rfl rfl ?_
 repeat (first | refine und ?_ | (apply RL_pu; rfl; exact PuMeB3) | (apply RD_Q; rfl; rfl; decide +kernel; rfl; rfl; exact QyMeB3) | refine walk1 ?_ | (refine jg ?_; (try intro F); (first | (refine callE hz ?_) | (refine bx ?_; intro bk) | (refine stA ?_)); first | refine ⟨_, EndsA, QFMeB3, ?_⟩ | refine fin ?_) | (refine jn ?_; (try intro F); (first | (refine bx ?_; intro bk) | (refine stA ?_) | (apply Stp_pu; first | exact PuMeB3 | exact PuA)); first | refine ⟨_, EndsA, QFMeB3, ?_⟩ | refine fin ?_) | (apply RD_W; rfl; intro bk))
 exact ret_3 _ _ _ [] (.cellB rfl (by repeat' constructor) rfl rfl) (.tmp rfl) (.tmp rfl) .nil ⟨rfl, rfl⟩
theorem PuMeB4 {G : Prop} (h : G := by (first | exact PuMeB2 | (apply Pu_indexAddr; rfl; rfl; omega; omega; exact hnz) | (apply Pu_loadON; rfl; exact hcz; rfl))) : G := h
theorem QyMeB4 {G : Prop} (h : G := by first | (apply Qy_y; rfl; exact PuMeB4) | exact QyA) : G := h
theorem QFMeB4 {G : Prop} (h : G := by repeat (first | exact QF.nil | (apply QF.mk; rfl; rfl; decide +kernel; exact QyMeB4))) : G := h
theorem find26_ok (Ar Az Al As : Option Addr) (cr cz cl cs : Nat) (a : DSource) (name : ByteArray) (t : Int) (i : Nat) (z : DZone) (l : List DSpan) (x : DSpan) (Ae : Option Addr) (ce : Nat) (w : World) (h : AccOk w Ar Az Al As cr cz cl cs a) (ht : tOk t = true)
  (hz : ∀ w', Bel w.heap.size w w' → Does Tryz.prog 85 [srcV Ar Az Al As cr cz cl cs a, .string name] w' (fun v O => v = .tuple #[.int .i64 i, .int .i64 0] ∧ O = []))
  (hi : a.zones[i]? = some z) (hnz : Az ≠ none) (hcz : CellsAt w ((adr Az).add (i * 2)) [.string z.name, .slice Ae z.eras.length ce])
  (hE : ∀ k e, z.eras[k]? = some e → k + 1 < z.eras.length → RsSm (ruEr a.rules e) ∧ UnOk e (ruEr a.rules e)) (hl : spAll a.rules z.eras = some l) (hx : spFind l t = (x, true)) :
  Does Tryz.prog 77 [srcV Ar Az Al As cr cz cl cs a, .string name, .int .i64 t] w (fun v O => v = .tuple #[.agg #[.string z.name, .slice Ae z.eras.length ce], .int .i64 x.era, .int .i64 0] ∧ O = []) := by
 have h2 := tOk_iff.1 ht
 have b1 : decide (t < -36028797018963968) = false := decide_eq_false (by omega)
 have b2 : decide (36028797018963968 < t) = false := decide_eq_false (by omega)
 have hil : i < a.zones.length := (List.getElem?_eq_some_iff.1 hi).1
 have hlz := h.A.zle
 have hlc := h.A.zcap
 simp only [maxLen] at hlc
 have hsp := fun w' (hw : Bel w.heap.size w w') => spans_spec Ar Az Al As cr cz cl cs a i z l w' (h.G.up hw) (h.A.up hw) h.S.nr (h.S.zs z (List.mem_of_getElem? hi)).2.1 hi hE hl
 have hfi := fun (A : Option Addr) (c : Nat) w' (hR : RdSl w' A c DSpan.enc 3 l) => spFind_spec A c l t w' hR
 rw [hx] at hfi
 clear hx hl hE hi
 obtain ⟨x1, x2, x3⟩ := x
 simp only [DSpan.enc] at hfi
 refine Does_of_W Tryz.func77 rfl rfl rfl rfl ?_
 repeat (first | refine und ?_ | (apply RL_pu; rfl; exact PuMeB4) | (apply RD_Q; rfl; rfl; decide +kernel; rfl; rfl; exact QyMeB4) | refine walk1 ?_ | (refine jg ?_; (try intro F); (first | (refine callE hz ?_) | (apply Stp_call (h := fun w' hw _ => hsp w' hw); rfl; rintro v O' ⟨A3, c3, rfl, rfl⟩) | (refine callO (fun w' hw hO => hfi A3 c3 w' (rowRd DSpan.len (hO.of (by repeat' constructor)))) ?_) | (refine bx ?_; intro bk) | (refine stA ?_)); first | refine ⟨_, EndsA, QFMeB4, ?_⟩ | refine fin ?_) | (refine jn ?_; (try intro F); (first | (refine bx ?_; intro bk) | (refine stA ?_) | (apply Stp_pu; first | exact PuMeB4 | exact PuA)); first | refine ⟨_, EndsA, QFMeB4, ?_⟩ | refine fin ?_) | (apply RD_W; rfl; intro bk))
 exact ret_3 _ _ _ [] (.cellB rfl (by repeat' constructor) rfl rfl) (.tmp rfl) (.tmp rfl) .nil ⟨rfl, rfl⟩
theorem era26_any (Ar Az Al As : Option Addr) (cr cz cl cs : Nat) (a : DSource) (name : ByteArray) (t : Int) (zn : ByteArray) (Ae : Option Addr) (ne ce : Nat) (k e : Int) (w : World)
  (hf : ∀ w', Bel w.heap.size w w' → Does Tryz.prog 77 [srcV Ar Az Al As cr cz cl cs a, .string name, .int .i64 t] w' (fun v O => v = .tuple #[.agg #[.string zn, .slice Ae ne ce], .int .i64 k, .int .i64 e] ∧ O = [])) :
  Does Tryz.prog 32 [srcV Ar Az Al As cr cz cl cs a, .string name, .int .i64 t] w (fun v O => v = .tuple #[.int .i64 k, .int .i64 e] ∧ O = []) := by
 refine Does_of_W Tryz.func32 rfl rfl rfl rfl ?_
 repeat (first | (refine js ?_; (first | (refine callE hf ?_) | (refine bx ?_; intro bk))) | refine walk ?_)
 exact rtB
theorem PuMeB5 {G : Prop} (h : G := by (apply Pu_neqB'; rfl; rfl; exact b3)) : G := h
theorem QyMeB5 {G : Prop} (h : G := by first | (apply Qy_y; rfl; exact PuMeB5) | exact QyA) : G := h
theorem QFMeB5 {G : Prop} (h : G := by repeat (first | exact QF.nil | (apply QF.mk; rfl; rfl; decide +kernel; exact QyMeB5))) : G := h
theorem at26_err (Ar Az Al As : Option Addr) (cr cz cl cs : Nat) (a : DSource) (name : ByteArray) (t e : Int) (w : World) (he : e ≠ 0)
  (hf : ∀ w', Bel w.heap.size w w' → Does Tryz.prog 77 [srcV Ar Az Al As cr cz cl cs a, .string name, .int .i64 t] w' (FdE e)) :
  Does Tryz.prog 34 [srcV Ar Az Al As cr cz cl cs a, .string name, .int .i64 t] w (fun v O => v = .tuple #[.agg lc0.enc.toArray, .int .i64 e] ∧ O = []) := by
 have b3 : (!decide (e = 0)) = true := by rw [decide_eq_false he]; rfl
 refine Does_of_W Tryz.func34 rfl rfl rfl rfl ?_
 repeat (first | (apply RL_pu; rfl; exact PuMeB5) | (apply RD_Q; rfl; rfl; decide +kernel; rfl; rfl; exact QyMeB5) | refine walk1 ?_ | (refine jg ?_; (try intro F); (first | (refine callE hf ?_) | (refine bx ?_; intro bk) | (refine stA ?_)); first | refine ⟨_, EndsA, QFMeB5, ?_⟩ | refine fin ?_) | (refine jn ?_; (try intro F); (first | (refine bx ?_; intro bk) | (refine stA ?_) | (apply Stp_pu; first | exact PuMeB5 | exact PuA)); first | refine ⟨_, EndsA, QFMeB5, ?_⟩ | refine fin ?_) | (apply RD_W; rfl; intro bk))
 exact rtC
theorem at26_ok (Ar Az Al As : Option Addr) (cr cz cl cs : Nat) (a : DSource) (name : ByteArray) (t : Int) (zn : ByteArray) (Ae : Option Addr) (ce : Nat) (l : List DEra) (k : Nat) (x : DEra) (y : DLocal) (w : World)
  (hf : ∀ w', Bel w.heap.size w w' → Does Tryz.prog 77 [srcV Ar Az Al As cr cz cl cs a, .string name, .int .i64 t] w' (fun v O => v = .tuple #[.agg #[.string zn, .slice Ae l.length ce], .int .i64 k, .int .i64 0] ∧ O = []))
  (hE : RdSl w Ae ce DEra.enc 13 l) (hx : l[k]? = some x)
  (hl : ∀ w', Bel w.heap.size w w' → Does Tryz.prog 79 [srcV Ar Az Al As cr cz cl cs a, .agg x.enc.toArray, .int .i64 t] w' (fun v O => v = .tuple #[.agg y.enc.toArray, .int .i64 0] ∧ O = [])) :
  Does Tryz.prog 34 [srcV Ar Az Al As cr cz cl cs a, .string name, .int .i64 t] w (fun v O => v = .tuple #[.agg y.enc.toArray, .int .i64 0] ∧ O = []) := by
 have hel := hE.le
 have hec := hE.cap
 simp only [maxLen] at hec
 have hkl : k < l.length := (List.getElem?_eq_some_iff.1 hx).1
 obtain ⟨hna, hca⟩ := hE.rd k _ hx
 obtain ⟨off, kd, esv, sset, fm, ⟨ui, uy, um, ⟨ud1, ud2, ud3⟩, ⟨uc1, uc2⟩⟩⟩ := x
 obtain ⟨y1, y2, y3⟩ := y
 simp only [DEra.enc, DLocal.enc] at hca hl ⊢
 refine Does_of_W Tryz.func34 rfl rfl rfl rfl ?_
 repeat (first | (apply RL_pu; rfl; exact PuI) | (apply RD_Q; rfl; rfl; decide +kernel; rfl; rfl; exact QyI) | refine walk1 ?_ | (refine jg ?_; (try intro F); (first | (refine callE hf ?_) | (refine callE hl ?_) | (refine bx ?_; intro bk) | (refine stA ?_)); first | refine ⟨_, EndsA, QFI, ?_⟩ | refine fin ?_) | (refine jn ?_; (try intro F); (first | (refine bx ?_; intro bk) | (refine stA ?_) | (apply Stp_pu; first | exact PuI | exact PuA)); first | refine ⟨_, EndsA, QFI, ?_⟩ | refine fin ?_) | (apply RD_W; rfl; intro bk))
 exact rtC
theorem first26_err (Ar Az Al As : Option Addr) (cr cz cl cs : Nat) (a : DSource) (name : ByteArray) (z0 e : Int) (w : World) (he : e ≠ 0)
  (hz : ∀ w', Bel w.heap.size w w' → Does Tryz.prog 85 [srcV Ar Az Al As cr cz cl cs a, .string name] w' (fun v O => v = .tuple #[.int .i64 z0, .int .i64 e] ∧ O = [])) :
  Does Tryz.prog 37 [srcV Ar Az Al As cr cz cl cs a, .string name] w (fun v O => v = .tuple #[.agg lc0.enc.toArray, .int .i64 e] ∧ O = []) := by
 have b3 : (!decide (e = 0)) = true := by rw [decide_eq_false he]; rfl
 refine Does_of_W Tryz.func37 rfl rfl rfl rfl ?_
 repeat (first | (apply RL_pu; rfl; exact PuMeB5) | (apply RD_Q; rfl; rfl; decide +kernel; rfl; rfl; exact QyMeB5) | refine walk1 ?_ | (refine jg ?_; (try intro F); (first | (refine callE hz ?_) | (refine bx ?_; intro bk) | (refine stA ?_)); first | refine ⟨_, EndsA, QFMeB5, ?_⟩ | refine fin ?_) | (refine jn ?_; (try intro F); (first | (refine bx ?_; intro bk) | (refine stA ?_) | (apply Stp_pu; first | exact PuMeB5 | exact PuA)); first | refine ⟨_, EndsA, QFMeB5, ?_⟩ | refine fin ?_) | (apply RD_W; rfl; intro bk))
 exact rtC
theorem PuMeB6 {G : Prop} (h : G := by (first | (apply Pu_indexAddr; rfl; rfl; omega; omega; exact hnz) | exact PuI | (apply Pu_loadO1; rfl; exact hcz 1 _ rfl))) : G := h
theorem QyMeB6 {G : Prop} (h : G := by first | (apply Qy_y; rfl; exact PuMeB6) | exact QyA) : G := h
theorem QFMeB6 {G : Prop} (h : G := by repeat (first | exact QF.nil | (apply QF.mk; rfl; rfl; decide +kernel; exact QyMeB6))) : G := h
theorem first26_ok (Ar Az Al As : Option Addr) (cr cz cl cs : Nat) (a : DSource) (name : ByteArray) (i : Nat) (z : DZone) (Ae : Option Addr) (ce : Nat) (x : DEra) (y : DLocal) (w : World) (hA : RdSource w Ar Az Al As cr cz cl cs a)
  (hz : ∀ w', Bel w.heap.size w w' → Does Tryz.prog 85 [srcV Ar Az Al As cr cz cl cs a, .string name] w' (fun v O => v = .tuple #[.int .i64 i, .int .i64 0] ∧ O = []))
  (hi : a.zones[i]? = some z) (hnz : Az ≠ none) (hcz : CellsAt w ((adr Az).add (i * 2)) [.string z.name, .slice Ae z.eras.length ce]) (hE : RdSl w Ae ce DEra.enc 13 z.eras) (hx : z.eras[0]? = some x)
  (hl : ∀ w', Bel w.heap.size w w' → Does Tryz.prog 79 [srcV Ar Az Al As cr cz cl cs a, .agg x.enc.toArray, .int .i64 0] w' (fun v O => v = .tuple #[.agg y.enc.toArray, .int .i64 0] ∧ O = [])) :
  Does Tryz.prog 37 [srcV Ar Az Al As cr cz cl cs a, .string name] w (fun v O => v = .tuple #[.agg y.enc.toArray, .int .i64 0] ∧ O = []) := by
 have hel := hE.le
 have hec := hE.cap
 have hil : i < a.zones.length := (List.getElem?_eq_some_iff.1 hi).1
 have hlz := hA.zle
 have hlc := hA.zcap
 simp only [maxLen] at hec hlc
 have hkl : 0 < z.eras.length := (List.getElem?_eq_some_iff.1 hx).1
 obtain ⟨hna, hca⟩ := hE.rd 0 _ hx
 obtain ⟨off, kd, esv, sset, fm, ⟨ui, uy, um, ⟨ud1, ud2, ud3⟩, ⟨uc1, uc2⟩⟩⟩ := x
 obtain ⟨y1, y2, y3⟩ := y
 simp only [DEra.enc, DLocal.enc] at hca hl ⊢
 refine Does_of_W Tryz.func37 rfl rfl rfl rfl ?_
 repeat (first | (apply RL_pu; rfl; exact PuMeB6) | (apply RD_Q; rfl; rfl; decide +kernel; rfl; rfl; exact QyMeB6) | refine walk1 ?_ | (refine jg ?_; (try intro F); (first | (refine callE hz ?_) | (refine callE hl ?_) | (refine bx ?_; intro bk) | (refine stA ?_)); first | refine ⟨_, EndsA, QFMeB6, ?_⟩ | refine fin ?_) | (refine jn ?_; (try intro F); (first | (refine bx ?_; intro bk) | (refine stA ?_) | (apply Stp_pu; first | exact PuMeB6 | exact PuA)); first | refine ⟨_, EndsA, QFMeB6, ?_⟩ | refine fin ?_) | (apply RD_W; rfl; intro bk))
 exact rtC
end Go.Proofs.YtonjepladadmhaaGreatDoor
namespace Go.Proofs.YtonjepladadmhaaGreatDoor
open Go Go.RowKit Go.Wk
theorem sp_at (rs : List DRule) (t : Int) (ht : t < 9223372036854775807) : ∀ (l : List DEra) (st : Int) (i : Nat) (r : List DSpan), spGo rs l st i = some r → l ≠ [] → st ≤ t →
  ∃ k x, k < l.length ∧ r[k]? = some x ∧ x.era = (i : Int) + (k : Nat) ∧ spIdx t r i = (i : Int) + (k : Nat) ∧ x.start ≤ t ∧ t < x.fin
 | [], _, _, _, _, h, _ => absurd rfl h
 | [e], st, i, r, h, _, hs => by
  simp only [spGo, Option.some.injEq] at h
  subst h
  refine ⟨0, _, Nat.zero_lt_one, rfl, by simp, ?_, hs, ht⟩
  rw [spIdx, if_pos (by unfold spIn; rw [decide_eq_true hs, decide_eq_true ht]; rfl)]
  simp
 | e :: f :: l, st, i, r, h, _, hs => by
  rw [spGo] at h
  by_cases hT : endT e (ruEr rs e) ≤ st
  ·rw [if_pos hT] at h; cases h
  rw [if_neg hT] at h
  obtain ⟨r2, h2, rfl⟩ := Option.map_eq_some_iff.1 h
  by_cases h3 : t < endT e (ruEr rs e)
  ·refine ⟨0, _, by simp, rfl, by simp, ?_, hs, h3⟩
   rw [spIdx, if_pos (by unfold spIn; rw [decide_eq_true hs, decide_eq_true h3]; rfl)]
   simp
  ·obtain ⟨k, x, a1, a2, a3, a4, a5, a6⟩ := sp_at rs t ht (f :: l) _ (i + 1) r2 h2 (by simp) (Int.not_lt.1 h3)
   refine ⟨k + 1, x, by rw [List.length_cons]; omega, a2, by omega, ?_, a5, a6⟩
   rw [spIdx, if_neg (by unfold spIn; dsimp only; rw [decide_eq_false h3, Bool.and_false]; decide), a4]
   omega
theorem sp_start (rs : List DRule) : ∀ (l : List DEra) (st : Int) (i : Nat) (r : List DSpan), spGo rs l st i = some r → ∀ x ∈ r, st ≤ x.start
 | [], _, _, _, h, x, hx => by
  simp only [spGo, Option.some.injEq] at h
  subst h
  cases hx
 | [e], st, i, r, h, x, hx => by
  simp only [spGo, Option.some.injEq] at h
  subst h
  rw [List.mem_singleton.1 hx]
  exact Int.le_refl _
 | e :: f :: l, st, i, r, h, x, hx => by
  rw [spGo] at h
  by_cases hT : endT e (ruEr rs e) ≤ st
  ·rw [if_pos hT] at h; cases h
  rw [if_neg hT] at h
  obtain ⟨r2, h2, rfl⟩ := Option.map_eq_some_iff.1 h
  rcases List.mem_cons.1 hx with rfl | hx
  ·exact Int.le_refl _
  ·have := sp_start rs (f :: l) _ (i + 1) r2 h2 x hx
   omega
theorem sp_uniq (rs : List DRule) (t : Int) : ∀ (l : List DEra) (st : Int) (i : Nat) (r : List DSpan), spGo rs l st i = some r → ∀ (k : Nat) (x : DSpan), r[k]? = some x → x.start ≤ t → t < x.fin → spIdx t r i = (i : Int) + (k : Nat)
 | [], _, _, _, h, k, x, hx, _, _ => by
  simp only [spGo, Option.some.injEq] at h
  subst h
  simp at hx
 | [e], st, i, r, h, k, x, hx, h1, h2 => by
  simp only [spGo, Option.some.injEq] at h
  subst h
  rcases k with _ | k
  ·simp only [List.getElem?_cons_zero, Option.some.injEq] at hx
   subst hx
   rw [spIdx, if_pos (by unfold spIn; rw [decide_eq_true h1, decide_eq_true h2]; rfl)]
   simp
  ·simp at hx
 | e :: f :: l, st, i, r, h, k, x, hx, h1, h2 => by
  rw [spGo] at h
  by_cases hT : endT e (ruEr rs e) ≤ st
  ·rw [if_pos hT] at h; cases h
  rw [if_neg hT] at h
  obtain ⟨r2, h3, rfl⟩ := Option.map_eq_some_iff.1 h
  rcases k with _ | k
  ·simp only [List.getElem?_cons_zero, Option.some.injEq] at hx
   subst hx
   rw [spIdx, if_pos (by unfold spIn; rw [decide_eq_true h1, decide_eq_true h2]; rfl)]
   simp
  ·simp only [List.getElem?_cons_succ] at hx
   have hs := sp_start rs (f :: l) _ (i + 1) r2 h3 x (List.mem_of_getElem? hx)
   rw [spIdx, if_neg (by unfold spIn; dsimp only; rw [decide_eq_false (show ¬ t < endT e (ruEr rs e) by omega), Bool.and_false]; decide), sp_uniq rs t (f :: l) _ (i + 1) r2 h3 k x hx h1 h2]
   omega
theorem sp_len (rs : List DRule) : ∀ (l : List DEra) (st : Int) (i : Nat) (r : List DSpan), spGo rs l st i = some r → r.length = l.length
 | [], _, _, _, h => by
  simp only [spGo, Option.some.injEq] at h
  subst h
  rfl
 | [e], st, i, r, h => by
  simp only [spGo, Option.some.injEq] at h
  subst h
  rfl
 | e :: f :: l, st, i, r, h => by
  rw [spGo] at h
  by_cases hT : endT e (ruEr rs e) ≤ st
  ·rw [if_pos hT] at h; cases h
  rw [if_neg hT] at h
  obtain ⟨r2, h2, rfl⟩ := Option.map_eq_some_iff.1 h
  rw [List.length_cons, sp_len rs (f :: l) _ (i + 1) r2 h2]; rfl
theorem spGo_some (rs : List DRule) : ∀ (l : List DEra) (st : Int) (i : Nat), (∀ e, l[0]? = some e → 1 < l.length → st < endT e (ruEr rs e)) →
  (∀ k e f, l[k]? = some e → l[k + 1]? = some f → k + 2 < l.length → endT e (ruEr rs e) < endT f (ruEr rs f)) → ∃ r, spGo rs l st i = some r
 | [], _, _, _, _ => ⟨_, rfl⟩
 | [e], _, _, _, _ => ⟨_, rfl⟩
 | e :: f :: l, st, i, h1, h2 => by
  have h3 := h1 e rfl (by simp)
  obtain ⟨r, hr⟩ := spGo_some rs (f :: l) (endT e (ruEr rs e)) (i + 1) (fun g hg hl => by
   cases hg
   exact h2 0 e f rfl rfl (by simp only [List.length_cons] at hl ⊢; omega)) (fun k g u hg hu hl => h2 (k + 1) g u hg hu (by simp only [List.length_cons] at hl ⊢; omega))
  exact ⟨_, by rw [spGo, if_neg (by omega), hr]; rfl⟩
def eraAt (rs : List DRule) (l : List DEra) (t : Int) : Nat := match spAll rs l with
 | some r => (spIdx t r 0).toNat
 | none => 0
theorem sp_find {rs : List DRule} {l : List DEra} {r : List DSpan} (h : spAll rs l = some r) (hl : l ≠ []) {t : Int} (h0 : -9223372036854775808 ≤ t) (h1 : t < 9223372036854775807) :
  ∃ x, eraAt rs l t < l.length ∧ r[eraAt rs l t]? = some x ∧ spFind r t = (x, true) ∧ x.era = (eraAt rs l t : Nat) ∧ x.start ≤ t ∧ t < x.fin := by
 obtain ⟨k, x, a1, a2, a3, a4, a5, a6⟩ := sp_at rs t h1 l _ 0 r h hl h0
 have hk : eraAt rs l t = k := by
  unfold eraAt
  rw [h]
  dsimp only
  rw [a4]
  simp
 refine ⟨x, by rw [hk]; exact a1, by rw [hk]; exact a2, ?_, by rw [hk, a3]; simp, a5, a6⟩
 unfold spFind
 rw [a4, if_neg (by omega), List.getD_eq_getElem?_getD, show (((0 : Nat) : Int) + (k : Nat)).toNat = k by omega, a2]
 rfl
theorem eraAt_uniq {rs : List DRule} {l : List DEra} {r : List DSpan} (h : spAll rs l = some r) {k : Nat} {x : DSpan} (hx : r[k]? = some x) {t : Int} (h1 : x.start ≤ t) (h2 : t < x.fin) : eraAt rs l t = k := by
 unfold eraAt
 rw [h]
 dsimp only
 rw [sp_uniq rs t l _ 0 r h k x hx h1 h2]
 simp
def locAt (rs : List DRule) (l : List DEra) (t : Int) : DLocal := localD (l.getD (eraAt rs l t) dE0) (stateD rs (l.getD (eraAt rs l t) dE0) t)
section
variable {P : Int × ByteArray → Prop} {l : List DRule}
theorem behS_P (h0 : P (0, ByteArray.empty)) (hr : ∀ r ∈ l, P (r.save, r.letter)) (e : DEvent) : P (behS l e) := by
 unfold behS ruE
 rw [List.getD_eq_getElem?_getD]
 cases hx : l[e.rule.toNat]? with
 | none => exact h0
 | some r => exact hr r (List.mem_of_getElem? hx)
theorem iniS_P (h0 : P (0, ByteArray.empty)) (hr : ∀ r ∈ l, P (r.save, r.letter)) : P (iniS l) := by
 unfold iniS
 cases fstD l true 0 with
 | none => exact h0
 | some e =>
  dsimp only
  cases fstD l false (ruE l e).save with
  | none => exact behS_P h0 hr e
  | some o => exact behS_P h0 hr o
theorem befS_P (h0 : P (0, ByteArray.empty)) (hr : ∀ r ∈ l, P (r.save, r.letter)) (n : Int) : P (befS l n) := by
 unfold befS
 cases befD l n with
 | none => exact iniS_P h0 hr
 | some e => exact behS_P h0 hr e
theorem atGo_P (h0 : P (0, ByteArray.empty)) (hr : ∀ r ∈ l, P (r.save, r.letter)) (off t : Int) : ∀ (k : Nat) (n : Int), P (atGo l off t k n)
 | 0, n => befS_P h0 hr n
 | k + 1, n => by
  rw [atGo]
  cases befD l n with
  | none => exact iniS_P h0 hr
  | some e =>
   dsimp only
   split
   ·exact behS_P h0 hr e
   ·exact atGo_P h0 hr off t k _
end
theorem stateD_P {P : Int × ByteArray → Prop} {rs : List DRule} {e : DEra} (h0 : P (0, ByteArray.empty)) (h1 : e.kind = 1 → P (e.save, ByteArray.empty)) (hr : e.kind ≠ 0 → e.kind ≠ 1 → ∀ r ∈ ofB rs e.set, P (r.save, r.letter)) (t : Int) : P (stateD rs e t) := by
 unfold stateD
 split
 ·exact h0
 ·split
  ·exact h1 ‹_›
  ·exact atGo_P h0 (hr ‹_› ‹_›) _ _ _ _
def DrSt (e : DEra) (x : Int × ByteArray) : Prop := (-54000 ≤ e.off + x.1 ∧ e.off + x.1 ≤ 54000) ∧ (-10800 ≤ x.1 ∧ x.1 ≤ 10800) ∧ x.2 ∈ [ByteArray.empty, ⟨#[83]⟩, ⟨#[68]⟩, ⟨#[68, 84]⟩]
theorem DrEra.st0 {rs : List DRule} {e : DEra} {b : Bool} (h : DrEra rs e b) : DrSt e (0, ByteArray.empty) := by
 refine ⟨?_, by decide, .head _⟩
 rcases h with ⟨_, _, _, h1, h2, _⟩ | ⟨_, _, _, h1, h2, _⟩ | ⟨_, _, _, h1, h2, _⟩ <;> dsimp only <;> omega
theorem DrEra.st1 {rs : List DRule} {e : DEra} {b : Bool} (h : DrEra rs e b) (hk : e.kind = 1) : DrSt e (e.save, ByteArray.empty) := by
 rcases h with ⟨h0, _⟩ | ⟨_, ⟨h3, h4⟩, _, h1, h2, _⟩ | ⟨h0, _⟩
 ·omega
 ·exact ⟨by dsimp only; omega, by dsimp only; omega, .head _⟩
 ·omega
theorem DrEra.st2 {rs : List DRule} {e : DEra} {b : Bool} (h : DrEra rs e b) (hk0 : e.kind ≠ 0) (hk1 : e.kind ≠ 1) : ∀ r ∈ ofB rs e.set, DrSt e (r.save, r.letter) := fun r hr => by
 rcases h with ⟨h0, _⟩ | ⟨h0, _⟩ | ⟨_, _, _, h1, h2, _, h3, _⟩
 ·exact absurd h0 hk0
 ·exact absurd h0 hk1
 ·have hd := h3.rule r hr
  have hs := hd.save
  exact ⟨by dsimp only; omega, by dsimp only; omega, hd.letter⟩
theorem DrEra.state {rs : List DRule} {e : DEra} {b : Bool} (h : DrEra rs e b) (t : Int) : DrSt e (stateD rs e t) := stateD_P h.st0 h.st1 h.st2 t
theorem DrEra.befS {rs : List DRule} {e : DEra} {b : Bool} (h : DrEra rs e b) (hk : e.kind = 2) (n : Int) : DrSt e (Go.Wk.befS (ofB rs e.set) n) := befS_P h.st0 (h.st2 (by omega) (by omega)) n
def pOk (f : List UInt8) : Option (List UInt8 × List UInt8) → Bool
 | some (a, b) => decide (a ≠ []) && decide (b ≠ [])
 | none => decide (kindF f = 1) && decide (f ≠ [])
theorem fmtsL_abbr : ∀ f ∈ fmtsL, pOk f (partsF f) = true := by decide +kernel
theorem fmtsS_abbr : ∀ f ∈ fmtsS, ∀ x ∈ lets4L, (abbrF f 0 0 x).2 = 0 ∧ (abbrF f 0 0 x).1 ≠ [] := by decide +kernel
theorem abbr_dr {e : DEra} (hf : e.format ∈ fmtU) {x : Int × ByteArray} (hx : DrSt e x) : abE e x = 0 ∧ abbrE e x.1 x.2 ≠ ByteArray.empty := by
 obtain ⟨⟨h1, h2⟩, _, h3⟩ := hx
 have key : (abbrF e.format.data.toList e.off x.1 x.2.data.toList).2 = 0 ∧ (abbrF e.format.data.toList e.off x.1 x.2.data.toList).1 ≠ [] := by
  rcases fmt_cases hf with h | h | h
  ·have := fmtsL_abbr _ h
   unfold abbrF
   cases hp : partsF e.format.data.toList with
   | none =>
    rw [hp] at this
    simp only [pOk, Bool.and_eq_true, decide_eq_true_eq] at this
    dsimp only
    rw [this.1, if_neg (by decide), if_neg (by decide), if_pos (.inl rfl)]
    exact ⟨rfl, this.2⟩
   | some ab =>
    obtain ⟨a, b⟩ := ab
    rw [hp] at this
    simp only [pOk, Bool.and_eq_true, decide_eq_true_eq] at this
    dsimp only
    refine ⟨rfl, ?_⟩
    split
    ·exact this.1
    ·exact this.2
  ·have h4 := fmtsS_abbr _ h _ (lets_mem h3)
   have h5 := fmtsS_parts.1 _ h
   have h6 := (fmts_kind.2.1 _ h).1
   unfold abbrF at h4 ⊢
   rw [h5] at h4 ⊢
   dsimp only at h4 ⊢
   rw [if_pos h6] at h4 ⊢
   exact h4
  ·rw [h]
   unfold abbrF
   rw [fmtsS_parts.2]
   dsimp only
   have ht := textN_ok' (e.off + x.1) (by omega)
   rw [fmts_kind.2.2, if_neg (by decide), if_pos rfl, if_pos ⟨by unfold i64ok; simp; omega, ht⟩]
   exact ⟨rfl, ht⟩
 refine ⟨key.1, fun h => key.2 ?_⟩
 unfold abbrE at h
 have := congrArg (fun b => b.data.toList) h
 simpa using this
theorem til_sec {u : DUntil} {least n : Int} (h : nominalU u least = (n, 0)) (hc : untilChk u least = 0) (hl : -3600 ≤ least ∧ least ≤ 0) : n ≤ 86400 * (onD u.year u.month u.day).1 + u.at_.sec ∧ 86400 * (onD u.year u.month u.day).1 + u.at_.sec ≤ n + 3600 := by
 unfold nominalU at h
 rw [if_neg (by rw [hc]; decide)] at h
 have h1 : 86400 * (onD u.year u.month u.day).1 + u.at_.sec + (if u.at_.base = 1 then least else 0) = n := congrArg Prod.fst h
 split at h1 <;> omega
theorem DrEra.rs {rs : List DRule} {e : DEra} {b : Bool} (h : DrEra rs e b) : RsSm (ruEr rs e) := by
 have hd : ∀ r ∈ ruEr rs e, DrRule r ∧ (ruEr rs e).length ≤ 5 := by
  rcases h with ⟨h0, _⟩ | ⟨h0, _⟩ | ⟨h0, _, _, h1, h2, _, h3, h4⟩
  ·unfold ruEr; rw [if_neg (by omega)]; exact fun r hr => by cases hr
  ·unfold ruEr; rw [if_neg (by omega)]; exact fun r hr => by cases hr
  ·unfold ruEr; rw [if_pos h0]; exact fun r hr => ⟨h3.rule r hr, h4⟩
 refine ⟨?_, fun r hr => ?_, fun r hr => ?_, fun r hr => ?_⟩
 ·cases hl : ruEr rs e with
  | nil => decide
  | cons r l => have := (hd r (by rw [hl]; exact List.mem_cons_self)).2; rw [hl] at this; omega
 ·have := (hd r hr).1.save; omega
 ·have := (hd r hr).1.f1; omega
 ·have := (hd r hr).1.ft; have := (hd r hr).1.f0; omega
theorem inClk_of {n : Int} (h : -604799 ≤ n ∧ n ≤ 604799) : inClk n = true := by unfold inClk; simp; exact h
theorem DrEra.bs {rs : List DRule} {e : DEra} {b : Bool} (h : DrEra rs e b) : -3600 ≤ Go.Wk.bsE e (ruEr rs e) ∧ Go.Wk.bsE e (ruEr rs e) ≤ 0 := by
 have := h.least
 unfold setOf at this
 unfold Go.Wk.bsE ruEr
 split
 ·rw [if_pos ‹_›] at this
  omega
 ·decide
theorem DrEra.bf {rs : List DRule} {e : DEra} {b : Bool} (h : DrEra rs e b) (n : Int) : -10800 ≤ bfE e (ruEr rs e) n ∧ bfE e (ruEr rs e) n ≤ 10800 := by
 unfold bfE
 split
 ·have := (h.st1 ‹_›).2.1
  exact this
 ·split
  ·unfold ruEr
   rw [if_pos ‹_›]
   exact (h.befS ‹_› n).2.1
  ·decide
theorem DrEra.un {rs : List DRule} {e : DEra} {b : Bool} (h : DrEra rs e b) {Y : Int} (hT : DrTil e.til Y) (hY : 1850 ≤ Y ∧ Y ≤ 2148) :
  UnOk e (ruEr rs e) ∧ 86400 * (mar1 Y + 279) - 70000 ≤ endT e (ruEr rs e) ∧ endT e (ruEr rs e) ≤ 86400 * (mar1 Y + 327) + 70000 := by
 obtain ⟨t1, t2, n, t3, t4, t5⟩ := hT.nom hY h.bs
 have h0 := h.st0.1
 have hb := h.bf (nominalU e.til (Go.Wk.bsE e (ruEr rs e))).1
 have hsc := til_sec t3 t2 h.bs
 dsimp only at h0
 have hk : 0 ≤ e.kind ∧ e.kind ≤ 2 := by rcases h with ⟨h0, _⟩ | ⟨h0, _⟩ | ⟨h0, _⟩ <;> omega
 have hs : -10800 ≤ e.save ∧ e.save ≤ 10800 := by
  rcases h with ⟨_, h0, _⟩ | ⟨_, h0, _⟩ | ⟨_, _, h0, _⟩ <;> omega
 refine ⟨⟨hk, inClk_of (by omega), inClk_of (by omega), t2, inClk_of (by unfold endB; omega)⟩, ?_⟩
 unfold endT
 unfold endB
 split
 ·omega
 ·split <;> omega
theorem DrEras.un {rs : List DRule} {l : List DEra} {Y : Nat → Int} (h : DrEras rs l Y) (k : Nat) (e : DEra) (he : l[k]? = some e) (hk : k + 1 < l.length) : RsSm (ruEr rs e) ∧ UnOk e (ruEr rs e) := by
 have hT := h.til k e he
 rw [if_pos hk] at hT
 exact ⟨(h.era k e he).rs, ((h.era k e he).un hT (h.yr k hk)).1⟩
theorem DrEras.sp {rs : List DRule} {l : List DEra} {Y : Nat → Int} (h : DrEras rs l Y) : ∃ r, spAll rs l = some r := by
 refine spGo_some rs l _ 0 (fun e he hl => ?_) (fun k e f he hf hl => ?_)
 ·have hT := h.til 0 e he
  rw [if_pos hl] at hT
  have hy := h.yr 0 hl
  obtain ⟨_, h1, _⟩ := (h.era 0 e he).un hT hy
  have hm : mar1 1850 ≤ mar1 (Y 0) := mar1_le hy.1
  have h5 : -50000 ≤ mar1 1850 := by decide
  omega
 ·have hT := h.til k e he
  rw [if_pos (by omega)] at hT
  have hT2 := h.til (k + 1) f hf
  rw [if_pos (by omega)] at hT2
  obtain ⟨_, _, h1⟩ := (h.era k e he).un hT (h.yr k (by omega))
  obtain ⟨_, h2, _⟩ := (h.era (k + 1) f hf).un hT2 (h.yr (k + 1) (by omega))
  have := mar1_lt (h.inc k (by omega))
  omega
end Go.Proofs.YtonjepladadmhaaGreatDoor
