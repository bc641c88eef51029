/- Parts of the proof. -/
import Derived.Test.YtpcpmndldgejiaaGreatDoorV21
import Derived.Test.YtpcpmndldgejiaaGreatDoorV26
import Derived.Test.YtpcpmndldgejiaaGreatDoorV12
import Derived.Test.YtpcpmndldgejiaaGreatDoorV19
import Derived.Test.YtpcpmndldgejiaaGreatDoorV22
import Derived.Test.YtpcpmndldgejiaaGreatDoorV10
import Derived.Test.YtpcpmndldgejiaaGreatDoorV17
import Derived.Test.YtpcpmndldgejiaaGreatDoorV16
set_option maxHeartbeats 4000000
set_option linter.unusedVariables false
set_option linter.unusedSimpArgs false
namespace Go.Proofs.YtpcpmndldgejiaaGreatDoor
open Go Go.RowKit Go.Wk
attribute [local irreducible] W RL Does Zat Zak retQ Calls Pu Stp RD Qy Ay Zam
theorem accTe (Ar Az Al As : Option Addr) (cr cz cl cs : Nat) (a : Zaf) (p : Zax) (e : Int) (w : World) (h : AccOk w Ar Az Al As cr cz cl cs a) (hf : accD a = some (p, e)) :
  Does Tryz.prog 21 [srcV Ar Az Al As cr cz cl cs a] w (fun v O => (∃ p1 p2 p3, v = .tuple #[.agg #[.int .i64 p1, .int .i64 p2, .int .i64 p3], .int .i64 e]) ∧ O = []) := by
 have := acc_spec Ar Az Al As cr cz cl cs a w h.L h.G h.A h.S h.V h.Z
 rw [hf] at this
 exact this.mono fun v O hv => ⟨⟨p.part, p.index, p.era, hv.1⟩, hv.2⟩
theorem accTn (Ar Az Al As : Option Addr) (cr cz cl cs : Nat) (a : Zaf) (w : World) (h : AccOk w Ar Az Al As cr cz cl cs a) (hf : accD a = none) :
  Does Tryz.prog 21 [srcV Ar Az Al As cr cz cl cs a] w (fun v O => v = .tuple #[.agg #[.int .i64 0, .int .i64 0, .int .i64 0], .int .i64 0] ∧ O = []) := by
 have := acc_spec Ar Az Al As cr cz cl cs a w h.L h.G h.A h.S h.V h.Z
 rwa [hf] at this
def meCells : List Value := [fnV 287, fnV 288, fnV 289]
def MeG (w : World) : Prop := Zap w ⟨0, 0, none⟩ meCells
theorem MeG.up {w w' : World} (h : MeG w) (hb : Bel w.heap.size w w') : MeG w' := Zap.up h hb (Nat.le_refl _)
def meFn (k : Int) : FuncId := if k = 0 then 287 else if k = 1 then 288 else 289
theorem me_at {w : World} (hF : MeG w) (k : Int) (hk : 0 ≤ k ∧ k ≤ 2) : Zap w ((⟨0, 0, none⟩ : Addr).add (k.toNat * 1)) [fnV (meFn k)] := by
 have hc : k = 0 ∨ k = 1 ∨ k = 2 := by omega
 intro j v hj
 have hj0 : j = 0 := by
  rcases j with _ | j
  ·rfl
  ·cases j <;> cases hj
 subst hj0
 rcases hc with rfl | rfl | rfl
 ·exact hF 0 _ hj
 ·exact hF 1 _ hj
 ·exact hF 2 _ hj
def ZbX (rs : List Zaa) (e : DEra) (t : Int) : Int × ByteArray := if e.kind = 0 then (0, ByteArray.empty) else if e.kind = 1 then (e.save, ByteArray.empty) else atS (ofB rs e.set) e.off t
theorem mstate_spec (Ar Az Al As : Option Addr) (cr cz cl cs : Nat) (a : Zaf) (e : DEra) (t : Int) (w : World) (hG : Glob w) (hA : Zao w Ar Az Al As cr cz cl cs a) (hn : a.rules.length ≤ 1000000) (hk : 0 ≤ e.kind ∧ e.kind ≤ 2) (hr : e.kind = 2 → RsSm (ofB a.rules e.set)) (ho : -1000000000 ≤ e.off ∧ e.off ≤ 1000000000) (ht : -1000000000000000000 ≤ t ∧ t ≤ 1000000000000000000) :
  Does Tryz.prog (meFn e.kind) [srcV Ar Az Al As cr cz cl cs a, .agg e.enc.toArray, .int .i64 t] w (fun v O => v = stV (ZbX a.rules e t) ∧ O = []) := by
 have hof := fun w' (hw : Bel w.heap.size w w') => ofN_spec Ar Az Al As cr cz cl cs a e.set w' (hA.up hw) hn
 have hsa := fun (A : Option Addr) (c : Nat) w' (hw : Bel w.heap.size w w') (hR : RdSl w' A c Zaa.enc 11 (ofB a.rules e.set)) (h2 : e.kind = 2) => stAt_spec A c (ofB a.rules e.set) e.off t w' (hG.up hw) hR (hr h2) ho ht
 unfold ZbX
 have hc : e.kind = 0 ∨ e.kind = 1 ∨ e.kind = 2 := by omega
 generalize atS (ofB a.rules e.set) e.off t = x at *
 generalize ofB a.rules e.set = rr at *
 obtain ⟨off, kd, esv, sset, fm, ⟨ui, uy, um, ⟨ud1, ud2, ud3⟩, ⟨uc1, uc2⟩⟩⟩ := e
 obtain ⟨xs, xl⟩ := x
 dsimp only at hc hof hsa ⊢
 unfold stV at hsa ⊢
 rcases hc with rfl | rfl | rfl
 ·show Does _ 287 [.agg #[.slice Ar a.rules.length cr, .slice Az a.zones.length cz, .slice Al a.links.length cl, .slice As a.shifts.length cs], .agg #[.int .i64 off, .int .i64 0, .int .i64 esv, .string sset, .string fm, .bool ui, .int .i64 uy, .int .i64 um, .int .i64 ud1, .int .i64 ud2, .int .i64 ud3, .int .i64 uc1, .int .i64 uc2], .int .i64 t] w _
  refine Zab Tryz.func287 rfl rfl rfl rfl ?_
  repeat (first | (refine js ?_; (refine bx ?_; intro bk)) | refine walk ?_)
  exact ret_1 _ [] (.cellB rfl (by repeat' constructor) rfl rfl) .nil ⟨rfl, rfl⟩
 ·show Does _ 288 [.agg #[.slice Ar a.rules.length cr, .slice Az a.zones.length cz, .slice Al a.links.length cl, .slice As a.shifts.length cs], .agg #[.int .i64 off, .int .i64 1, .int .i64 esv, .string sset, .string fm, .bool ui, .int .i64 uy, .int .i64 um, .int .i64 ud1, .int .i64 ud2, .int .i64 ud3, .int .i64 uc1, .int .i64 uc2], .int .i64 t] w _
  refine Zab Tryz.func288 rfl rfl rfl rfl ?_
  repeat (first | (refine js ?_; (refine bx ?_; intro bk)) | refine walk ?_)
  exact ret_1 _ [] (.cellB rfl (by repeat' constructor) rfl rfl) .nil ⟨rfl, rfl⟩
 ·show Does _ 289 [.agg #[.slice Ar a.rules.length cr, .slice Az a.zones.length cz, .slice Al a.links.length cl, .slice As a.shifts.length cs], .agg #[.int .i64 off, .int .i64 2, .int .i64 esv, .string sset, .string fm, .bool ui, .int .i64 uy, .int .i64 um, .int .i64 ud1, .int .i64 ud2, .int .i64 ud3, .int .i64 uc1, .int .i64 uc2], .int .i64 t] w _
  refine Zab Tryz.func289 rfl rfl rfl rfl ?_
  repeat (first | refine walk ?_ | (refine jg ?_; (try intro F); (first | (apply Zah (h := fun w' hw _ => hof w' hw); rfl; rintro v O' ⟨A3, c3, rfl, rfl⟩) | (refine ZaW (fun w' hw hO => hsa A3 c3 w' hw (Za3 Zaa.len (hO.of (by repeat' constructor))) rfl) ?_) | (refine bx ?_; intro bk) | (refine stA ?_)); refine fin ?_) | (refine jn ?_; (try intro F); (first | (refine bx ?_; intro bk) | (refine stA ?_) | (apply Zae; exact PuA)); refine fin ?_) | (apply RD_W; rfl; intro bk))
  exact ret_1 _ [] (.cellB rfl (by repeat' constructor) rfl rfl) .nil ⟨rfl, rfl⟩
structure Zdl where
 off : Int
 dst : Bool
 abbr : ByteArray
deriving DecidableEq
def Zdl.enc (x : Zdl) : List Value := [.int .i64 x.off, .bool x.dst, .string x.abbr]
def localD (e : DEra) (x : Int × ByteArray) : Zdl := ⟨e.off + x.1, !decide (x.1 = 0), abbrE e x.1 x.2⟩
def abE (e : DEra) (x : Int × ByteArray) : Int := (Zcg e.format.data.toList e.off x.1 x.2.data.toList).2
structure LcOk (rs : List Zaa) (e : DEra) : Prop where
 k : 0 ≤ e.kind ∧ e.kind ≤ 2
 o : -1000000000 ≤ e.off ∧ e.off ≤ 1000000000
 s : -1000000000 ≤ e.save ∧ e.save ≤ 1000000000
 r : e.kind = 2 → RsSm (ofB rs e.set)
 f : e.format.size ≤ 1000000000
theorem PuMeA0 {G : Prop} (h : G := by (first | (apply Zbn; rfl; rfl; omega; omega) | (apply Pu_loadO1; rfl; exact hcell 0 _ rfl))) : G := h
theorem QyMeA0 {G : Prop} (h : G := by first | (apply Qy_y; rfl; exact PuMeA0) | exact QyA) : G := h
theorem QFMeA0 {G : Prop} (h : G := by repeat (first | exact QF.nil | (apply QF.mk; rfl; rfl; decide +kernel; exact QyMeA0))) : G := h
theorem local26_spec (Ar Az Al As : Option Addr) (cr cz cl cs : Nat) (a : Zaf) (e : DEra) (t : Int) (w : World) (hL : LibW w) (hG : Glob w) (hM : MeG w) (hA : Zao w Ar Az Al As cr cz cl cs a) (hn : a.rules.length ≤ 1000000) (he : LcOk a.rules e) (ht : -1000000000000000000 ≤ t ∧ t ≤ 1000000000000000000)
  (hx : -1000000000 ≤ (ZbX a.rules e t).1 ∧ (ZbX a.rules e t).1 ≤ 1000000000) (hxl : (ZbX a.rules e t).2.size ≤ 1000000000) (hab : abE e (ZbX a.rules e t) = 0) :
  Does Tryz.prog 35 [srcV Ar Az Al As cr cz cl cs a, .agg e.enc.toArray, .int .i64 t] w (fun v O => v = .tuple #[.agg (localD e (ZbX a.rules e t)).enc.toArray, .int .i64 0] ∧ O = []) := by
 have hst := fun w' (hw : Bel w.heap.size w w') => mstate_spec Ar Az Al As cr cz cl cs a e t w' (hG.up hw) (hA.up hw) hn he.k he.r he.o ht
 have hcell := me_at hM e.kind he.k
 have hk := he.k
 have ho := he.o
 haveI : Body Tryz.prog (meFn e.kind) := by
  unfold meFn
  split
  ·infer_instance
  ·split <;> infer_instance
 generalize ZbX a.rules e t = x at *
 have hfa := fun w' (hw : Bel w.heap.size w w') => fabbr_spec e.format x.2 e.off x.1 w' (hL.up hw) he.f hxl (by unfold I64; omega) (by unfold I64; omega)
 unfold abE at hab
 unfold xpV at hfa
 rw [hab] at hfa
 unfold localD
 change ∀ w', Bel w.heap.size w w' → Does _ _ _ w' (fun v O => v = .tuple #[.string (abbrE e x.1 x.2), .int .i64 0] ∧ O = []) at hfa
 generalize abbrE e x.1 x.2 = ab at *
 obtain ⟨xs, xl⟩ := x
 obtain ⟨off, kd, esv, sset, fm, ⟨ui, uy, um, ⟨ud1, ud2, ud3⟩, ⟨uc1, uc2⟩⟩⟩ := e
 dsimp only at hst hcell hk ho hx hfa ⊢
 unfold stV at hst
 simp only [Zdl.enc]
 show Does _ _ [.agg #[.slice Ar a.rules.length cr, .slice Az a.zones.length cz, .slice Al a.links.length cl, .slice As a.shifts.length cs], .agg #[.int .i64 off, .int .i64 kd, .int .i64 esv, .string sset, .string fm, .bool ui, .int .i64 uy, .int .i64 um, .int .i64 ud1, .int .i64 ud2, .int .i64 ud3, .int .i64 uc1, .int .i64 uc2], .int .i64 t] w _
 generalize meFn kd = kf at *
 refine Zab Tryz.func35 rfl rfl rfl rfl ?_
 repeat (first | (apply RL_pu; rfl; exact PuMeA0) | (apply RD_Q; rfl; rfl; decide +kernel; rfl; rfl; exact QyMeA0) | refine walk1 ?_ | (refine jg ?_; (try intro F); (first | (apply ZaA (f := kf) (us := []) (cs := []) (vs := [.agg #[.slice Ar a.rules.length cr, .slice Az a.zones.length cz, .slice Al a.links.length cl, .slice As a.shifts.length cs], .agg #[.int .i64 off, .int .i64 kd, .int .i64 esv, .string sset, .string fm, .bool ui, .int .i64 uy, .int .i64 um, .int .i64 ud1, .int .i64 ud2, .int .i64 ud3, .int .i64 uc1, .int .i64 uc2], .int .i64 t]) (h := fun w' hw _ => hst w' hw); rfl; rfl; rintro v O' ⟨rfl, rfl⟩) | (refine Zad hfa ?_) | (refine bx ?_; intro bk) | (refine stA ?_)); first | refine ⟨_, EndsA, QFMeA0, ?_⟩ | refine fin ?_) | (refine jn ?_; (try intro F); (first | (refine bx ?_; intro bk) | (refine stA ?_) | (apply Zae; first | exact PuMeA0 | exact PuA)); first | refine ⟨_, EndsA, QFMeA0, ?_⟩ | refine fin ?_) | (apply RD_W; rfl; intro bk))
 exact rtC
end Go.Proofs.YtpcpmndldgejiaaGreatDoor
namespace Go.Proofs.YtpcpmndldgejiaaGreatDoor
open Go Go.RowKit Go.Wk
theorem sp_at (rs : List Zaa) (t : Int) (ht : t < 9223372036854775807) : ∀ (l : List DEra) (st : Int) (i : Nat) (r : List ZbI), spGo rs l st i = some r → l ≠ [] → st ≤ t →
  ∃ k x, k < l.length ∧ r[k]? = some x ∧ x.era = (i : Int) + (k : Nat) ∧ Zeg t r i = (i : Int) + (k : Nat) ∧ x.start ≤ t ∧ t < x.fin
 | [], _, _, _, _, h, _ => absurd rfl h
 | [e], st, i, r, h, _, hs => by
  simp only [spGo, Option.some.injEq] at h
  subst h
  refine ⟨0, _, Nat.zero_lt_one, rfl, by simp, ?_, hs, ht⟩
  rw [Zeg, if_pos (by unfold spIn; rw [decide_eq_true hs, decide_eq_true ht]; rfl)]
  simp
 | e :: f :: l, st, i, r, h, _, hs => by
  rw [spGo] at h
  by_cases hT : endT e (ruEr rs e) ≤ st
  ·rw [if_pos hT] at h; cases h
  rw [if_neg hT] at h
  obtain ⟨r2, h2, rfl⟩ := Option.map_eq_some_iff.1 h
  by_cases h3 : t < endT e (ruEr rs e)
  ·refine ⟨0, _, by simp, rfl, by simp, ?_, hs, h3⟩
   rw [Zeg, if_pos (by unfold spIn; rw [decide_eq_true hs, decide_eq_true h3]; rfl)]
   simp
  ·obtain ⟨k, x, a1, a2, a3, a4, a5, a6⟩ := sp_at rs t ht (f :: l) _ (i + 1) r2 h2 (by simp) (Int.not_lt.1 h3)
   refine ⟨k + 1, x, by rw [List.length_cons]; omega, a2, by omega, ?_, a5, a6⟩
   rw [Zeg, if_neg (by unfold spIn; dsimp only; rw [decide_eq_false h3, Bool.and_false]; decide), a4]
   omega
theorem spGo_some (rs : List Zaa) : ∀ (l : List DEra) (st : Int) (i : Nat), (∀ e, l[0]? = some e → 1 < l.length → st < endT e (ruEr rs e)) →
  (∀ k e f, l[k]? = some e → l[k + 1]? = some f → k + 2 < l.length → endT e (ruEr rs e) < endT f (ruEr rs f)) → ∃ r, spGo rs l st i = some r
 | [], _, _, _, _ => ⟨_, rfl⟩
 | [e], _, _, _, _ => ⟨_, rfl⟩
 | e :: f :: l, st, i, h1, h2 => by
  have h3 := h1 e rfl (by simp)
  obtain ⟨r, hr⟩ := spGo_some rs (f :: l) (endT e (ruEr rs e)) (i + 1) (fun g hg hl => by
   cases hg
   exact h2 0 e f rfl rfl (by simp only [List.length_cons] at hl ⊢; omega)) (fun k g u hg hu hl => h2 (k + 1) g u hg hu (by simp only [List.length_cons] at hl ⊢; omega))
  exact ⟨_, by rw [spGo, if_neg (by omega), hr]; rfl⟩
def eraAt (rs : List Zaa) (l : List DEra) (t : Int) : Nat := match spAll rs l with
 | some r => (Zeg t r 0).toNat
 | none => 0
theorem sp_find {rs : List Zaa} {l : List DEra} {r : List ZbI} (h : spAll rs l = some r) (hl : l ≠ []) {t : Int} (h0 : -9223372036854775808 ≤ t) (h1 : t < 9223372036854775807) :
  ∃ x, eraAt rs l t < l.length ∧ r[eraAt rs l t]? = some x ∧ spFind r t = (x, true) ∧ x.era = (eraAt rs l t : Nat) ∧ x.start ≤ t ∧ t < x.fin := by
 obtain ⟨k, x, a1, a2, a3, a4, a5, a6⟩ := sp_at rs t h1 l _ 0 r h hl h0
 have hk : eraAt rs l t = k := by
  unfold eraAt
  rw [h]
  dsimp only
  rw [a4]
  simp
 refine ⟨x, by rw [hk]; exact a1, by rw [hk]; exact a2, ?_, by rw [hk, a3]; simp, a5, a6⟩
 unfold spFind
 rw [a4, if_neg (by omega), List.getD_eq_getElem?_getD, show (((0 : Nat) : Int) + (k : Nat)).toNat = k by omega, a2]
 rfl
def locAt (rs : List Zaa) (l : List DEra) (t : Int) : Zdl := localD (l.getD (eraAt rs l t) dE0) (ZbX rs (l.getD (eraAt rs l t) dE0) t)
section
variable {P : Int × ByteArray → Prop} {l : List Zaa}
theorem behS_P (h0 : P (0, ByteArray.empty)) (hr : ∀ r ∈ l, P (r.save, r.letter)) (e : Zac) : P (behS l e) := by
 unfold behS ruE
 rw [List.getD_eq_getElem?_getD]
 cases hx : l[e.rule.toNat]? with
 | none => exact h0
 | some r => exact hr r (List.mem_of_getElem? hx)
theorem iniS_P (h0 : P (0, ByteArray.empty)) (hr : ∀ r ∈ l, P (r.save, r.letter)) : P (iniS l) := by
 unfold iniS
 cases fstD l true 0 with
 | none => exact h0
 | some e =>
  dsimp only
  cases fstD l false (ruE l e).save with
  | none => exact behS_P h0 hr e
  | some o => exact behS_P h0 hr o
theorem befS_P (h0 : P (0, ByteArray.empty)) (hr : ∀ r ∈ l, P (r.save, r.letter)) (n : Int) : P (befS l n) := by
 unfold befS
 cases befD l n with
 | none => exact iniS_P h0 hr
 | some e => exact behS_P h0 hr e
theorem atGo_P (h0 : P (0, ByteArray.empty)) (hr : ∀ r ∈ l, P (r.save, r.letter)) (off t : Int) : ∀ (k : Nat) (n : Int), P (atGo l off t k n)
 | 0, n => befS_P h0 hr n
 | k + 1, n => by
  rw [atGo]
  cases befD l n with
  | none => exact iniS_P h0 hr
  | some e =>
   dsimp only
   split
   ·exact behS_P h0 hr e
   ·exact atGo_P h0 hr off t k _
end
theorem stateD_P {P : Int × ByteArray → Prop} {rs : List Zaa} {e : DEra} (h0 : P (0, ByteArray.empty)) (h1 : e.kind = 1 → P (e.save, ByteArray.empty)) (hr : e.kind ≠ 0 → e.kind ≠ 1 → ∀ r ∈ ofB rs e.set, P (r.save, r.letter)) (t : Int) : P (ZbX rs e t) := by
 unfold ZbX
 split
 ·exact h0
 ·split
  ·exact h1 ‹_›
  ·exact atGo_P h0 (hr ‹_› ‹_›) _ _ _ _
def DrSt (e : DEra) (x : Int × ByteArray) : Prop := (-54000 ≤ e.off + x.1 ∧ e.off + x.1 ≤ 54000) ∧ (-10800 ≤ x.1 ∧ x.1 ≤ 10800) ∧ x.2 ∈ [ByteArray.empty, ⟨#[83]⟩, ⟨#[68]⟩, ⟨#[68, 84]⟩]
theorem Zbs.st0 {rs : List Zaa} {e : DEra} {b : Bool} (h : Zbs rs e b) : DrSt e (0, ByteArray.empty) := by
 refine ⟨?_, by decide, .head _⟩
 rcases h with ⟨_, _, _, h1, h2, _⟩ | ⟨_, _, _, h1, h2, _⟩ | ⟨_, _, _, h1, h2, _⟩ <;> dsimp only <;> omega
theorem Zbs.st1 {rs : List Zaa} {e : DEra} {b : Bool} (h : Zbs rs e b) (hk : e.kind = 1) : DrSt e (e.save, ByteArray.empty) := by
 rcases h with ⟨h0, _⟩ | ⟨_, ⟨h3, h4⟩, _, h1, h2, _⟩ | ⟨h0, _⟩
 ·omega
 ·exact ⟨by dsimp only; omega, by dsimp only; omega, .head _⟩
 ·omega
theorem Zbs.st2 {rs : List Zaa} {e : DEra} {b : Bool} (h : Zbs rs e b) (hk0 : e.kind ≠ 0) (hk1 : e.kind ≠ 1) : ∀ r ∈ ofB rs e.set, DrSt e (r.save, r.letter) := fun r hr => by
 rcases h with ⟨h0, _⟩ | ⟨h0, _⟩ | ⟨_, _, _, h1, h2, _, h3, _⟩
 ·exact absurd h0 hk0
 ·exact absurd h0 hk1
 ·have hd := h3.rule r hr
  have hs := hd.save
  exact ⟨by dsimp only; omega, by dsimp only; omega, hd.letter⟩
theorem Zbs.state {rs : List Zaa} {e : DEra} {b : Bool} (h : Zbs rs e b) (t : Int) : DrSt e (ZbX rs e t) := stateD_P h.st0 h.st1 h.st2 t
theorem Zbs.befS {rs : List Zaa} {e : DEra} {b : Bool} (h : Zbs rs e b) (hk : e.kind = 2) (n : Int) : DrSt e (Go.Wk.befS (ofB rs e.set) n) := befS_P h.st0 (h.st2 (by omega) (by omega)) n
def pOk (f : List UInt8) : Option (List UInt8 × List UInt8) → Bool
 | some (a, b) => decide (a ≠ []) && decide (b ≠ [])
 | none => decide (ZbK f = 1) && decide (f ≠ [])
theorem fmtsL_abbr : ∀ f ∈ fmtsL, pOk f (ZcZ f) = true := by decide +kernel
theorem fmtsS_abbr : ∀ f ∈ fmtsS, ∀ x ∈ lets4L, (Zcg f 0 0 x).2 = 0 ∧ (Zcg f 0 0 x).1 ≠ [] := by decide +kernel
theorem abbr_dr {e : DEra} (hf : e.format ∈ fmtU) {x : Int × ByteArray} (hx : DrSt e x) : abE e x = 0 ∧ abbrE e x.1 x.2 ≠ ByteArray.empty := by
 obtain ⟨⟨h1, h2⟩, _, h3⟩ := hx
 have key : (Zcg e.format.data.toList e.off x.1 x.2.data.toList).2 = 0 ∧ (Zcg e.format.data.toList e.off x.1 x.2.data.toList).1 ≠ [] := by
  rcases fmt_cases hf with h | h | h
  ·have := fmtsL_abbr _ h
   unfold Zcg
   cases hp : ZcZ e.format.data.toList with
   | none =>
    rw [hp] at this
    simp only [pOk, Bool.and_eq_true, decide_eq_true_eq] at this
    dsimp only
    rw [this.1, if_neg (by decide), if_neg (by decide), if_pos (.inl rfl)]
    exact ⟨rfl, this.2⟩
   | some ab =>
    obtain ⟨a, b⟩ := ab
    rw [hp] at this
    simp only [pOk, Bool.and_eq_true, decide_eq_true_eq] at this
    dsimp only
    refine ⟨rfl, ?_⟩
    split
    ·exact this.1
    ·exact this.2
  ·have h4 := fmtsS_abbr _ h _ (lets_mem h3)
   have h5 := ZdX.1 _ h
   have h6 := (Zc7.2.1 _ h).1
   unfold Zcg at h4 ⊢
   rw [h5] at h4 ⊢
   dsimp only at h4 ⊢
   rw [if_pos h6] at h4 ⊢
   exact h4
  ·rw [h]
   unfold Zcg
   rw [ZdX.2]
   dsimp only
   have ht := textN_ok' (e.off + x.1) (by omega)
   rw [Zc7.2.2, if_neg (by decide), if_pos rfl, if_pos ⟨by unfold Zdr; simp; omega, ht⟩]
   exact ⟨rfl, ht⟩
 refine ⟨key.1, fun h => key.2 ?_⟩
 unfold abbrE at h
 have := congrArg (fun b => b.data.toList) h
 simpa using this
theorem til_sec {u : Za6} {least n : Int} (h : ZaE u least = (n, 0)) (hc : ZaU u least = 0) (hl : -3600 ≤ least ∧ least ≤ 0) : n ≤ 86400 * (onD u.year u.month u.day).1 + u.at_.sec ∧ 86400 * (onD u.year u.month u.day).1 + u.at_.sec ≤ n + 3600 := by
 unfold ZaE at h
 rw [if_neg (by rw [hc]; decide)] at h
 have h1 : 86400 * (onD u.year u.month u.day).1 + u.at_.sec + (if u.at_.base = 1 then least else 0) = n := congrArg Prod.fst h
 split at h1 <;> omega
theorem Zbs.rs {rs : List Zaa} {e : DEra} {b : Bool} (h : Zbs rs e b) : RsSm (ruEr rs e) := by
 have hd : ∀ r ∈ ruEr rs e, DrRule r ∧ (ruEr rs e).length ≤ 5 := by
  rcases h with ⟨h0, _⟩ | ⟨h0, _⟩ | ⟨h0, _, _, h1, h2, _, h3, h4⟩
  ·unfold ruEr; rw [if_neg (by omega)]; exact fun r hr => by cases hr
  ·unfold ruEr; rw [if_neg (by omega)]; exact fun r hr => by cases hr
  ·unfold ruEr; rw [if_pos h0]; exact fun r hr => ⟨h3.rule r hr, h4⟩
 refine ⟨?_, fun r hr => ?_, fun r hr => ?_, fun r hr => ?_⟩
 ·cases hl : ruEr rs e with
  | nil => decide
  | cons r l => have := (hd r (by rw [hl]; exact List.mem_cons_self)).2; rw [hl] at this; omega
 ·have := (hd r hr).1.save; omega
 ·have := (hd r hr).1.f1; omega
 ·have := (hd r hr).1.ft; have := (hd r hr).1.f0; omega
theorem inClk_of {n : Int} (h : -604799 ≤ n ∧ n ≤ 604799) : inClk n = true := by unfold inClk; simp; exact h
theorem Zbs.bs {rs : List Zaa} {e : DEra} {b : Bool} (h : Zbs rs e b) : -3600 ≤ Go.Wk.bsE e (ruEr rs e) ∧ Go.Wk.bsE e (ruEr rs e) ≤ 0 := by
 have := h.least
 unfold Zbd at this
 unfold Go.Wk.bsE ruEr
 split
 ·rw [if_pos ‹_›] at this
  omega
 ·decide
theorem Zbs.bf {rs : List Zaa} {e : DEra} {b : Bool} (h : Zbs rs e b) (n : Int) : -10800 ≤ bfE e (ruEr rs e) n ∧ bfE e (ruEr rs e) n ≤ 10800 := by
 unfold bfE
 split
 ·have := (h.st1 ‹_›).2.1
  exact this
 ·split
  ·unfold ruEr
   rw [if_pos ‹_›]
   exact (h.befS ‹_› n).2.1
  ·decide
theorem Zbs.un {rs : List Zaa} {e : DEra} {b : Bool} (h : Zbs rs e b) {Y : Int} (hT : DrTil e.til Y) (hY : 1850 ≤ Y ∧ Y ≤ 2148) :
  UnOk e (ruEr rs e) ∧ 86400 * (mar1 Y + 279) - 70000 ≤ endT e (ruEr rs e) ∧ endT e (ruEr rs e) ≤ 86400 * (mar1 Y + 327) + 70000 := by
 obtain ⟨t1, t2, n, t3, t4, t5⟩ := hT.nom hY h.bs
 have h0 := h.st0.1
 have hb := h.bf (ZaE e.til (Go.Wk.bsE e (ruEr rs e))).1
 have hsc := til_sec t3 t2 h.bs
 dsimp only at h0
 have hk : 0 ≤ e.kind ∧ e.kind ≤ 2 := by rcases h with ⟨h0, _⟩ | ⟨h0, _⟩ | ⟨h0, _⟩ <;> omega
 have hs : -10800 ≤ e.save ∧ e.save ≤ 10800 := by
  rcases h with ⟨_, h0, _⟩ | ⟨_, h0, _⟩ | ⟨_, _, h0, _⟩ <;> omega
 refine ⟨⟨hk, inClk_of (by omega), inClk_of (by omega), t2, inClk_of (by unfold endB; omega)⟩, ?_⟩
 unfold endT
 unfold endB
 split
 ·omega
 ·split <;> omega
theorem Zbr.un {rs : List Zaa} {l : List DEra} {Y : Nat → Int} (h : Zbr rs l Y) (k : Nat) (e : DEra) (he : l[k]? = some e) (hk : k + 1 < l.length) : RsSm (ruEr rs e) ∧ UnOk e (ruEr rs e) := by
 have hT := h.til k e he
 rw [if_pos hk] at hT
 exact ⟨(h.era k e he).rs, ((h.era k e he).un hT (h.yr k hk)).1⟩
theorem Zbr.sp {rs : List Zaa} {l : List DEra} {Y : Nat → Int} (h : Zbr rs l Y) : ∃ r, spAll rs l = some r := by
 refine spGo_some rs l _ 0 (fun e he hl => ?_) (fun k e f he hf hl => ?_)
 ·have hT := h.til 0 e he
  rw [if_pos hl] at hT
  have hy := h.yr 0 hl
  obtain ⟨_, h1, _⟩ := (h.era 0 e he).un hT hy
  have hm : mar1 1850 ≤ mar1 (Y 0) := mar1_le hy.1
  have h5 : -50000 ≤ mar1 1850 := by decide
  omega
 ·have hT := h.til k e he
  rw [if_pos (by omega)] at hT
  have hT2 := h.til (k + 1) f hf
  rw [if_pos (by omega)] at hT2
  obtain ⟨_, _, h1⟩ := (h.era k e he).un hT (h.yr k (by omega))
  obtain ⟨_, h2, _⟩ := (h.era (k + 1) f hf).un hT2 (h.yr (k + 1) (by omega))
  have := mar1_lt (h.inc k (by omega))
  omega
section
variable {l : List Zaa} (h : ZbO l)
include h
omit h in
end
section
variable {l : List Zaa} (h : ZbO l) {off t : Int} (ho : -43200 ≤ off ∧ off ≤ 43200)
include h
end
section
variable {rs : List Zaa} {l : List DEra} {Y : Nat → Int} (h : Zbr rs l Y) {r : List ZbI} (hr : spAll rs l = some r)
include h
end
theorem Zbs.set2 {rs : List Zaa} {e : DEra} {b : Bool} (h : Zbs rs e b) (hk : e.kind = 2) : b = false ∧ (-43200 ≤ e.off ∧ e.off ≤ 43200) ∧ ZbO (ofB rs e.set) ∧ 0 < (ofB rs e.set).length ∧ (ofB rs e.set).length ≤ 5 := by
 rcases h with ⟨h0, _⟩ | ⟨h0, _⟩ | ⟨_, h1, _, h2, h3, _, h4, h5⟩
 ·omega
 ·omega
 ·obtain ⟨s, _, _, ⟨r, hr, _⟩, _⟩ := h4.saves
  exact ⟨h1, ⟨h2, h3⟩, h4, List.length_pos_of_mem hr, h5⟩
section
variable {l : List Zaa} (h : ZbO l)
include h
end
section
variable (m : ByteArray)
theorem rn_least (l : List Zaa) : Zaj (l.map (rnR m)) = Zaj l := by
 unfold Zaj
 rw [List.foldl_map]
 rfl
theorem rn_on (least : Int) (r : Zaa) (i y : Int) : onR least (rnR m r) i y = onR least r i y := rfl
theorem rn_beIn (least n : Int) (r : Zaa) (i : Int) : ∀ (k : Nat) (y : Int), beIn least n (rnR m r) i y k = beIn least n r i y k
 | 0, _ => rfl
 | k + 1, y => by
  rw [beIn, beIn, rn_on, rn_beIn least n r i k]
theorem rn_befGo (least n yr : Int) : ∀ (l : List Zaa) (i : Nat) (b : Option Zac), befGo least n yr (l.map (rnR m)) i b = befGo least n yr l i b
 | [], _, _ => rfl
 | r :: l, i, b => by
  rw [List.map_cons, befGo, befGo, rn_beIn, show Go.Wk.lastY (rnR m r) = Go.Wk.lastY r from rfl]
  exact rn_befGo least n yr l (i + 1) _
theorem rn_befD (l : List Zaa) (n : Int) : befD (l.map (rnR m)) n = befD l n := by
 unfold befD
 rw [rn_least, rn_befGo]
theorem rn_fiIn (least : Int) (r : Zaa) (i : Int) : ∀ (k : Nat) (y : Int), fiIn least (rnR m r) i y k = fiIn least r i y k
 | 0, _ => rfl
 | k + 1, y => by rw [fiIn, fiIn, rn_on, rn_fiIn least r i k]
theorem rn_firL (least : Int) : ∀ (l : List Zaa) (i : Nat), firL least (l.map (rnR m)) i = firL least l i
 | [], _ => rfl
 | r :: l, i => by
  rw [List.map_cons, firL, firL, rn_fiIn, rn_firL least l (i + 1)]
  rfl
theorem rn_ruE (l : List Zaa) (e : Zac) : (ruE (l.map (rnR m)) e).save = (ruE l e).save ∧ (ruE (l.map (rnR m)) e).letter = (ruE l e).letter ∧ (ruE (l.map (rnR m)) e).at_ = (ruE l e).at_ := by
 unfold ruE
 rw [List.getD_eq_getElem?_getD, List.getD_eq_getElem?_getD, List.getElem?_map]
 cases l[e.rule.toNat]? with
 | none => exact ⟨rfl, rfl, rfl⟩
 | some r => exact ⟨rfl, rfl, rfl⟩
theorem rn_fstB (l : List Zaa) (all : Bool) (but : Int) : fstB (l.map (rnR m)) all but = fstB l all but := by
 funext b e
 unfold fstB
 rw [(rn_ruE m l e).1]
theorem rn_fstD (l : List Zaa) (all : Bool) (but : Int) : fstD (l.map (rnR m)) all but = fstD l all but := by
 unfold fstD
 rw [rn_least, rn_firL, rn_fstB]
theorem rn_behS (l : List Zaa) (e : Zac) : behS (l.map (rnR m)) e = behS l e := by
 unfold behS
 rw [(rn_ruE m l e).1, (rn_ruE m l e).2.1]
theorem rn_iniS (l : List Zaa) : iniS (l.map (rnR m)) = iniS l := by
 unfold iniS
 rw [rn_fstD]
 cases fstD l true 0 with
 | none => rfl
 | some e =>
  dsimp only
  rw [(rn_ruE m l e).1, rn_fstD]
  cases fstD l false (ruE l e).save with
  | none => exact rn_behS m l e
  | some o => exact rn_behS m l o
theorem rn_befS (l : List Zaa) (n : Int) : befS (l.map (rnR m)) n = befS l n := by
 unfold befS
 rw [rn_befD]
 cases befD l n with
 | none => exact rn_iniS m l
 | some e => exact rn_behS m l e
theorem rn_instE (l : List Zaa) (e : Zac) (off : Int) : instE (l.map (rnR m)) e off = instE l e off := by
 unfold instE
 rw [(rn_ruE m l e).2.2, rn_least, rn_befS]
theorem rn_atGo (l : List Zaa) (off t : Int) : ∀ (k : Nat) (n : Int), atGo (l.map (rnR m)) off t k n = atGo l off t k n
 | 0, n => rn_befS m l n
 | k + 1, n => by
  rw [atGo, atGo, rn_befD]
  cases befD l n with
  | none => exact rn_iniS m l
  | some e =>
   dsimp only
   rw [rn_instE, rn_behS, rn_atGo l off t k]
theorem rn_atS (l : List Zaa) (off t : Int) : atS (l.map (rnR m)) off t = atS l off t := rn_atGo m l off t 3 _
end
theorem rn_set {m : ByteArray} {l : List Zaa} (h : ZbO l) : ZbO (l.map (rnR m)) where
 rule r hr := by
  obtain ⟨q, hq, rfl⟩ := List.mem_map.1 hr
  have h1 := h.rule q hq
  exact ⟨h1.f0, h1.f1, h1.ft, h1.t1, h1.mon, h1.day, h1.clk, h1.save, h1.letter⟩
 dist := by
  rw [List.pairwise_map]
  exact h.dist
 saves := by
  obtain ⟨s, h0, h1, ⟨a, h2, h3⟩, b, h4, h5⟩ := h.saves
  refine ⟨s, h0, fun r hr => ?_, ⟨_, List.mem_map_of_mem h2, h3⟩, _, List.mem_map_of_mem h4, h5⟩
  obtain ⟨q, hq, rfl⟩ := List.mem_map.1 hr
  exact h1 q hq
 last := by
  have hl := h.last
  unfold lastB at hl ⊢
  rw [List.filter_map, show ((fun r : Zaa => decide (r.to = 1048576)) ∘ rnR m) = fun r : Zaa => decide (r.to = 1048576) from rfl]
  generalize l.filter (fun r => decide (r.to = 1048576)) = q at hl ⊢
  match q, hl with
  | [], _ => rfl
  | [_], hl => exact hl
  | [_, _], hl => exact hl
  | _ :: _ :: _ :: _, hl => exact hl
structure AlkE (m : ByteArray) (rs rs' : List Zaa) (e e' : DEra) : Prop where
 off : e'.off = e.off
 kind : e'.kind = e.kind
 save : e'.save = e.save
 fmt : e'.format = e.format
 til : e'.til = e.til
 same : e.kind ≠ 2 → e'.set = e.set
 set : e.kind ≠ 0 → e.kind ≠ 1 → ofB rs' e'.set = ofB rs e.set ∨ ofB rs' e'.set = (ofB rs e.set).map (rnR m)
section
variable {m : ByteArray} {rs rs' : List Zaa}
theorem AlkE.state {e e' : DEra} (h : AlkE m rs rs' e e') (t : Int) : ZbX rs' e' t = ZbX rs e t := by
 unfold ZbX
 rw [h.kind, h.save, h.off]
 by_cases h0 : e.kind = 0
 ·rw [if_pos h0, if_pos h0]
 rw [if_neg h0, if_neg h0]
 by_cases h1 : e.kind = 1
 ·rw [if_pos h1, if_pos h1]
 rw [if_neg h1, if_neg h1]
 rcases h.set h0 h1 with hs | hs
 ·rw [hs]
 ·rw [hs]; exact rn_atS m _ _ _
theorem AlkE.loc {e e' : DEra} (h : AlkE m rs rs' e e') (x : Int × ByteArray) : localD e' x = localD e x := by
 unfold localD abbrE
 rw [h.off, h.fmt]
theorem AlkE.endT {e e' : DEra} (h : AlkE m rs rs' e e') : Go.Wk.endT e' (ruEr rs' e') = Go.Wk.endT e (ruEr rs e) := by
 have hb : Go.Wk.bsE e' (ruEr rs' e') = Go.Wk.bsE e (ruEr rs e) := by
  unfold Go.Wk.bsE ruEr
  rw [h.kind]
  by_cases h2 : e.kind = 2
  ·rw [if_pos h2, if_pos h2, if_pos h2, if_pos h2]
   rcases h.set (by omega) (by omega) with hs | hs
   ·rw [hs]
   ·rw [hs, rn_least]
  ·rw [if_neg h2, if_neg h2]
 have hf : ∀ n, bfE e' (ruEr rs' e') n = bfE e (ruEr rs e) n := fun n => by
  unfold bfE ruEr
  rw [h.kind, h.save]
  by_cases h1 : e.kind = 1
  ·rw [if_pos h1, if_pos h1]
  rw [if_neg h1, if_neg h1]
  by_cases h2 : e.kind = 2
  ·rw [if_pos h2, if_pos h2, if_pos h2, if_pos h2]
   rcases h.set (by omega) (by omega) with hs | hs
   ·rw [hs]
   ·rw [hs, rn_befS]
  ·rw [if_neg h2, if_neg h2]
 unfold Go.Wk.endT endB
 rw [h.til, h.off, hb, hf]
theorem AlkE.dr {e e' : DEra} {b : Bool} (h : AlkE m rs rs' e e') (hd : Zbs rs e b) : Zbs rs' e' b := by
 unfold Zbs at hd ⊢
 rw [h.kind, h.save, h.off, h.fmt]
 rcases hd with ⟨h0, h1, h2, h3⟩ | ⟨h0, h1, h2, h3⟩ | ⟨h0, h1, h2, h3, h4, h5, h6, h7⟩
 ·exact .inl ⟨h0, h1, by rw [h.same (by omega)]; exact h2, h3⟩
 ·exact .inr (.inl ⟨h0, h1, by rw [h.same (by omega)]; exact h2, h3⟩)
 ·refine .inr (.inr ⟨h0, h1, h2, h3, h4, h5, ?_⟩)
  rcases h.set (by omega) (by omega) with hs | hs
  ·rw [hs]; exact ⟨h6, h7⟩
  ·rw [hs]; exact ⟨rn_set h6, by rw [List.length_map]; exact h7⟩
theorem spGo_alk (g : DEra → DEra) : ∀ (l : List DEra) (st : Int) (i : Nat), (∀ e ∈ l, AlkE m rs rs' e (g e)) → spGo rs' (l.map g) st i = spGo rs l st i
 | [], _, _, _ => rfl
 | [e], _, _, _ => rfl
 | e :: f :: l, st, i, h => by
  rw [List.map_cons, List.map_cons, spGo, spGo, (h e List.mem_cons_self).endT, ← List.map_cons, spGo_alk g (f :: l) _ (i + 1) fun x hx => h x (List.mem_cons_of_mem _ hx)]
theorem locAt_alk (g : DEra → DEra) {l : List DEra} (h : ∀ e ∈ l, AlkE m rs rs' e (g e)) (t : Int) : locAt rs' (l.map g) t = locAt rs l t := by
 have hs : eraAt rs' (l.map g) t = eraAt rs l t := by
  unfold eraAt spAll
  rw [spGo_alk g l _ _ h]
 unfold locAt
 rw [hs, List.getD_eq_getElem?_getD, List.getD_eq_getElem?_getD, List.getElem?_map]
 cases hx : l[eraAt rs l t]? with
 | none => rfl
 | some e =>
  have he := h e (List.mem_of_getElem? hx)
  simp only [Option.map_some, Option.getD_some]
  rw [he.state, he.loc]
theorem Zbr.alk (g : DEra → DEra) {l : List DEra} {Y : Nat → Int} (hd : Zbr rs l Y) (h : ∀ e ∈ l, AlkE m rs rs' e (g e)) : Zbr rs' (l.map g) Y where
 len := by rw [List.length_map]; exact hd.len
 era k e he := by
  rw [List.getElem?_map] at he
  obtain ⟨x, hx, rfl⟩ := Option.map_eq_some_iff.1 he
  exact (h x (List.mem_of_getElem? hx)).dr (hd.era k x hx)
 yr k hk := hd.yr k (by rwa [List.length_map] at hk)
 inc k hk := hd.inc k (by rwa [List.length_map] at hk)
 til k e he := by
  rw [List.getElem?_map] at he
  obtain ⟨x, hx, rfl⟩ := Option.map_eq_some_iff.1 he
  rw [(h x (List.mem_of_getElem? hx)).til, List.length_map]
  exact hd.til k x hx
end
end Go.Proofs.YtpcpmndldgejiaaGreatDoor
set_option maxHeartbeats 4000000
namespace Go.Proofs.YtpcpmndldgejiaaGreatDoor
open Go Go.RowKit Go.Wk
attribute [local irreducible] W RL Does Zat Zak retQ Calls Pu Stp RD Qy Ay Zam RLI WI
theorem lfind_spec (Ar Az Al As : Option Addr) (cr cz cl cs : Nat) (a : Zaf) (name : ByteArray) (w : World) (hA : Zao w Ar Az Al As cr cz cl cs a) (hn : a.zones.length + a.links.length ≤ 1000000) :
  Does Tryz.prog 59 [srcV Ar Az Al As cr cz cl cs a, .string name] w (fun v O => v = .tuple #[.int .i64 (Zar a (a.links.length + 1) [] name).1, .int .i64 (Zar a (a.links.length + 1) [] name).2] ∧ O = []) := by
 obtain ⟨res, hres⟩ : ∃ res, Zar a (a.links.length + 1) [] name = res := ⟨_, rfl⟩
 rw [hres]
 refine Zab Tryz.func59 rfl rfl rfl rfl ?_
 repeat (first | refine walk ?_ | (refine jg ?_; (try intro F); (first | (apply Zah (h := fun w' hw _ => lzones_spec Ar Az Al As cr cz cl cs a w' (hA.up hw) (by omega)); rfl; rintro v O' ⟨b1, m1, rfl, rfl, i1, d1, n1⟩) | (apply Zah (h := fun w' hw _ => ZdU Ar Az Al As cr cz cl cs a w' (hA.up hw) (by omega)); rfl; rintro v O' ⟨b2, m2, rfl, rfl, i2, d2, n2⟩) | (refine ZaW (fun w' hw hO => follow_spec Ar Az Al As cr cz cl cs a b1 b2 m1 m2 name w' (hA.up hw) (hO.of (A := .mp b1 m1) (by repeat' constructor)) (hO.of (A := .mp b2 m2) (by repeat' constructor)) i1 i2 d2 n2) ?_) | (refine bx ?_; intro bk)); refine fin ?_) | (refine jn ?_; (try intro F); (first | (refine bx ?_; intro bk) | (apply Zae; exact PuA)); refine fin ?_))
 rw [hres]
 exact rtB
end Go.Proofs.YtpcpmndldgejiaaGreatDoor
namespace Go.Proofs.YtpcpmndldgejiaaGreatDoor
open Go Go.RowKit Go.Wk
attribute [local irreducible] W RL Does Zat Zak retQ Calls Pu Stp RD Qy Ay Zam
theorem zone26_err (Ar Az Al As : Option Addr) (cr cz cl cs : Nat) (a : Zaf) (name : ByteArray) (p : Zax) (e : Int) (w : World) (h : AccOk w Ar Az Al As cr cz cl cs a) (hf : accD a = some (p, e)) :
  Does Tryz.prog 73 [srcV Ar Az Al As cr cz cl cs a, .string name] w (fun v O => v = .tuple #[.int .i64 0, .int .i64 e] ∧ O = []) := by
 have ha := fun w' (hw : Bel w.heap.size w w') => accTe Ar Az Al As cr cz cl cs a p e w' (h.up hw) hf
 have hb : (!decide (e = 0)) = true := by rw [decide_eq_false (accD_ne hf)]; rfl
 refine Zab Tryz.func73 rfl rfl rfl rfl ?_
 repeat (first | (apply RL_pu; rfl; (apply ZaM; rfl; rfl; exact hb)) | (refine js ?_; (first | (apply Zah (h := fun w' hw _ => ha w' hw); rfl; rintro v O' ⟨⟨p1, p2, p3, rfl⟩, rfl⟩) | (refine bx ?_; intro bk))) | refine walk1 ?_)
 exact rtB
theorem zone26_ok (Ar Az Al As : Option Addr) (cr cz cl cs : Nat) (a : Zaf) (name : ByteArray) (w : World) (h : AccOk w Ar Az Al As cr cz cl cs a) (hf : accD a = none) (hn : a.zones.length + a.links.length ≤ 1000000) :
  Does Tryz.prog 73 [srcV Ar Az Al As cr cz cl cs a, .string name] w (fun v O => v = .tuple #[.int .i64 (Zar a (a.links.length + 1) [] name).1, .int .i64 (Zar a (a.links.length + 1) [] name).2] ∧ O = []) := by
 have ha := fun w' (hw : Bel w.heap.size w w') => accTn Ar Az Al As cr cz cl cs a w' (h.up hw) hf
 have hl := fun w' (hw : Bel w.heap.size w w') => lfind_spec Ar Az Al As cr cz cl cs a name w' (h.A.up hw) hn
 generalize Zar a (a.links.length + 1) [] name = x at *
 refine Zab Tryz.func73 rfl rfl rfl rfl ?_
 repeat (first | (refine js ?_; (first | (refine Zad ha ?_) | (refine Zad hl ?_) | (refine bx ?_; intro bk))) | refine walk ?_)
 exact rtB
def tOk (t : Int) : Bool := decide (-36028797018963968 ≤ t) && decide (t ≤ 36028797018963968)
theorem tOk_iff {t : Int} : tOk t = true ↔ -36028797018963968 ≤ t ∧ t ≤ 36028797018963968 := by unfold tOk; simp
theorem PuMeB1 {G : Prop} (h : G := by (apply Zbv; rfl; rfl; exact b1)) : G := h
theorem PuMeB2 {G : Prop} (h : G := by (first | exact PuMeB1 | (apply ZaX; rfl; rfl; exact b2))) : G := h
theorem PuMeB4 {G : Prop} (h : G := by (first | exact PuMeB2 | (apply Pu_indexAddr; rfl; rfl; omega; omega; exact hnz) | (apply Pu_loadON; rfl; exact hcz; rfl))) : G := h
theorem QyMeB4 {G : Prop} (h : G := by first | (apply Qy_y; rfl; exact PuMeB4) | exact QyA) : G := h
theorem QFMeB4 {G : Prop} (h : G := by repeat (first | exact QF.nil | (apply QF.mk; rfl; rfl; decide +kernel; exact QyMeB4))) : G := h
theorem find26_ok (Ar Az Al As : Option Addr) (cr cz cl cs : Nat) (a : Zaf) (name : ByteArray) (t : Int) (i : Nat) (z : ZaN) (l : List ZbI) (x : ZbI) (Ae : Option Addr) (ce : Nat) (w : World) (h : AccOk w Ar Az Al As cr cz cl cs a) (ht : tOk t = true)
  (hz : ∀ w', Bel w.heap.size w w' → Does Tryz.prog 73 [srcV Ar Az Al As cr cz cl cs a, .string name] w' (fun v O => v = .tuple #[.int .i64 i, .int .i64 0] ∧ O = []))
  (hi : a.zones[i]? = some z) (hnz : Az ≠ none) (hcz : Zap w ((adr Az).add (i * 2)) [.string z.name, .slice Ae z.eras.length ce])
  (hE : ∀ k e, z.eras[k]? = some e → k + 1 < z.eras.length → RsSm (ruEr a.rules e) ∧ UnOk e (ruEr a.rules e)) (hl : spAll a.rules z.eras = some l) (hx : spFind l t = (x, true)) :
  Does Tryz.prog 34 [srcV Ar Az Al As cr cz cl cs a, .string name, .int .i64 t] w (fun v O => v = .tuple #[.agg #[.string z.name, .slice Ae z.eras.length ce], .int .i64 x.era, .int .i64 0] ∧ O = []) := by
 have h2 := tOk_iff.1 ht
 have b1 : decide (t < -36028797018963968) = false := decide_eq_false (by omega)
 have b2 : decide (36028797018963968 < t) = false := decide_eq_false (by omega)
 have hil : i < a.zones.length := (List.getElem?_eq_some_iff.1 hi).1
 have hlz := h.A.zle
 have hlc := h.A.zcap
 simp only [maxLen] at hlc
 have hsp := fun w' (hw : Bel w.heap.size w w') => spans_spec Ar Az Al As cr cz cl cs a i z l w' (h.G.up hw) (h.A.up hw) h.S.nr (h.S.zs z (List.mem_of_getElem? hi)).2.1 hi hE hl
 have hfi := fun (A : Option Addr) (c : Nat) w' (hR : RdSl w' A c ZbI.enc 3 l) => spFind_spec A c l t w' hR
 rw [hx] at hfi
 clear hx hl hE hi
 obtain ⟨x1, x2, x3⟩ := x
 simp only [ZbI.enc] at hfi
 refine Zab Tryz.func34 rfl rfl rfl rfl ?_
 repeat (first | refine und ?_ | (apply RL_pu; rfl; exact PuMeB4) | (apply RD_Q; rfl; rfl; decide +kernel; rfl; rfl; exact QyMeB4) | refine walk1 ?_ | (refine jg ?_; (try intro F); (first | (refine Zad hz ?_) | (apply Zah (h := fun w' hw _ => hsp w' hw); rfl; rintro v O' ⟨A3, c3, rfl, rfl⟩) | (refine ZaW (fun w' hw hO => hfi A3 c3 w' (Za3 ZbI.len (hO.of (by repeat' constructor)))) ?_) | (refine bx ?_; intro bk) | (refine stA ?_)); first | refine ⟨_, EndsA, QFMeB4, ?_⟩ | refine fin ?_) | (refine jn ?_; (try intro F); (first | (refine bx ?_; intro bk) | (refine stA ?_) | (apply Zae; first | exact PuMeB4 | exact PuA)); first | refine ⟨_, EndsA, QFMeB4, ?_⟩ | refine fin ?_) | (apply RD_W; rfl; intro bk))
 exact ret_3 _ _ _ [] (.cellB rfl (by repeat' constructor) rfl rfl) (.tmp rfl) (.tmp rfl) .nil ⟨rfl, rfl⟩
theorem at26_ok (Ar Az Al As : Option Addr) (cr cz cl cs : Nat) (a : Zaf) (name : ByteArray) (t : Int) (zn : ByteArray) (Ae : Option Addr) (ce : Nat) (l : List DEra) (k : Nat) (x : DEra) (y : Zdl) (w : World)
  (hf : ∀ w', Bel w.heap.size w w' → Does Tryz.prog 34 [srcV Ar Az Al As cr cz cl cs a, .string name, .int .i64 t] w' (fun v O => v = .tuple #[.agg #[.string zn, .slice Ae l.length ce], .int .i64 k, .int .i64 0] ∧ O = []))
  (hE : RdSl w Ae ce DEra.enc 13 l) (hx : l[k]? = some x)
  (hl : ∀ w', Bel w.heap.size w w' → Does Tryz.prog 35 [srcV Ar Az Al As cr cz cl cs a, .agg x.enc.toArray, .int .i64 t] w' (fun v O => v = .tuple #[.agg y.enc.toArray, .int .i64 0] ∧ O = [])) :
  Does Tryz.prog 18 [srcV Ar Az Al As cr cz cl cs a, .string name, .int .i64 t] w (fun v O => v = .tuple #[.agg y.enc.toArray, .int .i64 0] ∧ O = []) := by
 have hel := hE.le
 have hec := hE.cap
 simp only [maxLen] at hec
 have hkl : k < l.length := (List.getElem?_eq_some_iff.1 hx).1
 obtain ⟨hna, hca⟩ := hE.rd k _ hx
 obtain ⟨off, kd, esv, sset, fm, ⟨ui, uy, um, ⟨ud1, ud2, ud3⟩, ⟨uc1, uc2⟩⟩⟩ := x
 obtain ⟨y1, y2, y3⟩ := y
 simp only [DEra.enc, Zdl.enc] at hca hl ⊢
 refine Zab Tryz.func18 rfl rfl rfl rfl ?_
 repeat (first | (apply RL_pu; rfl; exact PuI) | (apply RD_Q; rfl; rfl; decide +kernel; rfl; rfl; exact QyI) | refine walk1 ?_ | (refine jg ?_; (try intro F); (first | (refine Zad hf ?_) | (refine Zad hl ?_) | (refine bx ?_; intro bk) | (refine stA ?_)); first | refine ⟨_, EndsA, QFI, ?_⟩ | refine fin ?_) | (refine jn ?_; (try intro F); (first | (refine bx ?_; intro bk) | (refine stA ?_) | (apply Zae; first | exact PuI | exact PuA)); first | refine ⟨_, EndsA, QFI, ?_⟩ | refine fin ?_) | (apply RD_W; rfl; intro bk))
 exact rtC
def zoneD (a : Zaf) (name : ByteArray) : Int × Int := match accD a with
 | some (_, e) => (0, e)
 | none => (((Zar a (a.links.length + 1) [] name).1 : Nat), (Zar a (a.links.length + 1) [] name).2)
structure MnOk (a : Zaf) : Prop where
 acc : accD a = none
 un : ∀ z ∈ a.zones, ∀ k e, z.eras[k]? = some e → k + 1 < z.eras.length → RsSm (ruEr a.rules e) ∧ UnOk e (ruEr a.rules e)
 ne : ∀ z ∈ a.zones, z.eras ≠ []
 sp : ∀ z ∈ a.zones, ∃ r, spAll a.rules z.eras = some r
 lc : ∀ z ∈ a.zones, ∀ e ∈ z.eras, LcOk a.rules e
 st : ∀ z ∈ a.zones, ∀ e ∈ z.eras, ∀ t, (-1000000000 ≤ (ZbX a.rules e t).1 ∧ (ZbX a.rules e t).1 ≤ 1000000000) ∧ (ZbX a.rules e t).2.size ≤ 1000000000 ∧ abE e (ZbX a.rules e t) = 0
section
variable (Ar Az Al As : Option Addr) (cr cz cl cs : Nat) (a : Zaf) (name : ByteArray) (t : Int) (w : World)
theorem zone26_spec (h : AccOk w Ar Az Al As cr cz cl cs a) (hn : a.zones.length + a.links.length ≤ 1000000) :
  Does Tryz.prog 73 [srcV Ar Az Al As cr cz cl cs a, .string name] w (fun v O => v = .tuple #[.int .i64 (zoneD a name).1, .int .i64 (zoneD a name).2] ∧ O = []) := by
 unfold zoneD
 cases ha : accD a with
 | some x =>
  obtain ⟨p, e⟩ := x
  exact zone26_err Ar Az Al As cr cz cl cs a name p e w h ha
 | none => exact zone26_ok Ar Az Al As cr cz cl cs a name w h ha hn
theorem zone26_at (h : AccOk w Ar Az Al As cr cz cl cs a) (hn : a.zones.length + a.links.length ≤ 1000000) {i : Nat} (hz : zoneD a name = (((i : Nat) : Int), 0)) :
  Does Tryz.prog 73 [srcV Ar Az Al As cr cz cl cs a, .string name] w (fun v O => v = .tuple #[.int .i64 i, .int .i64 0] ∧ O = []) := by
 have := zone26_spec Ar Az Al As cr cz cl cs a name w h hn
 rwa [hz] at this
theorem mlocal_ok (h : AccOk w Ar Az Al As cr cz cl cs a) (hM : MeG w) (m : MnOk a) {z : ZaN} (hz : z ∈ a.zones) {e : DEra} (he : e ∈ z.eras) (ht : -1000000000000000000 ≤ t ∧ t ≤ 1000000000000000000) :
  Does Tryz.prog 35 [srcV Ar Az Al As cr cz cl cs a, .agg e.enc.toArray, .int .i64 t] w (fun v O => v = .tuple #[.agg (localD e (ZbX a.rules e t)).enc.toArray, .int .i64 0] ∧ O = []) := by
 obtain ⟨h1, h2, h3⟩ := m.st z hz e he t
 exact local26_spec Ar Az Al As cr cz cl cs a e t w h.L h.G hM h.A h.S.nr (m.lc z hz e he) ht h1 h2 h3
theorem mFind (h : AccOk w Ar Az Al As cr cz cl cs a) (hn : a.zones.length + a.links.length ≤ 1000000) (m : MnOk a) (ht : tOk t = true) {i : Nat} {z : ZaN} (hz : zoneD a name = (((i : Nat) : Int), 0)) (hi : a.zones[i]? = some z) (Ae : Option Addr) (ce : Nat) (hnz : Az ≠ none) (hcz : Zap w ((adr Az).add (i * 2)) [.string z.name, .slice Ae z.eras.length ce]) :
  Does Tryz.prog 34 [srcV Ar Az Al As cr cz cl cs a, .string name, .int .i64 t] w (fun v O => v = .tuple #[.agg #[.string z.name, .slice Ae z.eras.length ce], .int .i64 (eraAt a.rules z.eras t), .int .i64 0] ∧ O = []) := by
 have hmem := List.mem_of_getElem? hi
 have h2 := tOk_iff.1 ht
 obtain ⟨r, hr⟩ := m.sp z hmem
 obtain ⟨x, _, _, hf, hx, _⟩ := sp_find hr (m.ne z hmem) (t := t) (by omega) (by omega)
 have := find26_ok Ar Az Al As cr cz cl cs a name t i z r x Ae ce w h ht (fun w' hw => zone26_at Ar Az Al As cr cz cl cs a name w' (h.up hw) hn hz) hi hnz hcz (m.un z hmem) hr hf
 rwa [hx] at this
theorem mAt (h : AccOk w Ar Az Al As cr cz cl cs a) (hM : MeG w) (hn : a.zones.length + a.links.length ≤ 1000000) (m : MnOk a) (ht : tOk t = true) {i : Nat} {z : ZaN} (hz : zoneD a name = (((i : Nat) : Int), 0)) (hi : a.zones[i]? = some z) :
  Does Tryz.prog 18 [srcV Ar Az Al As cr cz cl cs a, .string name, .int .i64 t] w (fun v O => v = .tuple #[.agg (locAt a.rules z.eras t).enc.toArray, .int .i64 0] ∧ O = []) := by
 have hmem := List.mem_of_getElem? hi
 have h2 := tOk_iff.1 ht
 obtain ⟨hnz, cs1, ⟨Ae, ce, hEz, rfl⟩, hcz⟩ := h.A.z i _ hi
 obtain ⟨r, hr⟩ := m.sp z hmem
 obtain ⟨x, hk, _⟩ := sp_find hr (m.ne z hmem) (t := t) (by omega) (by omega)
 obtain ⟨e, he, hd⟩ := getD_of (d := dE0) hk
 unfold locAt
 rw [hd]
 exact at26_ok Ar Az Al As cr cz cl cs a name t z.name Ae ce z.eras (eraAt a.rules z.eras t) e _ w (fun w' hw => mFind Ar Az Al As cr cz cl cs a name t w' (h.up hw) hn m ht hz hi Ae ce hnz (hcz.up hw (Nat.le_refl _))) hEz he fun w' hw => mlocal_ok Ar Az Al As cr cz cl cs a t w' (h.up hw) (hM.up hw) m hmem (List.mem_of_getElem? he) (by omega)
end
theorem letter_sz {x : ByteArray} (h : x ∈ [ByteArray.empty, (⟨#[83]⟩ : ByteArray), ⟨#[68]⟩, ⟨#[68, 84]⟩]) : x.size ≤ 1000000000 := by
 have : ∀ x ∈ [ByteArray.empty, (⟨#[83]⟩ : ByteArray), ⟨#[68]⟩, ⟨#[68, 84]⟩], x.size ≤ 1000000000 := by decide
 exact this x h
theorem fmtU_sz {x : ByteArray} (h : x ∈ fmtU) : x.size ≤ 1000000000 := by
 have : ∀ x ∈ fmtU, x.size ≤ 1000000000 := by decide
 exact this x h
theorem mnOk_dr {a : Zaf} (hacc : accD a = none) (h : ∀ z ∈ a.zones, ∃ Y, Zbr a.rules z.eras Y) : MnOk a := by
 have hd : ∀ z ∈ a.zones, ∀ e ∈ z.eras, ∃ b, Zbs a.rules e b := fun z hz e he => by
  obtain ⟨Y, hY⟩ := h z hz
  obtain ⟨k, hk⟩ := List.mem_iff_getElem?.1 he
  exact ⟨_, hY.era k e hk⟩
 refine ⟨hacc, fun z hz k e he hk => ?_, fun z hz hn => ?_, fun z hz => ?_, fun z hz e he => ?_, fun z hz e he t => ?_⟩
 ·obtain ⟨Y, hY⟩ := h z hz
  exact hY.un k e he hk
 ·obtain ⟨Y, hY⟩ := h z hz
  have := hY.len.1
  rw [hn] at this
  simp at this
 ·obtain ⟨Y, hY⟩ := h z hz
  exact hY.sp
 ·obtain ⟨b, hb⟩ := hd z hz e he
  have h0 := hb.st0.1
  dsimp only at h0
  have hk : 0 ≤ e.kind ∧ e.kind ≤ 2 := by rcases hb with ⟨h0, _⟩ | ⟨h0, _⟩ | ⟨h0, _⟩ <;> omega
  have hs : -10800 ≤ e.save ∧ e.save ≤ 10800 := by
   rcases hb with ⟨_, h0, _⟩ | ⟨_, h0, _⟩ | ⟨_, _, h0, _⟩ <;> omega
  refine ⟨hk, by omega, by omega, fun h2 => ?_, fmtU_sz hb.fmt⟩
  have := hb.rs
  unfold ruEr at this
  rwa [if_pos h2] at this
 ·obtain ⟨b, hb⟩ := hd z hz e he
  obtain ⟨h1, h2, h3⟩ := hb.state t
  exact ⟨by omega, letter_sz h3, (abbr_dr hb.fmt (hb.state t)).1⟩
end Go.Proofs.YtpcpmndldgejiaaGreatDoor
namespace Go.Proofs.YtpcpmndldgejiaaGreatDoor
open Go Go.RowKit Go.Wk
theorem firstZ_no {x : ByteArray} : ∀ (l : List ZaN) (k : Nat), (∀ z ∈ l, z.name ≠ x) → Zaw x l k = none
 | [], _, _ => rfl
 | z :: l, k, h => by
  rw [Zaw, if_neg (h z List.mem_cons_self)]
  exact firstZ_no l (k + 1) fun y hy => h y (List.mem_cons_of_mem _ hy)
theorem firstL_no {x : ByteArray} : ∀ (l : List ZaC) (k : Nat), (∀ z ∈ l, z.name ≠ x) → Zaz x l k = none
 | [], _, _ => rfl
 | z :: l, k, h => by
  rw [Zaz, if_neg (h z List.mem_cons_self)]
  exact firstL_no l (k + 1) fun y hy => h y (List.mem_cons_of_mem _ hy)
theorem draft23_mem (d : DD23) {x : ByteArray} (hx : x ∈ (Zan d).zones.map ZaN.name ∨ x ∈ (Zan d).links.map ZaC.name) : x ∈ draftN23 (zl23 d.zones).length (d.links.take 4).length := by
 obtain ⟨h1, h2⟩ := made23_allN d
 unfold draftN23
 rw [List.mem_append]
 rcases hx with hx | hx
 ·exact .inl (by rw [← h1]; exact hx)
 ·exact .inr (by rw [← h2]; exact hx)
theorem nm23 (d : DD23) {x : ByteArray} (hx : x ∈ (Zan d).zones.map ZaN.name ∨ x ∈ (Zan d).links.map ZaC.name) : ∃ (i : Nat) (z : ZaN), zoneD (Zan d) x = (((i : Nat) : Int), 0) ∧ (Zan d).zones[i]? = some z ∧ (Zar (Zan d) ((Zan d).links.length + 1) [] x).1 = i ∧ (Zar (Zan d) ((Zan d).links.length + 1) [] x).2 = 0 := by
 obtain ⟨h1, h2⟩ := made23_find d x (draft23_mem d hx)
 obtain ⟨z, hz⟩ : ∃ z, (Zan d).zones[(Zar (Zan d) ((Zan d).links.length + 1) [] x).1]? = some z := ⟨_, List.getElem?_eq_getElem h2⟩
 refine ⟨_, z, ?_, hz, rfl, h1⟩
 unfold zoneD
 rw [made23_acc d]
 dsimp only
 rw [h1]
end Go.Proofs.YtpcpmndldgejiaaGreatDoor
