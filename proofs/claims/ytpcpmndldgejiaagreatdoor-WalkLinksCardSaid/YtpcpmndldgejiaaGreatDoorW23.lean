/- Parts of the proof. -/
import Derived.Test.YtpcpmndldgejiaaGreatDoorW16
import Derived.Test.YtpcpmndldgejiaaGreatDoorW22
import Derived.Test.YtpcpmndldgejiaaGreatDoorW14
import Derived.Test.YtpcpmndldgejiaaGreatDoorW17
set_option maxHeartbeats 4000000
set_option linter.unusedVariables false
set_option linter.unusedSimpArgs false
namespace Go.Proofs.YtpcpmndldgejiaaGreatDoor
open Go Go.RowKit Go.Wk
attribute [local irreducible] W RL Does Zay Zam retQ Calls Pu Stp RD Qy Ay Zan
theorem ZAV (Ar Az Al As : Option Addr) (cr cz cl cs : Nat) (a : Zai) (p : ZaH) (e : Int) (w : World) (h : ZcO w Ar Az Al As cr cz cl cs a) (hf : accD a = some (p, e)) :
  Does Tryz.prog 21 [srcV Ar Az Al As cr cz cl cs a] w (fun v O => (∃ p1 p2 p3, v = .tuple #[.agg #[.int .i64 p1, .int .i64 p2, .int .i64 p3], .int .i64 e]) /\ O = []) := by
 have := ZlZ Ar Az Al As cr cz cl cs a w h.L h.G h.A h.S h.V h.Z
 rw [hf] at this
 exact this.mono fun v O hv => ⟨⟨p.part, p.index, p.era, hv.1⟩, hv.2⟩
theorem ZAU (Ar Az Al As : Option Addr) (cr cz cl cs : Nat) (a : Zai) (w : World) (h : ZcO w Ar Az Al As cr cz cl cs a) (hf : accD a = none) :
  Does Tryz.prog 21 [srcV Ar Az Al As cr cz cl cs a] w (fun v O => v = .tuple #[.agg #[.int .i64 0, .int .i64 0, .int .i64 0], .int .i64 0] /\ O = []) := by
 have := ZlZ Ar Az Al As cr cz cl cs a w h.L h.G h.A h.S h.V h.Z
 rwa [hf] at this
def ZoK : List Value := [fnV 287, fnV 288, fnV 289]
def MeG (w : World) : Prop := Zao w ⟨0, 0, none⟩ ZoK
theorem MeG.up {w w' : World} (h : MeG w) (hb : Bel w.heap.size w w') : MeG w' := Zao.up h hb (Nat.le_refl _)
def meFn (k : Int) : FuncId := if k = 0 then 287 else if k = 1 then 288 else 289
theorem ZAO {w : World} (hF : MeG w) (k : Int) (hk : 0 <= k /\ k <= 2) : Zao w ((⟨0, 0, none⟩ : Addr).add (k.toNat * 1)) [fnV (meFn k)] := by
 have hc : k = 0 \/ k = 1 \/ k = 2 := by omega
 intro j v hj
 have hj0 : j = 0 := by
  rcases j with _ | j
  ·rfl
  ·cases j <;> cases hj
 subst hj0
 rcases hc with rfl | rfl | rfl
 ·exact hF 0 _ hj
 ·exact hF 1 _ hj
 ·exact hF 2 _ hj
def ZaZ (rs : List Zaa) (e : DEra) (t : Int) : Int × ByteArray := if e.kind = 0 then (0, ByteArray.empty) else if e.kind = 1 then (e.save, ByteArray.empty) else atS (ofB rs e.set) e.off t
theorem ZoI (Ar Az Al As : Option Addr) (cr cz cl cs : Nat) (a : Zai) (e : DEra) (t : Int) (w : World) (hG : Glob w) (hA : Zaj w Ar Az Al As cr cz cl cs a) (hn : a.rules.length <= 1000000) (hk : 0 <= e.kind /\ e.kind <= 2) (hr : e.kind = 2 -> RsSm (ofB a.rules e.set)) (ho : -1000000000 <= e.off /\ e.off <= 1000000000) (ht : -1000000000000000000 <= t /\ t <= 1000000000000000000) :
  Does Tryz.prog (meFn e.kind) [srcV Ar Az Al As cr cz cl cs a, .agg e.enc.toArray, .int .i64 t] w (fun v O => v = stV (ZaZ a.rules e t) /\ O = []) := by
 have hof := fun w' (hw : Bel w.heap.size w w') => Zfi Ar Az Al As cr cz cl cs a e.set w' (hA.up hw) hn
 have hsa := fun (A : Option Addr) (c : Nat) w' (hw : Bel w.heap.size w w') (hR : RdSl w' A c Zaa.enc 11 (ofB a.rules e.set)) (h2 : e.kind = 2) => Zmz A c (ofB a.rules e.set) e.off t w' (hG.up hw) hR (hr h2) ho ht
 unfold ZaZ
 have hc : e.kind = 0 \/ e.kind = 1 \/ e.kind = 2 := by omega
 generalize atS (ofB a.rules e.set) e.off t = x at *
 generalize ofB a.rules e.set = rr at *
 obtain ⟨off, kd, esv, sset, fm, ⟨ui, uy, um, ⟨ud1, ud2, ud3⟩, ⟨uc1, uc2⟩⟩⟩ := e
 obtain ⟨xs, xl⟩ := x
 dsimp only at hc hof hsa ⊢
 unfold stV at hsa ⊢
 rcases hc with rfl | rfl | rfl
 ·show Does _ 287 [.agg #[.slice Ar a.rules.length cr, .slice Az a.zones.length cz, .slice Al a.links.length cl, .slice As a.shifts.length cs], .agg #[.int .i64 off, .int .i64 0, .int .i64 esv, .string sset, .string fm, .bool ui, .int .i64 uy, .int .i64 um, .int .i64 ud1, .int .i64 ud2, .int .i64 ud3, .int .i64 uc1, .int .i64 uc2], .int .i64 t] w _
  refine Zab Tryz.func287 rfl rfl rfl rfl ?_
  repeat (first | (refine js ?_; (refine bx ?_; intro bk)) | refine walk ?_)
  exact ret_1 _ [] (.cellB rfl (by repeat' constructor) rfl rfl) .nil ⟨rfl, rfl⟩
 ·show Does _ 288 [.agg #[.slice Ar a.rules.length cr, .slice Az a.zones.length cz, .slice Al a.links.length cl, .slice As a.shifts.length cs], .agg #[.int .i64 off, .int .i64 1, .int .i64 esv, .string sset, .string fm, .bool ui, .int .i64 uy, .int .i64 um, .int .i64 ud1, .int .i64 ud2, .int .i64 ud3, .int .i64 uc1, .int .i64 uc2], .int .i64 t] w _
  refine Zab Tryz.func288 rfl rfl rfl rfl ?_
  repeat (first | (refine js ?_; (refine bx ?_; intro bk)) | refine walk ?_)
  exact ret_1 _ [] (.cellB rfl (by repeat' constructor) rfl rfl) .nil ⟨rfl, rfl⟩
 ·show Does _ 289 [.agg #[.slice Ar a.rules.length cr, .slice Az a.zones.length cz, .slice Al a.links.length cl, .slice As a.shifts.length cs], .agg #[.int .i64 off, .int .i64 2, .int .i64 esv, .string sset, .string fm, .bool ui, .int .i64 uy, .int .i64 um, .int .i64 ud1, .int .i64 ud2, .int .i64 ud3, .int .i64 uc1, .int .i64 uc2], .int .i64 t] w _
  refine Zab Tryz.func289 rfl rfl rfl rfl ?_
  repeat (first | refine walk ?_ | (refine jg ?_; (try intro F); (first | (apply Zag (h := fun w' hw _ => hof w' hw); rfl; rintro v O' ⟨A3, c3, rfl, rfl⟩) | (refine ZaF (fun w' hw hO => hsa A3 c3 w' hw (ZaW Zaa.len (hO.of (by repeat' constructor))) rfl) ?_) | (refine bx ?_; intro bk) | (refine stA ?_)); refine fin ?_) | (refine jn ?_; (try intro F); (first | (refine bx ?_; intro bk) | (refine stA ?_) | (apply Zae; exact PuA)); refine fin ?_) | (apply RD_W; rfl; intro bk))
  exact ret_1 _ [] (.cellB rfl (by repeat' constructor) rfl rfl) .nil ⟨rfl, rfl⟩
structure Zaf where
 off : Int
 dst : Bool
 abbr : ByteArray
deriving DecidableEq
def Zaf.enc (x : Zaf) : List Value := [.int .i64 x.off, .bool x.dst, .string x.abbr]
def ZfM (e : DEra) (x : Int × ByteArray) : Zaf := ⟨e.off + x.1, !decide (x.1 = 0), Zps e x.1 x.2⟩
def abE (e : DEra) (x : Int × ByteArray) : Int := (Zcl e.format.data.toList e.off x.1 x.2.data.toList).2
structure LcOk (rs : List Zaa) (e : DEra) : Prop where
 k : 0 <= e.kind /\ e.kind <= 2
 o : -1000000000 <= e.off /\ e.off <= 1000000000
 s : -1000000000 <= e.save /\ e.save <= 1000000000
 r : e.kind = 2 -> RsSm (ofB rs e.set)
 f : e.format.size <= 1000000000
theorem Zvo {G : Prop} (h : G := by (first | (apply Zbv; rfl; rfl; omega; omega) | (apply Pu_loadO1; rfl; exact hcell 0 _ rfl))) : G := h
theorem ZxH {G : Prop} (h : G := by first | (apply Qy_y; rfl; exact Zvo) | exact QyA) : G := h
theorem ZxT {G : Prop} (h : G := by repeat (first | exact QF.nil | (apply QF.mk; rfl; rfl; decide +kernel; exact ZxH))) : G := h
theorem Zm4 (Ar Az Al As : Option Addr) (cr cz cl cs : Nat) (a : Zai) (e : DEra) (t : Int) (w : World) (hL : LibW w) (hG : Glob w) (hM : MeG w) (hA : Zaj w Ar Az Al As cr cz cl cs a) (hn : a.rules.length <= 1000000) (he : LcOk a.rules e) (ht : -1000000000000000000 <= t /\ t <= 1000000000000000000)
  (hx : -1000000000 <= (ZaZ a.rules e t).1 /\ (ZaZ a.rules e t).1 <= 1000000000) (hxl : (ZaZ a.rules e t).2.size <= 1000000000) (hab : abE e (ZaZ a.rules e t) = 0) :
  Does Tryz.prog 35 [srcV Ar Az Al As cr cz cl cs a, .agg e.enc.toArray, .int .i64 t] w (fun v O => v = .tuple #[.agg (ZfM e (ZaZ a.rules e t)).enc.toArray, .int .i64 0] /\ O = []) := by
 have hst := fun w' (hw : Bel w.heap.size w w') => ZoI Ar Az Al As cr cz cl cs a e t w' (hG.up hw) (hA.up hw) hn he.k he.r he.o ht
 have hcell := ZAO hM e.kind he.k
 have hk := he.k
 have ho := he.o
 haveI : Body Tryz.prog (meFn e.kind) := by
  unfold meFn
  split
  ·infer_instance
  ·split <;> infer_instance
 generalize ZaZ a.rules e t = x at *
 have hfa := fun w' (hw : Bel w.heap.size w w') => Zfl e.format x.2 e.off x.1 w' (hL.up hw) he.f hxl (by unfold I64; omega) (by unfold I64; omega)
 unfold abE at hab
 unfold xpV at hfa
 rw [hab] at hfa
 unfold ZfM
 change ∀ w', Bel w.heap.size w w' -> Does _ _ _ w' (fun v O => v = .tuple #[.string (Zps e x.1 x.2), .int .i64 0] /\ O = []) at hfa
 generalize Zps e x.1 x.2 = ab at *
 obtain ⟨xs, xl⟩ := x
 obtain ⟨off, kd, esv, sset, fm, ⟨ui, uy, um, ⟨ud1, ud2, ud3⟩, ⟨uc1, uc2⟩⟩⟩ := e
 dsimp only at hst hcell hk ho hx hfa ⊢
 unfold stV at hst
 simp only [Zaf.enc]
 show Does _ _ [.agg #[.slice Ar a.rules.length cr, .slice Az a.zones.length cz, .slice Al a.links.length cl, .slice As a.shifts.length cs], .agg #[.int .i64 off, .int .i64 kd, .int .i64 esv, .string sset, .string fm, .bool ui, .int .i64 uy, .int .i64 um, .int .i64 ud1, .int .i64 ud2, .int .i64 ud3, .int .i64 uc1, .int .i64 uc2], .int .i64 t] w _
 generalize meFn kd = kf at *
 refine Zab Tryz.func35 rfl rfl rfl rfl ?_
 repeat (first | (apply RL_pu; rfl; exact Zvo) | (apply RD_Q; rfl; rfl; decide +kernel; rfl; rfl; exact ZxH) | refine walk1 ?_ | (refine jg ?_; (try intro F); (first | (apply Zar (f := kf) (us := []) (cs := []) (vs := [.agg #[.slice Ar a.rules.length cr, .slice Az a.zones.length cz, .slice Al a.links.length cl, .slice As a.shifts.length cs], .agg #[.int .i64 off, .int .i64 kd, .int .i64 esv, .string sset, .string fm, .bool ui, .int .i64 uy, .int .i64 um, .int .i64 ud1, .int .i64 ud2, .int .i64 ud3, .int .i64 uc1, .int .i64 uc2], .int .i64 t]) (h := fun w' hw _ => hst w' hw); rfl; rfl; rintro v O' ⟨rfl, rfl⟩) | (refine Zac hfa ?_) | (refine bx ?_; intro bk) | (refine stA ?_)); first | refine ⟨_, EndsA, ZxT, ?_⟩ | refine fin ?_) | (refine jn ?_; (try intro F); (first | (refine bx ?_; intro bk) | (refine stA ?_) | (apply Zae; first | exact Zvo | exact PuA)); first | refine ⟨_, EndsA, ZxT, ?_⟩ | refine fin ?_) | (apply RD_W; rfl; intro bk))
 exact rtC
end Go.Proofs.YtpcpmndldgejiaaGreatDoor
namespace Go.Proofs.YtpcpmndldgejiaaGreatDoor
open Go Go.RowKit Go.Wk
theorem ZzP (rs : List Zaa) (t : Int) (ht : t < 9223372036854775807) : ∀ (l : List DEra) (st : Int) (i : Nat) (r : List ZaI), spGo rs l st i = some r -> l ≠ [] -> st <= t ->
  ∃ k x, k < l.length /\ r[k]? = some x /\ x.era = (i : Int) + (k : Nat) /\ Zdu t r i = (i : Int) + (k : Nat) /\ x.start <= t /\ t < x.fin
 | [], _, _, _, _, h, _ => absurd rfl h
 | [e], st, i, r, h, _, hs => by
  simp only [spGo, Option.some.injEq] at h
  subst h
  refine ⟨0, _, Nat.zero_lt_one, rfl, by simp, ?_, hs, ht⟩
  rw [Zdu, if_pos (by unfold spIn; rw [decide_eq_true hs, decide_eq_true ht]; rfl)]
  simp
 | e :: f :: l, st, i, r, h, _, hs => by
  rw [spGo] at h
  by_cases hT : endT e (ruEr rs e) <= st
  ·rw [if_pos hT] at h; cases h
  rw [if_neg hT] at h
  obtain ⟨r2, h2, rfl⟩ := Option.map_eq_some_iff.1 h
  by_cases h3 : t < endT e (ruEr rs e)
  ·refine ⟨0, _, by simp, rfl, by simp, ?_, hs, h3⟩
   rw [Zdu, if_pos (by unfold spIn; rw [decide_eq_true hs, decide_eq_true h3]; rfl)]
   simp
  ·obtain ⟨k, x, a1, a2, a3, a4, a5, a6⟩ := ZzP rs t ht (f :: l) _ (i + 1) r2 h2 (by simp) (Int.not_lt.1 h3)
   refine ⟨k + 1, x, by rw [List.length_cons]; omega, a2, by omega, ?_, a5, a6⟩
   rw [Zdu, if_neg (by unfold spIn; dsimp only; rw [decide_eq_false h3, Bool.and_false]; decide), a4]
   omega
theorem Zls (rs : List Zaa) : ∀ (l : List DEra) (st : Int) (i : Nat) (r : List ZaI), spGo rs l st i = some r -> ∀ x ∈ r, st <= x.start
 | [], _, _, _, h, x, hx => by
  simp only [spGo, Option.some.injEq] at h
  subst h
  cases hx
 | [e], st, i, r, h, x, hx => by
  simp only [spGo, Option.some.injEq] at h
  subst h
  rw [List.mem_singleton.1 hx]
  exact Int.le_refl _
 | e :: f :: l, st, i, r, h, x, hx => by
  rw [spGo] at h
  by_cases hT : endT e (ruEr rs e) <= st
  ·rw [if_pos hT] at h; cases h
  rw [if_neg hT] at h
  obtain ⟨r2, h2, rfl⟩ := Option.map_eq_some_iff.1 h
  rcases List.mem_cons.1 hx with rfl | hx
  ·exact Int.le_refl _
  ·have := Zls rs (f :: l) _ (i + 1) r2 h2 x hx
   omega
theorem ZsO (rs : List Zaa) (t : Int) : ∀ (l : List DEra) (st : Int) (i : Nat) (r : List ZaI), spGo rs l st i = some r -> ∀ (k : Nat) (x : ZaI), r[k]? = some x -> x.start <= t -> t < x.fin -> Zdu t r i = (i : Int) + (k : Nat)
 | [], _, _, _, h, k, x, hx, _, _ => by
  simp only [spGo, Option.some.injEq] at h
  subst h
  simp at hx
 | [e], st, i, r, h, k, x, hx, h1, h2 => by
  simp only [spGo, Option.some.injEq] at h
  subst h
  rcases k with _ | k
  ·simp only [List.getElem?_cons_zero, Option.some.injEq] at hx
   subst hx
   rw [Zdu, if_pos (by unfold spIn; rw [decide_eq_true h1, decide_eq_true h2]; rfl)]
   simp
  ·simp at hx
 | e :: f :: l, st, i, r, h, k, x, hx, h1, h2 => by
  rw [spGo] at h
  by_cases hT : endT e (ruEr rs e) <= st
  ·rw [if_pos hT] at h; cases h
  rw [if_neg hT] at h
  obtain ⟨r2, h3, rfl⟩ := Option.map_eq_some_iff.1 h
  rcases k with _ | k
  ·simp only [List.getElem?_cons_zero, Option.some.injEq] at hx
   subst hx
   rw [Zdu, if_pos (by unfold spIn; rw [decide_eq_true h1, decide_eq_true h2]; rfl)]
   simp
  ·simp only [List.getElem?_cons_succ] at hx
   have hs := Zls rs (f :: l) _ (i + 1) r2 h3 x (List.mem_of_getElem? hx)
   rw [Zdu, if_neg (by unfold spIn; dsimp only; rw [decide_eq_false (show ¬ t < endT e (ruEr rs e) by omega), Bool.and_false]; decide), ZsO rs t (f :: l) _ (i + 1) r2 h3 k x hx h1 h2]
   omega
theorem Zw9 (rs : List Zaa) : ∀ (l : List DEra) (st : Int) (i : Nat) (r : List ZaI), spGo rs l st i = some r -> r.length = l.length
 | [], _, _, _, h => by
  simp only [spGo, Option.some.injEq] at h
  subst h
  rfl
 | [e], st, i, r, h => by
  simp only [spGo, Option.some.injEq] at h
  subst h
  rfl
 | e :: f :: l, st, i, r, h => by
  rw [spGo] at h
  by_cases hT : endT e (ruEr rs e) <= st
  ·rw [if_pos hT] at h; cases h
  rw [if_neg hT] at h
  obtain ⟨r2, h2, rfl⟩ := Option.map_eq_some_iff.1 h
  rw [List.length_cons, Zw9 rs (f :: l) _ (i + 1) r2 h2]; rfl
theorem ZmC (rs : List Zaa) : ∀ (l : List DEra) (st : Int) (i : Nat), (∀ e, l[0]? = some e -> 1 < l.length -> st < endT e (ruEr rs e)) ->
  (∀ k e f, l[k]? = some e -> l[k + 1]? = some f -> k + 2 < l.length -> endT e (ruEr rs e) < endT f (ruEr rs f)) -> ∃ r, spGo rs l st i = some r
 | [], _, _, _, _ => ⟨_, rfl⟩
 | [e], _, _, _, _ => ⟨_, rfl⟩
 | e :: f :: l, st, i, h1, h2 => by
  have h3 := h1 e rfl (by simp)
  obtain ⟨r, hr⟩ := ZmC rs (f :: l) (endT e (ruEr rs e)) (i + 1) (fun g hg hl => by
   cases hg
   exact h2 0 e f rfl rfl (by simp only [List.length_cons] at hl ⊢; omega)) (fun k g u hg hu hl => h2 (k + 1) g u hg hu (by simp only [List.length_cons] at hl ⊢; omega))
  exact ⟨_, by rw [spGo, if_neg (by omega), hr]; rfl⟩
def Za9 (rs : List Zaa) (l : List DEra) (t : Int) : Nat := match ZfB rs l with
 | some r => (Zdu t r 0).toNat
 | none => 0
theorem ZeI {rs : List Zaa} {l : List DEra} {r : List ZaI} (h : ZfB rs l = some r) (hl : l ≠ []) {t : Int} (h0 : -9223372036854775808 <= t) (h1 : t < 9223372036854775807) :
  ∃ x, Za9 rs l t < l.length /\ r[Za9 rs l t]? = some x /\ Zey r t = (x, true) /\ x.era = (Za9 rs l t : Nat) /\ x.start <= t /\ t < x.fin := by
 obtain ⟨k, x, a1, a2, a3, a4, a5, a6⟩ := ZzP rs t h1 l _ 0 r h hl h0
 have hk : Za9 rs l t = k := by
  unfold Za9
  rw [h]
  dsimp only
  rw [a4]
  simp
 refine ⟨x, by rw [hk]; exact a1, by rw [hk]; exact a2, ?_, by rw [hk, a3]; simp, a5, a6⟩
 unfold Zey
 rw [a4, if_neg (by omega), List.getD_eq_getElem?_getD, show (((0 : Nat) : Int) + (k : Nat)).toNat = k by omega, a2]
 rfl
theorem Zr0 {rs : List Zaa} {l : List DEra} {r : List ZaI} (h : ZfB rs l = some r) {k : Nat} {x : ZaI} (hx : r[k]? = some x) {t : Int} (h1 : x.start <= t) (h2 : t < x.fin) : Za9 rs l t = k := by
 unfold Za9
 rw [h]
 dsimp only
 rw [ZsO rs t l _ 0 r h k x hx h1 h2]
 simp
def ZaD (rs : List Zaa) (l : List DEra) (t : Int) : Zaf := ZfM (l.getD (Za9 rs l t) dE0) (ZaZ rs (l.getD (Za9 rs l t) dE0) t)
section
variable {P : Int × ByteArray -> Prop} {l : List Zaa}
theorem ZqR (h0 : P (0, ByteArray.empty)) (hr : ∀ r ∈ l, P (r.save, r.letter)) (e : Zad) : P (behS l e) := by
 unfold behS ruE
 rw [List.getD_eq_getElem?_getD]
 cases hx : l[e.rule.toNat]? with
 | none => exact h0
 | some r => exact hr r (List.mem_of_getElem? hx)
theorem Zxg (h0 : P (0, ByteArray.empty)) (hr : ∀ r ∈ l, P (r.save, r.letter)) : P (iniS l) := by
 unfold iniS
 cases fstD l true 0 with
 | none => exact h0
 | some e =>
  dsimp only
  cases fstD l false (ruE l e).save with
  | none => exact ZqR h0 hr e
  | some o => exact ZqR h0 hr o
theorem Zuo (h0 : P (0, ByteArray.empty)) (hr : ∀ r ∈ l, P (r.save, r.letter)) (n : Int) : P (befS l n) := by
 unfold befS
 cases befD l n with
 | none => exact Zxg h0 hr
 | some e => exact ZqR h0 hr e
theorem Zxn (h0 : P (0, ByteArray.empty)) (hr : ∀ r ∈ l, P (r.save, r.letter)) (off t : Int) : ∀ (k : Nat) (n : Int), P (atGo l off t k n)
 | 0, n => Zuo h0 hr n
 | k + 1, n => by
  rw [atGo]
  cases befD l n with
  | none => exact Zxg h0 hr
  | some e =>
   dsimp only
   split
   ·exact ZqR h0 hr e
   ·exact Zxn h0 hr off t k _
end
theorem Zlq {P : Int × ByteArray -> Prop} {rs : List Zaa} {e : DEra} (h0 : P (0, ByteArray.empty)) (h1 : e.kind = 1 -> P (e.save, ByteArray.empty)) (hr : e.kind ≠ 0 -> e.kind ≠ 1 -> ∀ r ∈ ofB rs e.set, P (r.save, r.letter)) (t : Int) : P (ZaZ rs e t) := by
 unfold ZaZ
 split
 ·exact h0
 ·split
  ·exact h1 ‹_›
  ·exact Zxn h0 (hr ‹_› ‹_›) _ _ _ _
def DrSt (e : DEra) (x : Int × ByteArray) : Prop := (-54000 <= e.off + x.1 /\ e.off + x.1 <= 54000) /\ (-10800 <= x.1 /\ x.1 <= 10800) /\ x.2 ∈ [ByteArray.empty, ⟨#[83]⟩, ⟨#[68]⟩, ⟨#[68, 84]⟩]
theorem ZbC.st0 {rs : List Zaa} {e : DEra} {b : Bool} (h : ZbC rs e b) : DrSt e (0, ByteArray.empty) := by
 refine ⟨?_, by decide, .head _⟩
 rcases h with ⟨_, _, _, h1, h2, _⟩ | ⟨_, _, _, h1, h2, _⟩ | ⟨_, _, _, h1, h2, _⟩ <;> dsimp only <;> omega
theorem ZbC.st1 {rs : List Zaa} {e : DEra} {b : Bool} (h : ZbC rs e b) (hk : e.kind = 1) : DrSt e (e.save, ByteArray.empty) := by
 rcases h with ⟨h0, _⟩ | ⟨_, ⟨h3, h4⟩, _, h1, h2, _⟩ | ⟨h0, _⟩
 ·omega
 ·exact ⟨by dsimp only; omega, by dsimp only; omega, .head _⟩
 ·omega
theorem ZbC.st2 {rs : List Zaa} {e : DEra} {b : Bool} (h : ZbC rs e b) (hk0 : e.kind ≠ 0) (hk1 : e.kind ≠ 1) : ∀ r ∈ ofB rs e.set, DrSt e (r.save, r.letter) := fun r hr => by
 rcases h with ⟨h0, _⟩ | ⟨h0, _⟩ | ⟨_, _, _, h1, h2, _, h3, _⟩
 ·exact absurd h0 hk0
 ·exact absurd h0 hk1
 ·have hd := h3.rule r hr
  have hs := hd.save
  exact ⟨by dsimp only; omega, by dsimp only; omega, hd.letter⟩
theorem ZbC.state {rs : List Zaa} {e : DEra} {b : Bool} (h : ZbC rs e b) (t : Int) : DrSt e (ZaZ rs e t) := Zlq h.st0 h.st1 h.st2 t
theorem ZbC.befS {rs : List Zaa} {e : DEra} {b : Bool} (h : ZbC rs e b) (hk : e.kind = 2) (n : Int) : DrSt e (Go.Wk.befS (ofB rs e.set) n) := Zuo h.st0 (h.st2 (by omega) (by omega)) n
def pOk (f : List UInt8) : Option (List UInt8 × List UInt8) -> Bool
 | some (a, b) => decide (a ≠ []) && decide (b ≠ [])
 | none => decide (ZbZ f = 1) && decide (f ≠ [])
theorem ZrU : ∀ f ∈ ZtS, pOk f (Zda f) = true := by decide +kernel
theorem ZrT : ∀ f ∈ ZtR, ∀ x ∈ Zm8, (Zcl f 0 0 x).2 = 0 /\ (Zcl f 0 0 x).1 ≠ [] := by decide +kernel
theorem Zzi {e : DEra} (hf : e.format ∈ fmtU) {x : Int × ByteArray} (hx : DrSt e x) : abE e x = 0 /\ Zps e x.1 x.2 ≠ ByteArray.empty := by
 obtain ⟨⟨h1, h2⟩, _, h3⟩ := hx
 have key : (Zcl e.format.data.toList e.off x.1 x.2.data.toList).2 = 0 /\ (Zcl e.format.data.toList e.off x.1 x.2.data.toList).1 ≠ [] := by
  rcases Zi9 hf with h | h | h
  ·have := ZrU _ h
   unfold Zcl
   cases hp : Zda e.format.data.toList with
   | none =>
    rw [hp] at this
    simp only [pOk, Bool.and_eq_true, decide_eq_true_eq] at this
    dsimp only
    rw [this.1, if_neg (by decide), if_neg (by decide), if_pos (.inl rfl)]
    exact ⟨rfl, this.2⟩
   | some ab =>
    obtain ⟨a, b⟩ := ab
    rw [hp] at this
    simp only [pOk, Bool.and_eq_true, decide_eq_true_eq] at this
    dsimp only
    refine ⟨rfl, ?_⟩
    split
    ·exact this.1
    ·exact this.2
  ·have h4 := ZrT _ h _ (Zqr h3)
   have h5 := Zej.1 _ h
   have h6 := (Zdl.2.1 _ h).1
   unfold Zcl at h4 ⊢
   rw [h5] at h4 ⊢
   dsimp only at h4 ⊢
   rw [if_pos h6] at h4 ⊢
   exact h4
  ·rw [h]
   unfold Zcl
   rw [Zej.2]
   dsimp only
   have ht := Zmu (e.off + x.1) (by omega)
   rw [Zdl.2.2, if_neg (by decide), if_pos rfl, if_pos ⟨by unfold ZdN; simp; omega, ht⟩]
   exact ⟨rfl, ht⟩
 refine ⟨key.1, fun h => key.2 ?_⟩
 unfold Zps at h
 have := congrArg (fun b => b.data.toList) h
 simpa using this
theorem ZyG {u : Zbj} {least n : Int} (h : ZaL u least = (n, 0)) (hc : Za0 u least = 0) (hl : -3600 <= least /\ least <= 0) : n <= 86400 * (onD u.year u.month u.day).1 + u.at_.sec /\ 86400 * (onD u.year u.month u.day).1 + u.at_.sec <= n + 3600 := by
 unfold ZaL at h
 rw [if_neg (by rw [hc]; decide)] at h
 have h1 : 86400 * (onD u.year u.month u.day).1 + u.at_.sec + (if u.at_.base = 1 then least else 0) = n := congrArg Prod.fst h
 split at h1 <;> omega
theorem ZbC.rs {rs : List Zaa} {e : DEra} {b : Bool} (h : ZbC rs e b) : RsSm (ruEr rs e) := by
 have hd : ∀ r ∈ ruEr rs e, DrRule r /\ (ruEr rs e).length <= 5 := by
  rcases h with ⟨h0, _⟩ | ⟨h0, _⟩ | ⟨h0, _, _, h1, h2, _, h3, h4⟩
  ·unfold ruEr; rw [if_neg (by omega)]; exact fun r hr => by cases hr
  ·unfold ruEr; rw [if_neg (by omega)]; exact fun r hr => by cases hr
  ·unfold ruEr; rw [if_pos h0]; exact fun r hr => ⟨h3.rule r hr, h4⟩
 refine ⟨?_, fun r hr => ?_, fun r hr => ?_, fun r hr => ?_⟩
 ·cases hl : ruEr rs e with
  | nil => decide
  | cons r l => have := (hd r (by rw [hl]; exact List.mem_cons_self)).2; rw [hl] at this; omega
 ·have := (hd r hr).1.save; omega
 ·have := (hd r hr).1.f1; omega
 ·have := (hd r hr).1.ft; have := (hd r hr).1.f0; omega
theorem ZlJ {n : Int} (h : -604799 <= n /\ n <= 604799) : Zj5 n = true := by unfold Zj5; simp; exact h
theorem ZbC.bs {rs : List Zaa} {e : DEra} {b : Bool} (h : ZbC rs e b) : -3600 <= Go.Wk.bsE e (ruEr rs e) /\ Go.Wk.bsE e (ruEr rs e) <= 0 := by
 have := h.least
 unfold Zbm at this
 unfold Go.Wk.bsE ruEr
 split
 ·rw [if_pos ‹_›] at this
  omega
 ·decide
theorem ZbC.bf {rs : List Zaa} {e : DEra} {b : Bool} (h : ZbC rs e b) (n : Int) : -10800 <= bfE e (ruEr rs e) n /\ bfE e (ruEr rs e) n <= 10800 := by
 unfold bfE
 split
 ·have := (h.st1 ‹_›).2.1
  exact this
 ·split
  ·unfold ruEr
   rw [if_pos ‹_›]
   exact (h.befS ‹_› n).2.1
  ·decide
theorem ZbC.un {rs : List Zaa} {e : DEra} {b : Bool} (h : ZbC rs e b) {Y : Int} (hT : ZvR e.til Y) (hY : 1850 <= Y /\ Y <= 2148) :
  UnOk e (ruEr rs e) /\ 86400 * (mar1 Y + 279) - 70000 <= endT e (ruEr rs e) /\ endT e (ruEr rs e) <= 86400 * (mar1 Y + 327) + 70000 := by
 obtain ⟨t1, t2, n, t3, t4, t5⟩ := hT.nom hY h.bs
 have h0 := h.st0.1
 have hb := h.bf (ZaL e.til (Go.Wk.bsE e (ruEr rs e))).1
 have hsc := ZyG t3 t2 h.bs
 dsimp only at h0
 have hk : 0 <= e.kind /\ e.kind <= 2 := by rcases h with ⟨h0, _⟩ | ⟨h0, _⟩ | ⟨h0, _⟩ <;> omega
 have hs : -10800 <= e.save /\ e.save <= 10800 := by
  rcases h with ⟨_, h0, _⟩ | ⟨_, h0, _⟩ | ⟨_, _, h0, _⟩ <;> omega
 refine ⟨⟨hk, ZlJ (by omega), ZlJ (by omega), t2, ZlJ (by unfold endB; omega)⟩, ?_⟩
 unfold endT
 unfold endB
 split
 ·omega
 ·split <;> omega
theorem ZaJ.un {rs : List Zaa} {l : List DEra} {Y : Nat -> Int} (h : ZaJ rs l Y) (k : Nat) (e : DEra) (he : l[k]? = some e) (hk : k + 1 < l.length) : RsSm (ruEr rs e) /\ UnOk e (ruEr rs e) := by
 have hT := h.til k e he
 rw [if_pos hk] at hT
 exact ⟨(h.era k e he).rs, ((h.era k e he).un hT (h.yr k hk)).1⟩
theorem ZaJ.sp {rs : List Zaa} {l : List DEra} {Y : Nat -> Int} (h : ZaJ rs l Y) : ∃ r, ZfB rs l = some r := by
 refine ZmC rs l _ 0 (fun e he hl => ?_) (fun k e f he hf hl => ?_)
 ·have hT := h.til 0 e he
  rw [if_pos hl] at hT
  have hy := h.yr 0 hl
  obtain ⟨_, h1, _⟩ := (h.era 0 e he).un hT hy
  have hm : mar1 1850 <= mar1 (Y 0) := Zhj hy.1
  have h5 : -50000 <= mar1 1850 := by decide
  omega
 ·have hT := h.til k e he
  rw [if_pos (by omega)] at hT
  have hT2 := h.til (k + 1) f hf
  rw [if_pos (by omega)] at hT2
  obtain ⟨_, _, h1⟩ := (h.era k e he).un hT (h.yr k (by omega))
  obtain ⟨_, h2, _⟩ := (h.era (k + 1) f hf).un hT2 (h.yr (k + 1) (by omega))
  have := ZeS (h.inc k (by omega))
  omega
theorem Zhv (least nominal : Int) (r : Zaa) (i : Int) : ∀ (k : Nat) (y : Int) (e : Zad), beIn least nominal r i y k = some e -> ∃ y', onR least r i y' = some e /\ e.nominal < nominal
 | 0, _, _, h => by cases h
 | k + 1, y, e, h => by
  rw [beIn] at h
  cases he : onR least r i y with
  | none => rw [he] at h; exact Zhv least nominal r i k (y - 1) e h
  | some e' =>
   rw [he] at h
   dsimp only at h
   by_cases hc : e'.nominal < nominal
   ·rw [if_pos hc] at h
    cases h
    exact ⟨y, he, hc⟩
   ·rw [if_neg hc] at h
    exact Zhv least nominal r i k (y - 1) e h
theorem ZjE (least nominal : Int) (r : Zaa) (i : Int) : ∀ (k : Nat) (y : Int) (q : Nat) (e : Zad), q < k -> onR least r i (y - q) = some e -> e.nominal < nominal -> ∃ e', beIn least nominal r i y k = some e' /\ e.nominal <= e'.nominal
 | 0, _, _, _, h, _, _ => absurd h (by omega)
 | k + 1, y, q, e, h, h1, h2 => by
  rw [beIn]
  cases he : onR least r i y with
  | none =>
   cases q with
   | zero => rw [show y - ((0 : Nat) : Int) = y by omega, he] at h1; cases h1
   | succ q => exact ZjE least nominal r i k (y - 1) q e (by omega) (by rw [show y - 1 - (q : Int) = y - ((q + 1 : Nat) : Int) by omega]; exact h1) h2
  | some e' =>
   dsimp only
   by_cases hc : e'.nominal < nominal
   ·rw [if_pos hc]
    refine ⟨e', rfl, ?_⟩
    cases q with
    | zero => rw [show y - ((0 : Nat) : Int) = y by omega, he] at h1; cases h1; exact Int.le_refl _
    | succ q => exact Int.le_of_lt (Zif h1 he (by omega))
   ·rw [if_neg hc]
    cases q with
    | zero => rw [show y - ((0 : Nat) : Int) = y by omega, he] at h1; cases h1; exact absurd h2 hc
    | succ q => exact ZjE least nominal r i k (y - 1) q e (by omega) (by rw [show y - 1 - (q : Int) = y - ((q + 1 : Nat) : Int) by omega]; exact h1) h2
theorem ZjC (least nominal yr : Int) : ∀ (l : List Zaa) (i : Nat) (b : Option Zad) (e : Zad), Zeo least nominal yr l i b = some e -> b = some e \/ ∃ (j : Nat) (r : Zaa), l[j]? = some r /\ beIn least nominal r ((i + j : Nat) : Int) (min (lastY r) (yr + 2)) 20 = some e
 | [], _, _, _, h => .inl h
 | r :: l, i, b, e, h => by
  rw [Zeo] at h
  rcases ZjC least nominal yr l (i + 1) _ e h with h1 | ⟨j, r', h1, h2⟩
  ·cases he : beIn least nominal r i (min (lastY r) (yr + 2)) 20 with
   | none => rw [he] at h1; exact .inl h1
   | some e' =>
    rw [he] at h1
    have hr : ∀ x, e' = x -> ∃ (j : Nat) (r' : Zaa), (r :: l)[j]? = some r' /\ beIn least nominal r' ((i + j : Nat) : Int) (min (lastY r') (yr + 2)) 20 = some x := fun x hx => ⟨0, r, rfl, by rw [<- hx]; exact he⟩
    cases b with
    | none => cases h1; exact .inr (hr _ rfl)
    | some b =>
     dsimp only at h1
     split at h1
     ·cases h1; exact .inr (hr _ rfl)
     ·exact .inl h1
  ·exact .inr ⟨j + 1, r', by simpa using h1, by rw [show i + (j + 1) = i + 1 + j by omega]; exact h2⟩
theorem Zfr (least nominal yr : Int) : ∀ (l : List Zaa) (i : Nat) (b : Zad), ∃ e, Zeo least nominal yr l i (some b) = some e /\ b.nominal <= e.nominal
 | [], _, b => ⟨b, rfl, Int.le_refl _⟩
 | r :: l, i, b => by
  rw [Zeo]
  cases he : beIn least nominal r i (min (lastY r) (yr + 2)) 20 with
  | none => exact Zfr least nominal yr l (i + 1) b
  | some e' =>
   dsimp only
   split
   ·rename_i hlt
    obtain ⟨e, h1, h2⟩ := Zfr least nominal yr l (i + 1) e'
    have : b.nominal <= e'.nominal := by
     unfold ordE at hlt
     split at hlt
     ·omega
     ·split at hlt
      ·omega
      ·omega
    exact ⟨e, h1, by omega⟩
   ·exact Zfr least nominal yr l (i + 1) b
theorem ZkZ (least nominal yr : Int) : ∀ (l : List Zaa) (i : Nat) (b : Option Zad) (j : Nat) (r : Zaa) (e' : Zad), l[j]? = some r -> beIn least nominal r ((i + j : Nat) : Int) (min (lastY r) (yr + 2)) 20 = some e' -> ∃ e, Zeo least nominal yr l i b = some e /\ e'.nominal <= e.nominal
 | [], _, _, _, _, _, h, _ => by simp at h
 | r0 :: l, i, b, 0, r, e', h, h2 => by
  simp only [List.getElem?_cons_zero, Option.some.injEq] at h
  subst h
  rw [Zeo, show beIn least nominal r0 (i : Int) (min (lastY r0) (yr + 2)) 20 = some e' from h2]
  cases b with
  | none => exact Zfr least nominal yr l (i + 1) e'
  | some b =>
   dsimp only
   split
   ·exact Zfr least nominal yr l (i + 1) e'
   ·rename_i hlt
    obtain ⟨e, g1, g2⟩ := Zfr least nominal yr l (i + 1) b
    refine ⟨e, g1, ?_⟩
    unfold ordE at hlt
    split at hlt
    ·omega
    ·split at hlt <;> omega
 | r0 :: l, i, b, j + 1, r, e', h, h2 => by
  rw [Zeo]
  exact ZkZ least nominal yr l (i + 1) _ j r e' (by simpa using h) (by rw [show i + 1 + j = i + (j + 1) by omega]; exact h2)
def EvOf (l : List Zaa) (e : Zad) : Prop := ∃ (j : Nat) (r : Zaa) (y : Int), l[j]? = some r /\ onR (Zak l) r (j : Int) y = some e
theorem _root_.Go.Wk.DrRule.lastYr {r : Zaa} (h : DrRule r) : r.from_ <= Go.Wk.lastY r /\ Go.Wk.lastY r <= 2000000000 := by
 have h0 := h.f0
 have h1 := h.f1
 have h2 := h.ft
 unfold Go.Wk.lastY
 split <;> omega
theorem _root_.Go.Wk.DrRule.onY {r : Zaa} (h : DrRule r) (least i : Int) {y : Int} (h0 : r.from_ <= y) (h1 : y <= Go.Wk.lastY r) : ∃ e, onR least r i y = some e := by
 have hf0 := h.f0
 have hl := h.lastYr
 have hck : Zbb r.at_ = true := by
  have := h.clk
  unfold Zbb
  simp
  omega
 have hin : inY y = true := by
  unfold inY
  simp
  omega
 obtain ⟨m0, m1⟩ := h.mon12
 have ho := (h.day.on hin m0 m1).1
 unfold onR
 rw [if_neg (by rw [hck]; rintro (q | q | q); omega; omega; cases q), if_neg (by rw [ho]; decide)]
 exact ⟨_, rfl⟩
theorem Zlz {least : Int} {r : Zaa} {i y : Int} {e : Zad} (h : onR least r i y = some e) : y <= Go.Wk.lastY r := by
 unfold onR at h
 split at h
 ·cases h
 ·rename_i h1
  exact Int.not_lt.1 fun hh => h1 (.inr (.inl hh))
section
variable {l : List Zaa} (h : Zbl l)
include h
omit h in
theorem Zzd {n : Int} {e : Zad} (he : befD l n = some e) : EvOf l e /\ e.nominal < n := by
 rcases ZjC _ _ _ l 0 none e he with h1 | ⟨j, r, h1, h2⟩
 ·cases h1
 ·obtain ⟨y, h3, h4⟩ := Zhv _ _ _ _ _ _ _ h2
  rw [Nat.zero_add] at h3
  exact ⟨⟨j, r, y, h1, h3⟩, h4⟩
theorem Zbl.befD_full {n : Int} (h0 : -4000000000000 <= n) (h1 : n <= 4000000000000) {f : Zad} (hf : EvOf l f) (hn : f.nominal < n) : ∃ e, befD l n = some e /\ f.nominal <= e.nominal := by
 obtain ⟨j, r, y, hj, hy⟩ := hf
 have hr := h.rule r (List.mem_of_getElem? hj)
 obtain ⟨b1, b2⟩ := Zkf h0 h1
 have hle := h.least.2
 obtain ⟨c1, c2⟩ := Zqj hle hy
 have hyy : y <= Za2 n + 1 := Zgo (by omega)
 have hyl := Zlz hy
 obtain ⟨_, _, hyf, _⟩ := hr.ev h.least hy
 have key : ∃ (q : Nat) (g : Zad), q < 20 /\ onR (Zak l) r (j : Int) (min (Go.Wk.lastY r) (Za2 n + 2) - q) = some g /\ g.nominal < n /\ f.nominal <= g.nominal := by
  by_cases hq : min (Go.Wk.lastY r) (Za2 n + 2) - y < 20
  ·refine ⟨(min (Go.Wk.lastY r) (Za2 n + 2) - y).toNat, f, by omega, ?_, hn, Int.le_refl _⟩
   rw [show min (Go.Wk.lastY r) (Za2 n + 2) - ((min (Go.Wk.lastY r) (Za2 n + 2) - y).toNat : Int) = y by omega]
   exact hy
  ·obtain ⟨g, hg⟩ := hr.onY (Zak l) (j : Int) (y := min (Go.Wk.lastY r) (Za2 n + 2) - 10) (by omega) (by omega)
   refine ⟨10, g, by omega, hg, ?_, Int.le_of_lt (Zif hy hg (by omega))⟩
   refine Int.not_le.1 fun hh => ?_
   obtain ⟨d1, d2⟩ := Zqj hle hg
   have : Za2 n <= min (Go.Wk.lastY r) (Za2 n + 2) - 10 + 1 := Zgo (by omega)
   omega
 obtain ⟨q, g, g1, g2, g3, g4⟩ := key
 obtain ⟨e', k1, k2⟩ := ZjE (Zak l) n r (j : Int) 20 _ q g g1 g2 g3
 obtain ⟨e, k3, k4⟩ := ZkZ (Zak l) n (Za2 n) l 0 none j r e' hj (by rw [Nat.zero_add]; exact k1)
 exact ⟨e, k3, by omega⟩
theorem Zbl.uniq {e f : Zad} (he : EvOf l e) (hf : EvOf l f) (hn : e ≠ f) : 259200 <= e.nominal - f.nominal \/ 259200 <= f.nominal - e.nominal := by
 obtain ⟨j, r, y, h1, h2⟩ := he
 obtain ⟨k, s, z, h3, h4⟩ := hf
 exact h.far2 h1 h3 h2 h4 hn
theorem Zbl.eq {e f : Zad} (he : EvOf l e) (hf : EvOf l f) (hn : e.nominal - f.nominal < 259200 /\ f.nominal - e.nominal < 259200) : e = f := by
 by_cases hne : e = f
 ·exact hne
 ·have := h.uniq he hf hne
  omega
theorem Zbl.save0 : ∀ r ∈ l, -10800 <= r.save /\ r.save <= 10800 := fun r hr => by
 have := (h.rule r hr).save
 omega
theorem Zbl.bef_bd (n : Int) : -10800 <= (befS l n).1 /\ (befS l n).1 <= 10800 := Zuo (P := fun x => -10800 <= x.1 /\ x.1 <= 10800) (by decide) (fun r hr => h.save0 r hr) n
theorem Zbl.inst_near {off : Int} (ho : -43200 <= off /\ off <= 43200) (e : Zad) : e.nominal - 54000 <= Zbk l e off /\ Zbk l e off <= e.nominal + 54000 := by
 have hb := h.bef_bd e.nominal
 have hl := h.least
 unfold Zbk
 split
 ·omega
 ·split <;> omega
theorem Zbl.low {e : Zad} (he : EvOf l e) : -4000000000 <= e.nominal := by
 obtain ⟨j, r, y, h1, h2⟩ := he
 have hr := h.rule r (List.mem_of_getElem? h1)
 obtain ⟨_, _, hyf, _, hlo, _⟩ := hr.ev h.least h2
 have hm : mar1 1900 <= mar1 y := Zhj (by have := hr.f0; omega)
 have h5 : -30000 <= mar1 1900 := by decide
 have hs := ZiY r.month
 have hll : -29 <= loS r.month := hs.1
 omega
end
def ZzG (l : List Zaa) (off t : Int) : Option Zad -> Prop
 | some e => EvOf l e /\ Zbk l e off <= t /\ ∀ f, EvOf l f -> Zbk l f off <= t -> f.nominal <= e.nominal
 | none => ∀ f, EvOf l f -> t < Zbk l f off
def stOf (l : List Zaa) : Option Zad -> Int × ByteArray
 | some e => behS l e
 | none => iniS l
section
variable {l : List Zaa} (h : Zbl l) {off t : Int} (ho : -43200 <= off /\ off <= 43200)
include h
theorem Zbl.round {n : Int} (h0 : -4000000000000 <= n) (h1 : n <= 4000000000000) (hI : ∀ f, EvOf l f -> Zbk l f off <= t -> f.nominal < n) :
  (befD l n = none /\ ZzG l off t none) \/ ∃ e, befD l n = some e /\ EvOf l e /\ e.nominal < n /\ ((Zbk l e off <= t /\ ZzG l off t (some e)) \/ (t < Zbk l e off /\ ∀ f, EvOf l f -> Zbk l f off <= t -> f.nominal < e.nominal)) := by
 cases hb : befD l n with
 | none =>
  refine .inl ⟨rfl, fun f hf => Int.not_le.1 fun hh => ?_⟩
  obtain ⟨e, he, _⟩ := h.befD_full h0 h1 hf (hI f hf hh)
  rw [hb] at he
  cases he
 | some e =>
  obtain ⟨h2, h3⟩ := Zzd hb
  have hmax : ∀ f, EvOf l f -> Zbk l f off <= t -> f.nominal <= e.nominal := fun f hf hh => by
   obtain ⟨e', he, hle⟩ := h.befD_full h0 h1 hf (hI f hf hh)
   rw [hb] at he
   cases he
   exact hle
  refine .inr ⟨e, rfl, h2, h3, ?_⟩
  by_cases ht : Zbk l e off <= t
  ·exact .inl ⟨ht, h2, ht, hmax⟩
  ·refine .inr ⟨by omega, fun f hf hh => ?_⟩
   have h4 := hmax f hf hh
   by_cases hfe : f = e
   ·subst hfe
    exact absurd hh ht
   ·have := h.uniq hf h2 hfe
    omega
include ho
theorem Zbl.atS_last (h0 : -3000000000000 <= t) (h1 : t <= 3000000000000) : ∃ o, ZzG l off t o /\ atS l off t = stOf l o := by
 have near := h.inst_near ho
 have I1 : ∀ f, EvOf l f -> Zbk l f off <= t -> f.nominal < t + 259200 := fun f _ hh => by have := near f; omega
 unfold atS
 rcases h.round (t := t) (off := off) (n := t + 259200) (by omega) (by omega) I1 with ⟨a1, a2⟩ | ⟨e1, a1, a2, a3, ⟨a4, a5⟩ | ⟨a4, a5⟩⟩
 ·exact ⟨none, a2, by rw [atGo, a1]; rfl⟩
 ·exact ⟨some e1, a5, by rw [atGo, a1]; dsimp only; rw [if_pos a4]; rfl⟩
 have l1 := h.low a2
 rw [atGo, a1]
 dsimp only
 rw [if_neg (by omega)]
 rcases h.round (t := t) (off := off) (n := e1.nominal) (by omega) (by omega) a5 with ⟨b1, b2⟩ | ⟨e2, b1, b2, b3, ⟨b4, b5⟩ | ⟨b4, b5⟩⟩
 ·exact ⟨none, b2, by rw [atGo, b1]; rfl⟩
 ·exact ⟨some e2, b5, by rw [atGo, b1]; dsimp only; rw [if_pos b4]; rfl⟩
 have l2 := h.low b2
 have d2 := h.uniq b2 a2 (fun hh => by rw [hh] at b3; omega)
 rw [atGo, b1]
 dsimp only
 rw [if_neg (by omega)]
 rcases h.round (t := t) (off := off) (n := e2.nominal) (by omega) (by omega) b5 with ⟨c1, c2⟩ | ⟨e3, c1, c2, c3, ⟨c4, c5⟩ | ⟨c4, c5⟩⟩
 ·exact ⟨none, c2, by rw [atGo, c1]; rfl⟩
 ·exact ⟨some e3, c5, by rw [atGo, c1]; dsimp only; rw [if_pos c4]; rfl⟩
 exfalso
 have d3 := h.uniq c2 b2 (fun hh => by rw [hh] at c3; omega)
 have := near e3
 omega
theorem Zbl.at_change {a b : Int} (h0 : -3000000000000 <= a) (h1 : b <= 3000000000000) (hab : a <= b) (hne : atS l off a ≠ atS l off b) : ∃ e, EvOf l e /\ a < Zbk l e off /\ Zbk l e off <= b := by
 obtain ⟨o1, p1, p2⟩ := h.atS_last ho (t := a) (by omega) (by omega)
 obtain ⟨o2, q1, q2⟩ := h.atS_last ho (t := b) (by omega) (by omega)
 rw [p2, q2] at hne
 cases o2 with
 | none =>
  cases o1 with
  | none => exact absurd rfl hne
  | some e =>
   obtain ⟨p3, p4, _⟩ := p1
   exact absurd (q1 e p3) (by omega)
 | some e =>
  obtain ⟨q3, q4, q5⟩ := q1
  refine ⟨e, q3, Int.not_le.1 fun hh => ?_, q4⟩
  cases o1 with
  | none => exact absurd (p1 e q3) (by omega)
  | some g =>
   obtain ⟨p3, p4, p5⟩ := p1
   have r1 := p5 e q3 hh
   have r2 := q5 g p3 (by omega)
   exact hne (by rw [h.eq p3 q3 (by omega)])
end
theorem Zp8 (rs : List Zaa) : ∀ (l : List DEra) (st : Int) (i : Nat) (r : List ZaI), spGo rs l st i = some r -> ∀ (k : Nat) (x : ZaI), r[k]? = some x ->
  (k = 0 -> x.start = st) /\ (∀ j, k = j + 1 -> ∃ e p, l[j]? = some e /\ r[j]? = some p /\ x.start = endT e (ruEr rs e) /\ p.fin = x.start /\ p.start < p.fin /\ j + 1 < l.length) /\
  ((k + 1 = l.length /\ x.fin = 9223372036854775807) \/ (k + 1 < l.length /\ x.start < x.fin /\ ∃ e, l[k]? = some e /\ x.fin = endT e (ruEr rs e)))
 | [], _, _, _, h, k, x, hx => by
  simp only [spGo, Option.some.injEq] at h
  subst h
  simp at hx
 | [e], st, i, r, h, k, x, hx => by
  simp only [spGo, Option.some.injEq] at h
  subst h
  rcases k with _ | k
  ·simp only [List.getElem?_cons_zero, Option.some.injEq] at hx
   subst hx
   exact ⟨fun _ => rfl, fun j hj => by omega, .inl ⟨rfl, rfl⟩⟩
  ·simp at hx
 | e :: f :: l, st, i, r, h, k, x, hx => by
  rw [spGo] at h
  by_cases hT : endT e (ruEr rs e) <= st
  ·rw [if_pos hT] at h; cases h
  rw [if_neg hT] at h
  obtain ⟨r2, h2, rfl⟩ := Option.map_eq_some_iff.1 h
  rcases k with _ | k
  ·simp only [List.getElem?_cons_zero, Option.some.injEq] at hx
   subst hx
   exact ⟨fun _ => rfl, fun j hj => by omega, .inr ⟨by simp, by dsimp only; omega, e, rfl, rfl⟩⟩
  ·simp only [List.getElem?_cons_succ] at hx
   obtain ⟨a1, a2, a3⟩ := Zp8 rs (f :: l) _ (i + 1) r2 h2 k x hx
   refine ⟨fun hh => by omega, fun j hj => ?_, ?_⟩
   ·obtain rfl : k = j := by omega
    rcases k with _ | k
    ·exact ⟨e, _, rfl, rfl, a1 rfl, (a1 rfl).symm, by dsimp only; omega, by simp⟩
    ·obtain ⟨g, p, b1, b2, b3, b4, b5, b6⟩ := a2 k rfl
     exact ⟨g, p, by simpa using b1, by simpa using b2, b3, b4, b5, by simp only [List.length_cons] at b6 ⊢; omega⟩
   ·rcases a3 with ⟨a3, a4⟩ | ⟨a3, a4, g, a5, a6⟩
    ·exact .inl ⟨by simp only [List.length_cons] at a3 ⊢; omega, a4⟩
    ·exact .inr ⟨by simp only [List.length_cons] at a3 ⊢; omega, a4, g, by simpa using a5, a6⟩
theorem Zw8 (rs : List Zaa) : ∀ (l : List DEra) (st : Int) (i : Nat) (r : List ZaI), spGo rs l st i = some r -> ∀ (n k : Nat) (x y : ZaI), r[n]? = some x -> r[k]? = some y -> n < k -> x.fin <= y.start
 | [], _, _, _, h, n, k, x, y, hx, _, _ => by
  simp only [spGo, Option.some.injEq] at h
  subst h
  simp at hx
 | [e], st, i, r, h, n, k, x, y, _, hy, hn => by
  simp only [spGo, Option.some.injEq] at h
  subst h
  rcases k with _ | k
  ·omega
  ·simp at hy
 | e :: f :: l, st, i, r, h, n, k, x, y, hx, hy, hn => by
  rw [spGo] at h
  by_cases hT : endT e (ruEr rs e) <= st
  ·rw [if_pos hT] at h; cases h
  rw [if_neg hT] at h
  obtain ⟨r2, h2, rfl⟩ := Option.map_eq_some_iff.1 h
  rcases k with _ | k
  ·omega
  simp only [List.getElem?_cons_succ] at hy
  rcases n with _ | n
  ·simp only [List.getElem?_cons_zero, Option.some.injEq] at hx
   subst hx
   exact Zls rs (f :: l) _ (i + 1) r2 h2 y (List.mem_of_getElem? hy)
  ·simp only [List.getElem?_cons_succ] at hx
   exact Zw8 rs (f :: l) _ (i + 1) r2 h2 n k x y hx hy (by omega)
theorem Zhr {rs : List Zaa} {l : List DEra} {r : List ZaI} (hr : ZfB rs l = some r) (hl : l ≠ []) {a b : Int} (h0 : -9223372036854775808 <= a) (hab : a <= b) (h1 : b < 9223372036854775807) : Za9 rs l a <= Za9 rs l b /\ Za9 rs l b < l.length := by
 obtain ⟨x, a1, a2, _, _, a5, a6⟩ := ZeI hr hl (t := a) h0 (by omega)
 obtain ⟨y, b1, b2, _, _, b5, b6⟩ := ZeI hr hl (t := b) (by omega) h1
 refine ⟨Nat.not_lt.1 fun hh => ?_, b1⟩
 have := Zw8 rs l _ 0 r hr _ _ y x b2 a2 hh
 omega
section
variable {rs : List Zaa} {l : List DEra} {Y : Nat -> Int} (h : ZaJ rs l Y) {r : List ZaI} (hr : ZfB rs l = some r)
include h
theorem ZaJ.end_bd {k : Nat} {e : DEra} (he : l[k]? = some e) (hk : k + 1 < l.length) : -5000000000 <= endT e (ruEr rs e) /\ endT e (ruEr rs e) <= 10000000000 := by
 have hT := h.til k e he
 rw [if_pos hk] at hT
 have hy := h.yr k hk
 obtain ⟨_, h1, h2⟩ := (h.era k e he).un hT hy
 have hm : mar1 1850 <= mar1 (Y k) := Zhj hy.1
 have hm2 : mar1 (Y k) <= mar1 2148 := Zhj hy.2
 have h5 : -50000 <= mar1 1850 := by decide
 have h6 : mar1 2148 <= 70000 := by decide
 omega
include hr
omit h hr in
theorem ZiX {k : Nat} {e : DEra} (he : l[k]? = some e) {t : Int} (hk : Za9 rs l t = k) : ZaD rs l t = ZfM e (ZaZ rs e t) := by
 unfold ZaD
 rw [hk, List.getD_eq_getElem?_getD, he]
 rfl
end
theorem ZbC.st_flat {rs : List Zaa} {e : DEra} {b : Bool} (h : ZbC rs e b) (hk : e.kind ≠ 2) (t : Int) : ZaZ rs e t = (e.save, ByteArray.empty) := by
 unfold ZaZ
 rcases h with ⟨h0, h1, _⟩ | ⟨h0, _⟩ | ⟨h0, _⟩
 ·rw [if_pos h0, h1]
 ·rw [if_neg (by omega), if_pos h0]
 ·exact absurd h0 hk
theorem ZbC.st_set {rs : List Zaa} {e : DEra} (hk : e.kind = 2) (t : Int) : ZaZ rs e t = atS (ofB rs e.set) e.off t := by
 unfold ZaZ
 rw [if_neg (by omega), if_neg (by omega)]
theorem ZbC.set2 {rs : List Zaa} {e : DEra} {b : Bool} (h : ZbC rs e b) (hk : e.kind = 2) : b = false /\ (-43200 <= e.off /\ e.off <= 43200) /\ Zbl (ofB rs e.set) /\ 0 < (ofB rs e.set).length /\ (ofB rs e.set).length <= 5 := by
 rcases h with ⟨h0, _⟩ | ⟨h0, _⟩ | ⟨_, h1, _, h2, h3, _, h4, h5⟩
 ·omega
 ·omega
 ·obtain ⟨s, _, _, ⟨r, hr, _⟩, _⟩ := h4.saves
  exact ⟨h1, ⟨h2, h3⟩, h4, List.length_pos_of_mem hr, h5⟩
theorem _root_.Go.Wk.DrRule.far30 {a b : Zaa} (ha : DrRule a) (hb : DrRule b) {least i j y z : Int} {e f : Zad} (hl : -3600 <= least /\ least <= 0) (he : onR least a i y = some e) (hf : onR least b j z = some f) (hd : y = z -> Dist a b \/ Dist b a) :
  2588400 <= e.nominal - f.nominal \/ 2588400 <= f.nominal - e.nominal := by
 obtain ⟨_, _, a1, a2, a3, a4⟩ := ha.ev hl he
 obtain ⟨_, _, b1, b2, b3, b4⟩ := hb.ev hl hf
 have la := ZiY a.month
 have lb := ZiY b.month
 rcases Int.lt_trichotomy y z with h | h | h
 ·have := ZeS h
  omega
 ·subst h
  have hs : sea a.month ≠ sea b.month := by
   have af := ha.f1
   have bf := hb.f1
   rcases hd rfl with (h | h) | (h | h)
   ·have := a2 (by omega); omega
   ·exact h
   ·have := b2 (by omega); omega
   ·exact fun hh => h hh.symm
  have := ZsX ha.mon hb.mon hs
  omega
 ·have := ZeS h
  omega
section
variable {l : List Zaa} (h : Zbl l)
include h
theorem Zbl.gap {e f : Zad} (he : EvOf l e) (hf : EvOf l f) (hn : e ≠ f) : 2588400 <= e.nominal - f.nominal \/ 2588400 <= f.nominal - e.nominal := by
 obtain ⟨j, a, y, ha, h2⟩ := he
 obtain ⟨k, b, z, hb, h4⟩ := hf
 refine (h.rule a (List.mem_of_getElem? ha)).far30 (h.rule b (List.mem_of_getElem? hb)) h.least h2 h4 fun hyz => ?_
 subst hyz
 refine Zqz h.dist ha hb fun hjk => hn ?_
 subst hjk
 rw [ha] at hb
 cases hb
 exact Option.some.inj (h2.symm.trans h4)
omit h in
theorem ZgV {n : Int} {e : Zad} (he : Zb9 l n = some e) : EvOf l e /\ n < e.nominal := by
 rcases ZdQ _ _ _ l 0 none e he with h1 | ⟨j, r, h1, h2⟩
 ·cases h1
 ·obtain ⟨q, h3, h4⟩ := Zgc _ _ _ _ _ _ _ h2
  rw [Nat.zero_add] at h3
  exact ⟨⟨j, r, _, h1, h3⟩, h4⟩
theorem Zbl.afterD_full {n : Int} (h0 : -4000000000000 <= n) (h1 : n <= 4000000000000) {f : Zad} (hf : EvOf l f) (hn : n < f.nominal) : ∃ e, Zb9 l n = some e /\ e.nominal <= f.nominal := by
 obtain ⟨j, r, y, hj, hy⟩ := hf
 have hr := h.rule r (List.mem_of_getElem? hj)
 obtain ⟨b1, b2⟩ := Zkf h0 h1
 have hle := h.least.2
 obtain ⟨c1, c2⟩ := Zqj hle hy
 have hyy : Za2 n <= y + 1 := Zgo (by omega)
 have hyl := Zlz hy
 obtain ⟨_, _, hyf, _⟩ := hr.ev h.least hy
 have hf0 := hr.f0
 have key : ∃ (q : Nat) (g : Zad), q < 20 /\ onR (Zak l) r (j : Int) (max (max r.from_ (-2000000000)) (Za2 n - 2) + q) = some g /\ n < g.nominal /\ g.nominal <= f.nominal := by
  by_cases hq : y - max (max r.from_ (-2000000000)) (Za2 n - 2) < 20
  ·refine ⟨(y - max (max r.from_ (-2000000000)) (Za2 n - 2)).toNat, f, by omega, ?_, hn, Int.le_refl _⟩
   rw [show max (max r.from_ (-2000000000)) (Za2 n - 2) + ((y - max (max r.from_ (-2000000000)) (Za2 n - 2)).toNat : Int) = y by omega]
   exact hy
  ·obtain ⟨g, hg⟩ := hr.onY (Zak l) (j : Int) (y := max (max r.from_ (-2000000000)) (Za2 n - 2) + 10) (by omega) (by omega)
   refine ⟨10, g, by omega, hg, ?_, Int.le_of_lt (Zif hg hy (by omega))⟩
   refine Int.not_le.1 fun hh => ?_
   obtain ⟨d1, d2⟩ := Zqj hle hg
   have : max (max r.from_ (-2000000000)) (Za2 n - 2) + 10 <= Za2 n + 1 := Zgo (by omega)
   omega
 obtain ⟨q, g, g1, g2, g3, g4⟩ := key
 obtain ⟨e', k1, k2⟩ := Zho (Zak l) n r (j : Int) 20 _ q g g1 g2 g3
 obtain ⟨e, k3, k4⟩ := ZgU (Zak l) n (Za2 n) l 0 none j r e' hj (by rw [Nat.zero_add]; exact k1)
 exact ⟨e, k3, by omega⟩
end
theorem ZaJ.stays {rs : List Zaa} {l : List DEra} {Y : Nat -> Int} (h : ZaJ rs l Y) {k : Nat} {e : DEra} (he : l[k]? = some e) {a b : Int} (h0 : -3000000000000 <= a) (hab : a <= b) (h1 : b <= 3000000000000) (hka : Za9 rs l a = k) (hkb : Za9 rs l b = k) (hne : ZaD rs l a ≠ ZaD rs l b) :
  e.kind = 2 /\ ∃ f, EvOf (ofB rs e.set) f /\ a < Zbk (ofB rs e.set) f e.off /\ Zbk (ofB rs e.set) f e.off <= b := by
 rw [ZiX he hka, ZiX he hkb] at hne
 have hE := h.era k e he
 by_cases h2 : e.kind = 2
 ·obtain ⟨_, ho, hS, _⟩ := hE.set2 h2
  rw [ZbC.st_set h2, ZbC.st_set h2] at hne
  exact ⟨h2, hS.at_change ho h0 h1 hab fun hh => hne (by rw [hh])⟩
 ·rw [hE.st_flat h2, hE.st_flat h2] at hne
  exact absurd rfl hne
end Go.Proofs.YtpcpmndldgejiaaGreatDoor
