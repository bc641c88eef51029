/- Contracts: meaning.At, Era, First of sources that are accepted, and of others. Contracts: slices.Equal at three types. Contract: slices.Equal at numbers. Contracts: footer.Of, Year. Dates and TZ strings compare as the data do. Rules: make with a length; an index that is a number, in an own block. Lemmas for examples: sources that lie in own blocks. Contracts: the helpers of analemmalaw38, and its examples. Contracts: the reference of layer 1. Contracts: the reference of layers 2 and 6. Contract: analemmaref38.Date. Contract: analemmaref38.Date. Contracts: analemmalaw38.works, FooterDates. Equality of local times. Contracts: the helpers of analemmalaw26, and its examples. -/
import Derived.Test.YtonjepladadmhaaGreatDoorS38
import Derived.Test.YtonjepladadmhaaGreatDoorS08
import Derived.Test.YtonjepladadmhaaGreatDoorS13
import Derived.Test.YtonjepladadmhaaGreatDoorS37
import Derived.Test.YtonjepladadmhaaGreatDoorS07
import Derived.Laws.OwnMore
import Derived.Test.YtonjepladadmhaaGreatDoorS14
import Derived.Test.YtonjepladadmhaaGreatDoorS25
import Derived.Test.YtonjepladadmhaaGreatDoorS10
import Derived.Test.YtonjepladadmhaaGreatDoorS15
set_option maxHeartbeats 4000000
set_option linter.unusedVariables false
set_option linter.unusedSimpArgs false
namespace Go.Proofs.YtonjepladadmhaaGreatDoor
open Go Go.RowKit Go.Wk
attribute [local irreducible] W RL Does thenQ blockQ retQ Calls Pu Stp RD Qy Ay DoesIn
def zoneD (a : DSource) (name : ByteArray) : Int × Int := match accD a with
 | some (_, e) => (0, e)
 | none => (((followD a (a.links.length + 1) [] name).1 : Nat), (followD a (a.links.length + 1) [] name).2)
structure MnOk (a : DSource) : Prop where
 acc : accD a = none
 un : ∀ z ∈ a.zones, ∀ k e, z.eras[k]? = some e → k + 1 < z.eras.length → RsSm (ruEr a.rules e) ∧ UnOk e (ruEr a.rules e)
 ne : ∀ z ∈ a.zones, z.eras ≠ []
 sp : ∀ z ∈ a.zones, ∃ r, spAll a.rules z.eras = some r
 lc : ∀ z ∈ a.zones, ∀ e ∈ z.eras, LcOk a.rules e
 st : ∀ z ∈ a.zones, ∀ e ∈ z.eras, ∀ t, (-1000000000 ≤ (stateD a.rules e t).1 ∧ (stateD a.rules e t).1 ≤ 1000000000) ∧ (stateD a.rules e t).2.size ≤ 1000000000 ∧ abE e (stateD a.rules e t) = 0
section
variable (Ar Az Al As : Option Addr) (cr cz cl cs : Nat) (a : DSource) (name : ByteArray) (t : Int) (w : World)
theorem zone26_spec (h : AccOk w Ar Az Al As cr cz cl cs a) (hn : a.zones.length + a.links.length ≤ 1000000) :
  Does Tryz.prog 85 [srcV Ar Az Al As cr cz cl cs a, .string name] w (fun v O => v = .tuple #[.int .i64 (zoneD a name).1, .int .i64 (zoneD a name).2] ∧ O = []) := by
 unfold zoneD
 cases ha : accD a with
 | some x =>
  obtain ⟨p, e⟩ := x
  exact zone26_err Ar Az Al As cr cz cl cs a name p e w h ha
 | none => exact zone26_ok Ar Az Al As cr cz cl cs a name w h ha hn
theorem mAtFar (ht : tOk t = false) : Does Tryz.prog 34 [srcV Ar Az Al As cr cz cl cs a, .string name, .int .i64 t] w (fun v O => v = .tuple #[.agg lc0.enc.toArray, .int .i64 3] ∧ O = []) :=
 at26_err Ar Az Al As cr cz cl cs a name t 3 w (by decide) fun w' _ => find26_far Ar Az Al As cr cz cl cs a name t w' ht
theorem mEraFar (ht : tOk t = false) : Does Tryz.prog 32 [srcV Ar Az Al As cr cz cl cs a, .string name, .int .i64 t] w (fun v O => v = .tuple #[.int .i64 0, .int .i64 3] ∧ O = []) :=
 era26_any Ar Az Al As cr cz cl cs a name t ByteArray.empty none 0 0 0 3 w fun w' _ => find26_far Ar Az Al As cr cz cl cs a name t w' ht
theorem mAtNo (h : AccOk w Ar Az Al As cr cz cl cs a) (hn : a.zones.length + a.links.length ≤ 1000000) (ht : tOk t = true) (he : (zoneD a name).2 ≠ 0) :
  Does Tryz.prog 34 [srcV Ar Az Al As cr cz cl cs a, .string name, .int .i64 t] w (fun v O => v = .tuple #[.agg lc0.enc.toArray, .int .i64 (zoneD a name).2] ∧ O = []) :=
 at26_err Ar Az Al As cr cz cl cs a name t _ w he fun w' hw => find26_no Ar Az Al As cr cz cl cs a name t _ _ w' ht he fun w2 hw2 => zone26_spec Ar Az Al As cr cz cl cs a name w2 ((h.up hw).up hw2) hn
theorem mEraNo (h : AccOk w Ar Az Al As cr cz cl cs a) (hn : a.zones.length + a.links.length ≤ 1000000) (ht : tOk t = true) (he : (zoneD a name).2 ≠ 0) :
  Does Tryz.prog 32 [srcV Ar Az Al As cr cz cl cs a, .string name, .int .i64 t] w (fun v O => v = .tuple #[.int .i64 0, .int .i64 (zoneD a name).2] ∧ O = []) :=
 era26_any Ar Az Al As cr cz cl cs a name t ByteArray.empty none 0 0 0 _ w fun w' hw => find26_no Ar Az Al As cr cz cl cs a name t _ _ w' ht he fun w2 hw2 => zone26_spec Ar Az Al As cr cz cl cs a name w2 ((h.up hw).up hw2) hn
theorem mFirstNo (h : AccOk w Ar Az Al As cr cz cl cs a) (hn : a.zones.length + a.links.length ≤ 1000000) (he : (zoneD a name).2 ≠ 0) :
  Does Tryz.prog 37 [srcV Ar Az Al As cr cz cl cs a, .string name] w (fun v O => v = .tuple #[.agg lc0.enc.toArray, .int .i64 (zoneD a name).2] ∧ O = []) :=
 first26_err Ar Az Al As cr cz cl cs a name _ _ w he fun w' hw => zone26_spec Ar Az Al As cr cz cl cs a name w' (h.up hw) hn
theorem zone26_at (h : AccOk w Ar Az Al As cr cz cl cs a) (hn : a.zones.length + a.links.length ≤ 1000000) {i : Nat} (hz : zoneD a name = (((i : Nat) : Int), 0)) :
  Does Tryz.prog 85 [srcV Ar Az Al As cr cz cl cs a, .string name] w (fun v O => v = .tuple #[.int .i64 i, .int .i64 0] ∧ O = []) := by
 have := zone26_spec Ar Az Al As cr cz cl cs a name w h hn
 rwa [hz] at this
theorem mlocal_ok (h : AccOk w Ar Az Al As cr cz cl cs a) (hM : MeG w) (m : MnOk a) {z : DZone} (hz : z ∈ a.zones) {e : DEra} (he : e ∈ z.eras) (ht : -1000000000000000000 ≤ t ∧ t ≤ 1000000000000000000) :
  Does Tryz.prog 79 [srcV Ar Az Al As cr cz cl cs a, .agg e.enc.toArray, .int .i64 t] w (fun v O => v = .tuple #[.agg (localD e (stateD a.rules e t)).enc.toArray, .int .i64 0] ∧ O = []) := by
 obtain ⟨h1, h2, h3⟩ := m.st z hz e he t
 exact local26_spec Ar Az Al As cr cz cl cs a e t w h.L h.G hM h.A h.S.nr (m.lc z hz e he) ht h1 h2 h3
theorem mFind (h : AccOk w Ar Az Al As cr cz cl cs a) (hn : a.zones.length + a.links.length ≤ 1000000) (m : MnOk a) (ht : tOk t = true) {i : Nat} {z : DZone} (hz : zoneD a name = (((i : Nat) : Int), 0)) (hi : a.zones[i]? = some z) (Ae : Option Addr) (ce : Nat) (hnz : Az ≠ none) (hcz : CellsAt w ((adr Az).add (i * 2)) [.string z.name, .slice Ae z.eras.length ce]) :
  Does Tryz.prog 77 [srcV Ar Az Al As cr cz cl cs a, .string name, .int .i64 t] w (fun v O => v = .tuple #[.agg #[.string z.name, .slice Ae z.eras.length ce], .int .i64 (eraAt a.rules z.eras t), .int .i64 0] ∧ O = []) := by
 have hmem := List.mem_of_getElem? hi
 have h2 := tOk_iff.1 ht
 obtain ⟨r, hr⟩ := m.sp z hmem
 obtain ⟨x, _, _, hf, hx, _⟩ := sp_find hr (m.ne z hmem) (t := t) (by omega) (by omega)
 have := find26_ok Ar Az Al As cr cz cl cs a name t i z r x Ae ce w h ht (fun w' hw => zone26_at Ar Az Al As cr cz cl cs a name w' (h.up hw) hn hz) hi hnz hcz (m.un z hmem) hr hf
 rwa [hx] at this
theorem mAt (h : AccOk w Ar Az Al As cr cz cl cs a) (hM : MeG w) (hn : a.zones.length + a.links.length ≤ 1000000) (m : MnOk a) (ht : tOk t = true) {i : Nat} {z : DZone} (hz : zoneD a name = (((i : Nat) : Int), 0)) (hi : a.zones[i]? = some z) :
  Does Tryz.prog 34 [srcV Ar Az Al As cr cz cl cs a, .string name, .int .i64 t] w (fun v O => v = .tuple #[.agg (locAt a.rules z.eras t).enc.toArray, .int .i64 0] ∧ O = []) := by
 have hmem := List.mem_of_getElem? hi
 have h2 := tOk_iff.1 ht
 obtain ⟨hnz, cs1, ⟨Ae, ce, hEz, rfl⟩, hcz⟩ := h.A.z i _ hi
 obtain ⟨r, hr⟩ := m.sp z hmem
 obtain ⟨x, hk, _⟩ := sp_find hr (m.ne z hmem) (t := t) (by omega) (by omega)
 obtain ⟨e, he, hd⟩ := getD_of (d := dE0) hk
 unfold locAt
 rw [hd]
 exact at26_ok Ar Az Al As cr cz cl cs a name t z.name Ae ce z.eras (eraAt a.rules z.eras t) e _ w (fun w' hw => mFind Ar Az Al As cr cz cl cs a name t w' (h.up hw) hn m ht hz hi Ae ce hnz (hcz.up hw (Nat.le_refl _))) hEz he fun w' hw => mlocal_ok Ar Az Al As cr cz cl cs a t w' (h.up hw) (hM.up hw) m hmem (List.mem_of_getElem? he) (by omega)
theorem mEra (h : AccOk w Ar Az Al As cr cz cl cs a) (hn : a.zones.length + a.links.length ≤ 1000000) (m : MnOk a) (ht : tOk t = true) {i : Nat} {z : DZone} (hz : zoneD a name = (((i : Nat) : Int), 0)) (hi : a.zones[i]? = some z) :
  Does Tryz.prog 32 [srcV Ar Az Al As cr cz cl cs a, .string name, .int .i64 t] w (fun v O => v = .tuple #[.int .i64 (eraAt a.rules z.eras t), .int .i64 0] ∧ O = []) := by
 obtain ⟨hnz, cs1, ⟨Ae, ce, hEz, rfl⟩, hcz⟩ := h.A.z i _ hi
 exact era26_any Ar Az Al As cr cz cl cs a name t z.name Ae z.eras.length ce _ 0 w fun w' hw => mFind Ar Az Al As cr cz cl cs a name t w' (h.up hw) hn m ht hz hi Ae ce hnz (hcz.up hw (Nat.le_refl _))
theorem mFirst (h : AccOk w Ar Az Al As cr cz cl cs a) (hM : MeG w) (hn : a.zones.length + a.links.length ≤ 1000000) (m : MnOk a) {i : Nat} {z : DZone} (hz : zoneD a name = (((i : Nat) : Int), 0)) (hi : a.zones[i]? = some z) {e : DEra} (he : z.eras[0]? = some e) :
  Does Tryz.prog 37 [srcV Ar Az Al As cr cz cl cs a, .string name] w (fun v O => v = .tuple #[.agg (localD e (stateD a.rules e 0)).enc.toArray, .int .i64 0] ∧ O = []) := by
 have hmem := List.mem_of_getElem? hi
 obtain ⟨hnz, cs1, ⟨Ae, ce, hEz, rfl⟩, hcz⟩ := h.A.z i _ hi
 exact first26_ok Ar Az Al As cr cz cl cs a name i z Ae ce e _ w h.A (fun w' hw => zone26_at Ar Az Al As cr cz cl cs a name w' (h.up hw) hn hz) hi hnz hcz hEz he fun w' hw => mlocal_ok Ar Az Al As cr cz cl cs a 0 w' (h.up hw) (hM.up hw) m hmem (List.mem_of_getElem? he) (by decide)
end
theorem letter_sz {x : ByteArray} (h : x ∈ [ByteArray.empty, (⟨#[83]⟩ : ByteArray), ⟨#[68]⟩, ⟨#[68, 84]⟩]) : x.size ≤ 1000000000 := by
 have : ∀ x ∈ [ByteArray.empty, (⟨#[83]⟩ : ByteArray), ⟨#[68]⟩, ⟨#[68, 84]⟩], x.size ≤ 1000000000 := by decide
 exact this x h
theorem fmtU_sz {x : ByteArray} (h : x ∈ fmtU) : x.size ≤ 1000000000 := by
 have : ∀ x ∈ fmtU, x.size ≤ 1000000000 := by decide
 exact this x h
theorem mnOk_dr {a : DSource} (hacc : accD a = none) (h : ∀ z ∈ a.zones, ∃ Y, DrEras a.rules z.eras Y) : MnOk a := by
 have hd : ∀ z ∈ a.zones, ∀ e ∈ z.eras, ∃ b, DrEra a.rules e b := fun z hz e he => by
  obtain ⟨Y, hY⟩ := h z hz
  obtain ⟨k, hk⟩ := List.mem_iff_getElem?.1 he
  exact ⟨_, hY.era k e hk⟩
 refine ⟨hacc, fun z hz k e he hk => ?_, fun z hz hn => ?_, fun z hz => ?_, fun z hz e he => ?_, fun z hz e he t => ?_⟩
 ·obtain ⟨Y, hY⟩ := h z hz
  exact hY.un k e he hk
 ·obtain ⟨Y, hY⟩ := h z hz
  have := hY.len.1
  rw [hn] at this
  simp at this
 ·obtain ⟨Y, hY⟩ := h z hz
  exact hY.sp
 ·obtain ⟨b, hb⟩ := hd z hz e he
  have h0 := hb.st0.1
  dsimp only at h0
  have hk : 0 ≤ e.kind ∧ e.kind ≤ 2 := by rcases hb with ⟨h0, _⟩ | ⟨h0, _⟩ | ⟨h0, _⟩ <;> omega
  have hs : -10800 ≤ e.save ∧ e.save ≤ 10800 := by
   rcases hb with ⟨_, h0, _⟩ | ⟨_, h0, _⟩ | ⟨_, _, h0, _⟩ <;> omega
  refine ⟨hk, by omega, by omega, fun h2 => ?_, fmtU_sz hb.fmt⟩
  have := hb.rs
  unfold ruEr at this
  rwa [if_pos h2] at this
 ·obtain ⟨b, hb⟩ := hd z hz e he
  obtain ⟨h1, h2, h3⟩ := hb.state t
  exact ⟨by omega, letter_sz h3, (abbr_dr hb.fmt (hb.state t)).1⟩
end Go.Proofs.YtonjepladadmhaaGreatDoor
namespace Go.Proofs.YtonjepladadmhaaGreatDoor
open Go Go.RowKit Go.Wk
attribute [local irreducible] W RL Does thenQ blockQ retQ Calls Pu Stp RD Qy Ay
end Go.Proofs.YtonjepladadmhaaGreatDoor
namespace Go.Proofs.YtonjepladadmhaaGreatDoor
open Go Go.RowKit Go.Wk
attribute [local irreducible] W RL Does thenQ blockQ retQ Calls Pu Stp RD Qy Ay DoesIn
end Go.Proofs.YtonjepladadmhaaGreatDoor
namespace Go.Wk
open Go Go.RowKit
section
variable {P : Program} {n : Nat} {wr : World} {fr : Fr} {O : List It} {ty : TypeId}
end
end Go.Wk
namespace Go.Proofs.YtonjepladadmhaaGreatDoor
open Go Go.RowKit Go.Wk
attribute [local irreducible] W RL Does thenQ blockQ retQ Calls Pu Stp RD Qy Ay DoesIn
end Go.Proofs.YtonjepladadmhaaGreatDoor
namespace Go.Wk
open Go Go.RowKit
theorem Pu_eqEB {P : Program} {n : Nat} {wr : World} {fr : Fr} {O : List It} {ty t t' : TypeId} {α : Type} [DecidableEq α] {enc : α → List Value} {x y : Operand} {i j : α} {b : Bool} [hE : EqE P t α enc] (hx : ev fr x = some (.agg (enc i).toArray)) (hy : ev fr y = some (.agg (enc j).toArray)) (h : decide (i = j) = b) :
  Pu P n wr fr O (.binOp .eql t x y t') ty (.bool b) := h ▸ Pu_eqlE hx hy
theorem Pu_neEB {P : Program} {n : Nat} {wr : World} {fr : Fr} {O : List It} {ty t t' : TypeId} {α : Type} [DecidableEq α] {enc : α → List Value} {x y : Operand} {i j : α} {b : Bool} [hE : EqE P t α enc] (hx : ev fr x = some (.agg (enc i).toArray)) (hy : ev fr y = some (.agg (enc j).toArray)) (h : (!decide (i = j)) = b) :
  Pu P n wr fr O (.binOp .neq t x y t') ty (.bool b) := h ▸ Pu_neqE hx hy
end Go.Wk
namespace Go.Proofs.YtonjepladadmhaaGreatDoor
open Go Go.RowKit Go.Wk
instance : EqE Tryz.prog 29 DDate DDate.enc where
 h r s w := by
  unfold DDate.enc
  simp [go_sem, toList_inj]
  rcases r with ⟨_, _, _, _, _⟩
  rcases s with ⟨_, _, _, _, _⟩
  simp only [ok_ite, Result.ok.injEq, and_true]
  rw [Bool.eq_iff_iff]
  simp [and_assoc]
 g := by kernel_rfl
instance : EqE Tryz.prog 70 DPosix DPosix.enc where
 h r s w := by
  unfold DPosix.enc
  simp [go_sem, toList_inj]
  rcases r with ⟨_, _, _, _, ⟨_, _, _, _, _⟩, ⟨_, _, _, _, _⟩⟩
  rcases s with ⟨_, _, _, _, ⟨_, _, _, _, _⟩, ⟨_, _, _, _, _⟩⟩
  simp only [ok_ite, Result.ok.injEq, and_true]
  rw [Bool.eq_iff_iff]
  simp [and_assoc]
 g := by kernel_rfl
end Go.Proofs.YtonjepladadmhaaGreatDoor
namespace Go.Wk
open Go Go.RowKit
section
variable {P : Program} {n : Nat} {wr : World} {fr : Fr} {O : List It} {ty : TypeId} {pos : String} {af : Array Edge} {dst : Option Tmp} {g : Option (Nat × Bool)} {Kp : Value → List It → Prop}
theorem Pu_indexAddrK {t e sz bytes b s j : Nat} {x ix : Operand} {len cap : Nat} {kk : IntKind} {i : Int} [hE : ElemT P t e sz bytes] (hx : ev fr x = some (.slice (some ⟨b, s, none⟩) len cap)) (hi : ev fr ix = some (.int kk i))
  (h0 : 0 ≤ i) (h1 : i < len) (hj : s + i.toNat * sz = j) : Pu P n wr fr O (.indexAddr t x ix) ty (.pointer (some ⟨b, j, none⟩)) := by
 have := Pu_indexAddr (P := P) (n := n) (wr := wr) (O := O) (ty := ty) (t := t) (e := e) (sz := sz) (bytes := bytes) hx hi h0 h1 (by simp)
 have he : (adr (some ⟨b, s, none⟩)).add (i.toNat * sz) = ⟨b, j, none⟩ := by
  show (⟨b, s, none⟩ : Addr).add (i.toNat * sz) = _
  rw [add_mk, hj]
 rwa [he] at this
end
theorem RdSl.pre {α : Type} {w : World} {A : Option Addr} {c sz : Nat} {enc : α → List Value} {x y : List α} (h : RdSl w A c enc sz (x ++ y)) : RdSl w A c enc sz x :=
 ⟨by have := h.le; rw [List.length_append] at this; omega, h.cap, fun k v hv => h.rd k v (by
  have hk := (List.getElem?_eq_some_iff.1 hv).1
  rw [List.getElem?_append_left hk]; exact hv)⟩
end Go.Wk
namespace Go.Proofs.YtonjepladadmhaaGreatDoor
open Go Go.RowKit Go.Wk
def okR (r : DRule) : Bool := decide (r.name.size ≤ 1000000000) && (decide (r.letter.size ≤ 1000000000) && (decide (-9223372036854775808 ≤ r.save) && decide (r.save ≤ 9223372036854775807)))
def okI (n : Int) : Bool := decide (-9223372036854775808 ≤ n) && decide (n ≤ 9223372036854775807)
def okE (e : DEra) : Bool := okI e.off && (okI e.save && (okI e.kind && (decide (e.format.size ≤ 1000000000) && decide (e.set.size ≤ 1000000000))))
def okZ (z : DZone) : Bool := decide (z.name.size ≤ 1000000000) && (decide (z.eras.length ≤ 1000000) && z.eras.all okE)
def okL (l : DLink) : Bool := decide (l.target.size ≤ 1000000000) && decide (l.name.size ≤ 1000000000)
def okD (s : DSource) : Bool := decide (s.rules.length ≤ 1000000) && (decide (s.zones.length ≤ 1000000) && (decide (s.links.length ≤ 1000000) && (decide (s.shifts.length ≤ 1000000) && (s.rules.all okR && (s.zones.all okZ && s.links.all okL)))))
theorem okI_64 {n : Int} (h : okI n = true) : I64 n := by
 unfold okI at h
 rw [Bool.and_eq_true, decide_eq_true_eq, decide_eq_true_eq] at h
 exact h
theorem okD_ok {s : DSource} (h : okD s = true) : SrcOk s ∧ SavI s ∧ ∀ z ∈ s.zones, ∀ e ∈ z.eras, EraOk e := by
 unfold okD at h
 simp only [Bool.and_eq_true, decide_eq_true_eq, List.all_eq_true] at h
 obtain ⟨h1, h2, h3, h4, h5, h6, h7⟩ := h
 have hr : ∀ r ∈ s.rules, _ := fun r hr => by
  have := h5 r hr
  unfold okR at this
  simp only [Bool.and_eq_true, decide_eq_true_eq] at this
  exact this
 have hz : ∀ z ∈ s.zones, z.name.size ≤ 1000000000 ∧ z.eras.length ≤ 1000000 ∧ ∀ e ∈ z.eras, okE e = true := fun z hz => by
  have := h6 z hz
  unfold okZ at this
  simp only [Bool.and_eq_true, decide_eq_true_eq, List.all_eq_true] at this
  exact this
 have he : ∀ e, okE e = true → I64 e.off ∧ I64 e.save ∧ I64 e.kind ∧ e.format.size ≤ 1000000000 ∧ e.set.size ≤ 1000000000 := fun e he => by
  unfold okE at he
  simp only [Bool.and_eq_true, decide_eq_true_eq] at he
  exact ⟨okI_64 he.1, okI_64 he.2.1, okI_64 he.2.2.1, he.2.2.2⟩
 refine ⟨⟨h1, h2, h3, h4, fun r h => ⟨(hr r h).1, (hr r h).2.1⟩, fun z h => ⟨(hz z h).1, (hz z h).2.1, fun e h' => ⟨(he e ((hz z h).2.2 e h')).2.2.2.2, (he e ((hz z h).2.2 e h')).2.2.2.1⟩⟩, fun l h => ?_⟩, fun r h => ⟨(hr r h).2.2.1, (hr r h).2.2.2⟩, fun z h e h' => ?_⟩
 ·have := h7 l h
  unfold okL at this
  simp only [Bool.and_eq_true, decide_eq_true_eq] at this
  exact this
 ·have := he e ((hz z h).2.2 e h')
  exact ⟨this.1, this.2.1, this.2.2.1, this.2.2.2.1⟩
theorem accOk {w w' : World} {Ar Az Al As : Option Addr} {cr cz cl cs : Nat} {a : DSource} (hL : LibW w) (hG : Glob w) (hw : Bel w.heap.size w w') (h : okD a = true) (hA : RdSource w' Ar Az Al As cr cz cl cs a) : AccOk w' Ar Az Al As cr cz cl cs a :=
 ⟨hL.up hw, hG.up hw, hA, (okD_ok h).1, (okD_ok h).2.1, (okD_ok h).2.2⟩
theorem iEnc.len (i : Int) : (iEnc i).length = 1 := rfl
attribute [local irreducible] W RL Does thenQ blockQ retQ Calls Pu Stp RD Qy Ay DoesIn
theorem zo_rd {w : World} {Ar Ae : Option Addr} {cr ce bz : Nat} {rs : List DRule} {nm : ByteArray} {es : List DEra} (hr : RdSl w Ar cr DRule.enc 11 rs) (hz : (It.blk bz [.string nm, .slice Ae es.length ce] 51).sat w) (he : RdSl w Ae ce DEra.enc 13 es) : RdSource w Ar (some ⟨bz, 0, none⟩) none none cr 1 0 0 ⟨rs, [⟨nm, es⟩], [], []⟩ :=
 ⟨hr, Nat.le_refl 1, by decide, zones_rd (litRd (c := 1) (l := [(⟨⟨nm, es⟩, Ae, ce⟩ : ZE)]) ZE.len (Nat.le_refl 1) (by decide) hz) (fun q hq => by rw [List.mem_singleton.1 hq]; exact he), nilRd _ _ _, nilRd _ _ _⟩
def EireR (v : Value) (O : List It) : Prop := ∃ br be bz, v = .agg #[.slice (some ⟨br, 0, none⟩) 3 3, .slice (some ⟨bz, 0, none⟩) 1 1, .slice none 0 0, .slice none 0 0] ∧
 O = [.blk bz [.string dubN, .slice (some ⟨be, 0, none⟩) 2 2] 51, .blk be (w38era1.enc ++ w38era2.enc) 55, .blk br (w38one.enc ++ (w38mar.enc ++ w38oct.enc)) 27]
theorem bel_rfl (w : World) : Bel w.heap.size w w := ⟨Below.refl _ _⟩
end Go.Proofs.YtonjepladadmhaaGreatDoor
namespace Go.Proofs.YtonjepladadmhaaGreatDoor
open Go Go.RowKit Go.Wk
instance : EqE Tryz.prog 103 DLocal DLocal.enc where
 h r s w := by
  unfold DLocal.enc
  simp [go_sem, toList_inj]
  rcases r with ⟨_, _, _⟩
  rcases s with ⟨_, _, _⟩
  simp only [ok_ite, Result.ok.injEq, and_true]
  rw [Bool.eq_iff_iff]
  simp [and_assoc]
 g := by kernel_rfl
attribute [local irreducible] W RL Does thenQ blockQ retQ Calls Pu Stp RD Qy Ay DoesIn
def corkN : ByteArray := ⟨#[69, 117, 114, 111, 112, 101, 47, 67, 111, 114, 107]⟩
def dubE : List DEra := [w38era1, w38era2]
theorem eire26_name : zoneD eireS dubN = (((0 : Nat) : Int), 0) := by decide +kernel
theorem eire26_cork : (zoneD eireS corkN).2 = 9 := by decide +kernel
theorem eire26_l1 : locAt eireS.rules dubE 0 = ⟨3600, false, ⟨#[73, 83, 84]⟩⟩ := by decide +kernel
theorem eire26_l2 : locAt eireS.rules dubE (-40000000) = ⟨0, false, ⟨#[71, 77, 84]⟩⟩ := by decide +kernel
theorem eire26_l3 : locAt eireS.rules dubE 57722400 = ⟨0, true, ⟨#[71, 77, 84]⟩⟩ := by decide +kernel
theorem eire26_l4 : locAt eireS.rules dubE 57722399 = ⟨3600, false, ⟨#[73, 83, 84]⟩⟩ := by decide +kernel
theorem eire26_f : localD w38era1 (stateD eireS.rules w38era1 0) = ⟨0, false, ⟨#[71, 77, 84]⟩⟩ := by decide +kernel
theorem eire26_e : eraAt eireS.rules dubE 0 = 1 := by decide +kernel
theorem eire26_sp : (spAll eireS.rules dubE).isSome = true := by decide +kernel
theorem eire26_u : untilChk w38era1.til (Go.Wk.bsE w38era1 []) = 0 ∧ inClk (endB w38era1 []) = true := by decide +kernel
def EiSt (e : DEra) (x : Int × ByteArray) : Prop := ((-1000000000 ≤ x.1 ∧ x.1 ≤ 1000000000) ∧ x.2.size ≤ 1000000000) ∧ abE e x = 0
theorem eire26_s : EiSt w38era1 (0, ByteArray.empty) ∧ EiSt w38era2 (0, ByteArray.empty) ∧ ∀ r ∈ ofB eireS.rules w38era2.set, EiSt w38era2 (r.save, r.letter) := by
 unfold EiSt
 decide +kernel
theorem eire26_r : (∀ r ∈ ofB eireS.rules w38era2.set, (-1000000000 ≤ r.save ∧ r.save ≤ 1000000000) ∧ r.from_ ≤ 4611686018427387904 ∧ -4611686018427387904 ≤ r.to) ∧ (ofB eireS.rules w38era2.set).length ≤ 1000000 := by decide +kernel
theorem eire26_mn : MnOk eireS := by
 have hz : ∀ z ∈ eireS.zones, z.eras = dubE := fun z hz => by rw [List.mem_singleton.1 hz]; rfl
 have he : ∀ e ∈ dubE, e = w38era1 ∨ e = w38era2 := fun e he => by simpa [dubE] using he
 refine ⟨eire_acc, fun z hz1 k e hk hl => ?_, fun z hz1 => by rw [hz z hz1]; decide, fun z hz1 => ?_, fun z hz1 e he1 => ?_, fun z hz1 e he1 t => ?_⟩
 ·rw [hz z hz1] at hk hl
  have hk0 : k = 0 := by simp only [dubE, List.length_cons, List.length_nil] at hl; omega
  subst hk0
  simp only [dubE, List.getElem?_cons_zero, Option.some.injEq] at hk
  subst hk
  exact ⟨⟨by decide, (fun r hr => by cases hr), (fun r hr => by cases hr), (fun r hr => by cases hr)⟩, by decide, by decide, by decide, eire26_u.1, eire26_u.2⟩
 ·rw [hz z hz1]
  exact Option.isSome_iff_exists.1 eire26_sp
 ·rw [hz z hz1] at he1
  rcases he e he1 with rfl | rfl
  ·exact ⟨by decide, by decide, by decide, (fun h => by cases h), by decide⟩
  ·exact ⟨by decide, by decide, by decide, fun _ => ⟨eire26_r.2, fun r hr => (eire26_r.1 r hr).1, fun r hr => (eire26_r.1 r hr).2.1, fun r hr => (eire26_r.1 r hr).2.2⟩, by decide⟩
 ·rw [hz z hz1] at he1
  have hs : EiSt e (stateD eireS.rules e t) := by
   rcases he e he1 with rfl | rfl
   ·exact stateD_P (P := EiSt w38era1) eire26_s.1 (fun h => by cases h) (fun h => absurd rfl h) t
   ·exact stateD_P (P := EiSt w38era2) eire26_s.2.1 (fun h => by cases h) (fun _ _ => eire26_s.2.2) t
  exact ⟨hs.1.1, hs.1.2, hs.2⟩
section
variable (br bz : Nat) (t : Int) (w : World) (hL : LibW w) (hG : Glob w) (hM : MeG w) (hA : RdSource w (some ⟨br, 0, none⟩) (some ⟨bz, 0, none⟩) none none 3 1 0 0 eireS)
include hL hG hM hA
theorem eire26_at (ht : tOk t = true) : Does Tryz.prog 34 [srcV (some ⟨br, 0, none⟩) (some ⟨bz, 0, none⟩) none none 3 1 0 0 eireS, .string dubN, .int .i64 t] w (fun v O => v = .tuple #[.agg (locAt eireS.rules dubE t).enc.toArray, .int .i64 0] ∧ O = []) :=
 mAt _ _ _ _ _ _ _ _ eireS dubN t w (accOk hL hG (bel_rfl w) (show okD eireS = true by decide +kernel) hA) hM (by decide) eire26_mn ht (i := 0) (z := ⟨dubN, dubE⟩) eire26_name rfl
omit hM in
theorem eire26_era : Does Tryz.prog 32 [srcV (some ⟨br, 0, none⟩) (some ⟨bz, 0, none⟩) none none 3 1 0 0 eireS, .string dubN, .int .i64 0] w (fun v O => v = .tuple #[.int .i64 1, .int .i64 0] ∧ O = []) := by
 have := mEra _ _ _ _ _ _ _ _ eireS dubN 0 w (accOk hL hG (bel_rfl w) (show okD eireS = true by decide +kernel) hA) (by decide) eire26_mn (by decide) (i := 0) (z := ⟨dubN, dubE⟩) eire26_name rfl
 rwa [show eraAt eireS.rules (DZone.mk dubN dubE).eras 0 = 1 from eire26_e] at this
theorem eire26_first : Does Tryz.prog 37 [srcV (some ⟨br, 0, none⟩) (some ⟨bz, 0, none⟩) none none 3 1 0 0 eireS, .string dubN] w (fun v O => v = .tuple #[.agg #[.int .i64 0, .bool false, .string ⟨#[71, 77, 84]⟩], .int .i64 0] ∧ O = []) := by
 have := mFirst _ _ _ _ _ _ _ _ eireS dubN w (accOk hL hG (bel_rfl w) (show okD eireS = true by decide +kernel) hA) hM (by decide) eire26_mn (i := 0) (z := ⟨dubN, dubE⟩) eire26_name rfl (e := w38era1) rfl
 rwa [eire26_f] at this
omit hM in
theorem eire26_no : Does Tryz.prog 34 [srcV (some ⟨br, 0, none⟩) (some ⟨bz, 0, none⟩) none none 3 1 0 0 eireS, .string corkN, .int .i64 0] w (fun v O => v = .tuple #[.agg #[.int .i64 0, .bool false, .string ByteArray.empty], .int .i64 9] ∧ O = []) := by
 have := mAtNo _ _ _ _ _ _ _ _ eireS corkN 0 w (accOk hL hG (bel_rfl w) (show okD eireS = true by decide +kernel) hA) (by decide) (by decide) (by rw [eire26_cork]; decide)
 rwa [eire26_cork] at this
end
theorem eire26_far (br bz : Nat) (w : World) : Does Tryz.prog 34 [srcV (some ⟨br, 0, none⟩) (some ⟨bz, 0, none⟩) none none 3 1 0 0 eireS, .string dubN, .int .i64 36028797018963969] w (fun v O => v = .tuple #[.agg #[.int .i64 0, .bool false, .string ByteArray.empty], .int .i64 3] ∧ O = []) :=
 mAtFar _ _ _ _ _ _ _ _ eireS dubN 36028797018963969 w (by decide)
theorem eireRule26_spec (f t m k wk dd sec save : Int) (w : World) : Does Tryz.prog 137 [.int .i64 f, .int .i64 t, .int .i64 m, .agg #[.int .i64 k, .int .i64 wk, .int .i64 dd], .int .i64 sec, .int .i64 save] w (fun v O => v = .agg #[.string eireN, .int .i64 f, .int .i64 t, .int .i64 m, .int .i64 k, .int .i64 wk, .int .i64 dd, .int .i64 sec, .int .i64 2, .int .i64 save, .string ByteArray.empty] ∧ O = []) := by
 refine Does_of_W Tryz.func137 rfl rfl rfl rfl ?_
 repeat (first | (refine js ?_; (refine bx ?_; intro bk)) | refine walk ?_)
 exact ret_1 _ [] (.cellB rfl (by repeat' constructor) rfl rfl) .nil ⟨rfl, rfl⟩
theorem eire26_spec (w : World) : Does Tryz.prog 80 [] w EireR := by
 refine Does_of_W Tryz.func80 rfl rfl rfl rfl ?_
 repeat' (first | (refine js ?_; (first | (apply Stp_callV (f := 137) (us := []) (cs := []) (vs := [.int .i64 1971, .int .i64 1971, .int .i64 10, .agg #[.int .i64 1, .int .i64 0, .int .i64 31], .int .i64 7200, .int .i64 (-3600)]) (h := fun w' _ _ => eireRule26_spec 1971 1971 10 1 0 31 7200 (-3600) w'); rfl; rfl; rintro v O' ⟨rfl, rfl⟩) | (apply Stp_callV (f := 137) (us := []) (cs := []) (vs := [.int .i64 1972, .int .i64 1048576, .int .i64 3, .agg #[.int .i64 3, .int .i64 0, .int .i64 15], .int .i64 7200, .int .i64 0]) (h := fun w' _ _ => eireRule26_spec 1972 1048576 3 3 0 15 7200 0 w'); rfl; rfl; rintro v O' ⟨rfl, rfl⟩) | (apply Stp_callV (f := 137) (us := []) (cs := []) (vs := [.int .i64 1972, .int .i64 1048576, .int .i64 10, .agg #[.int .i64 2, .int .i64 0, .int .i64 0], .int .i64 3600, .int .i64 (-3600)]) (h := fun w' _ _ => eireRule26_spec 1972 1048576 10 2 0 0 3600 (-3600) w'); rfl; rfl; rintro v O' ⟨rfl, rfl⟩) | (refine bx ?_; intro bk))) | refine walk ?_ | (refine RD_G0w ?_; intro F; (first | (apply Stp_callV (f := 137) (us := []) (cs := []) (vs := [.int .i64 1971, .int .i64 1971, .int .i64 10, .agg #[.int .i64 1, .int .i64 0, .int .i64 31], .int .i64 7200, .int .i64 (-3600)]) (h := fun w' _ _ => eireRule26_spec 1971 1971 10 1 0 31 7200 (-3600) w'); rfl; rfl; rintro v O' ⟨rfl, rfl⟩) | (apply Stp_callV (f := 137) (us := []) (cs := []) (vs := [.int .i64 1972, .int .i64 1048576, .int .i64 3, .agg #[.int .i64 3, .int .i64 0, .int .i64 15], .int .i64 7200, .int .i64 0]) (h := fun w' _ _ => eireRule26_spec 1972 1048576 3 3 0 15 7200 0 w'); rfl; rfl; rintro v O' ⟨rfl, rfl⟩) | (apply Stp_callV (f := 137) (us := []) (cs := []) (vs := [.int .i64 1972, .int .i64 1048576, .int .i64 10, .agg #[.int .i64 2, .int .i64 0, .int .i64 0], .int .i64 3600, .int .i64 (-3600)]) (h := fun w' _ _ => eireRule26_spec 1972 1048576 10 2 0 0 3600 (-3600) w'); rfl; rfl; rintro v O' ⟨rfl, rfl⟩)); refine ⟨_, EndsA, SubO.right _ _, ?_⟩) | (refine RD_G1w (fun bk => ?_) ?_; rotate_left; intro F; (first | (apply Stp_callV (f := 137) (us := []) (cs := []) (vs := [.int .i64 1971, .int .i64 1971, .int .i64 10, .agg #[.int .i64 1, .int .i64 0, .int .i64 31], .int .i64 7200, .int .i64 (-3600)]) (h := fun w' _ _ => eireRule26_spec 1971 1971 10 1 0 31 7200 (-3600) w'); rfl; rfl; rintro v O' ⟨rfl, rfl⟩) | (apply Stp_callV (f := 137) (us := []) (cs := []) (vs := [.int .i64 1972, .int .i64 1048576, .int .i64 3, .agg #[.int .i64 3, .int .i64 0, .int .i64 15], .int .i64 7200, .int .i64 0]) (h := fun w' _ _ => eireRule26_spec 1972 1048576 3 3 0 15 7200 0 w'); rfl; rfl; rintro v O' ⟨rfl, rfl⟩) | (apply Stp_callV (f := 137) (us := []) (cs := []) (vs := [.int .i64 1972, .int .i64 1048576, .int .i64 10, .agg #[.int .i64 2, .int .i64 0, .int .i64 0], .int .i64 3600, .int .i64 (-3600)]) (h := fun w' _ _ => eireRule26_spec 1972 1048576 10 2 0 0 3600 (-3600) w'); rfl; rfl; rintro v O' ⟨rfl, rfl⟩)); refine ⟨_, EndsA, SubO.right _ _, ?_⟩) | (refine RD_G2w (fun bk => ?_) (fun bk => ?_) ?_; rotate_left 2; intro F; (first | (apply Stp_callV (f := 137) (us := []) (cs := []) (vs := [.int .i64 1971, .int .i64 1971, .int .i64 10, .agg #[.int .i64 1, .int .i64 0, .int .i64 31], .int .i64 7200, .int .i64 (-3600)]) (h := fun w' _ _ => eireRule26_spec 1971 1971 10 1 0 31 7200 (-3600) w'); rfl; rfl; rintro v O' ⟨rfl, rfl⟩) | (apply Stp_callV (f := 137) (us := []) (cs := []) (vs := [.int .i64 1972, .int .i64 1048576, .int .i64 3, .agg #[.int .i64 3, .int .i64 0, .int .i64 15], .int .i64 7200, .int .i64 0]) (h := fun w' _ _ => eireRule26_spec 1972 1048576 3 3 0 15 7200 0 w'); rfl; rfl; rintro v O' ⟨rfl, rfl⟩) | (apply Stp_callV (f := 137) (us := []) (cs := []) (vs := [.int .i64 1972, .int .i64 1048576, .int .i64 10, .agg #[.int .i64 2, .int .i64 0, .int .i64 0], .int .i64 3600, .int .i64 (-3600)]) (h := fun w' _ _ => eireRule26_spec 1972 1048576 10 2 0 0 3600 (-3600) w'); rfl; rfl; rintro v O' ⟨rfl, rfl⟩)); refine ⟨_, EndsA, SubO.right _ _, ?_⟩) | (refine RD_Lw ?_; intro F; (first | (apply Stp_callV (f := 137) (us := []) (cs := []) (vs := [.int .i64 1971, .int .i64 1971, .int .i64 10, .agg #[.int .i64 1, .int .i64 0, .int .i64 31], .int .i64 7200, .int .i64 (-3600)]) (h := fun w' _ _ => eireRule26_spec 1971 1971 10 1 0 31 7200 (-3600) w'); rfl; rfl; rintro v O' ⟨rfl, rfl⟩) | (apply Stp_callV (f := 137) (us := []) (cs := []) (vs := [.int .i64 1972, .int .i64 1048576, .int .i64 3, .agg #[.int .i64 3, .int .i64 0, .int .i64 15], .int .i64 7200, .int .i64 0]) (h := fun w' _ _ => eireRule26_spec 1972 1048576 3 3 0 15 7200 0 w'); rfl; rfl; rintro v O' ⟨rfl, rfl⟩) | (apply Stp_callV (f := 137) (us := []) (cs := []) (vs := [.int .i64 1972, .int .i64 1048576, .int .i64 10, .agg #[.int .i64 2, .int .i64 0, .int .i64 0], .int .i64 3600, .int .i64 (-3600)]) (h := fun w' _ _ => eireRule26_spec 1972 1048576 10 2 0 0 3600 (-3600) w'); rfl; rfl; rintro v O' ⟨rfl, rfl⟩) | (refine bx ?_; intro bk) | (refine stA ?_) | (apply Stp_pu; exact PuA)); refine ⟨_, EndsA, QFA, ?_⟩) | (refine RD_K1w (fun bk => ?_) ?_; rotate_left; intro F; (first | (apply Stp_callV (f := 137) (us := []) (cs := []) (vs := [.int .i64 1971, .int .i64 1971, .int .i64 10, .agg #[.int .i64 1, .int .i64 0, .int .i64 31], .int .i64 7200, .int .i64 (-3600)]) (h := fun w' _ _ => eireRule26_spec 1971 1971 10 1 0 31 7200 (-3600) w'); rfl; rfl; rintro v O' ⟨rfl, rfl⟩) | (apply Stp_callV (f := 137) (us := []) (cs := []) (vs := [.int .i64 1972, .int .i64 1048576, .int .i64 3, .agg #[.int .i64 3, .int .i64 0, .int .i64 15], .int .i64 7200, .int .i64 0]) (h := fun w' _ _ => eireRule26_spec 1972 1048576 3 3 0 15 7200 0 w'); rfl; rfl; rintro v O' ⟨rfl, rfl⟩) | (apply Stp_callV (f := 137) (us := []) (cs := []) (vs := [.int .i64 1972, .int .i64 1048576, .int .i64 10, .agg #[.int .i64 2, .int .i64 0, .int .i64 0], .int .i64 3600, .int .i64 (-3600)]) (h := fun w' _ _ => eireRule26_spec 1972 1048576 10 2 0 0 3600 (-3600) w'); rfl; rfl; rintro v O' ⟨rfl, rfl⟩) | (refine bx ?_; intro bk) | (refine stA ?_) | (apply Stp_pu; exact PuA)); refine ⟨_, EndsA, QFA, ?_⟩) | (refine RD_K2w (fun bk => ?_) (fun bk => ?_) ?_; rotate_left 2; intro F; (first | (apply Stp_callV (f := 137) (us := []) (cs := []) (vs := [.int .i64 1971, .int .i64 1971, .int .i64 10, .agg #[.int .i64 1, .int .i64 0, .int .i64 31], .int .i64 7200, .int .i64 (-3600)]) (h := fun w' _ _ => eireRule26_spec 1971 1971 10 1 0 31 7200 (-3600) w'); rfl; rfl; rintro v O' ⟨rfl, rfl⟩) | (apply Stp_callV (f := 137) (us := []) (cs := []) (vs := [.int .i64 1972, .int .i64 1048576, .int .i64 3, .agg #[.int .i64 3, .int .i64 0, .int .i64 15], .int .i64 7200, .int .i64 0]) (h := fun w' _ _ => eireRule26_spec 1972 1048576 3 3 0 15 7200 0 w'); rfl; rfl; rintro v O' ⟨rfl, rfl⟩) | (apply Stp_callV (f := 137) (us := []) (cs := []) (vs := [.int .i64 1972, .int .i64 1048576, .int .i64 10, .agg #[.int .i64 2, .int .i64 0, .int .i64 0], .int .i64 3600, .int .i64 (-3600)]) (h := fun w' _ _ => eireRule26_spec 1972 1048576 10 2 0 0 3600 (-3600) w'); rfl; rfl; rintro v O' ⟨rfl, rfl⟩) | (refine bx ?_; intro bk) | (refine stA ?_) | (apply Stp_pu; exact PuA)); refine ⟨_, EndsA, QFA, ?_⟩) | (apply RD_W; rfl; intro bk) | (refine RD_J2 rfl rfl rfl (fun bk => ?_) (fun bk => ?_)) | (refine W_cond rfl (fun hc => ?_) (fun hc => ?_)))
 all_goals exact ret_1 _ [.blk _ [.string dubN, .slice (some ⟨_, 0, none⟩) 2 2] 51, .blk _ (w38era1.enc ++ w38era2.enc) 55, .blk _ (w38one.enc ++ (w38mar.enc ++ w38oct.enc)) 27] (.cellB rfl (by repeat' constructor) rfl rfl) SOA ⟨_, _, _, rfl, rfl⟩
theorem is26_spec (t off : Int) (dst : Bool) (abbr : ByteArray) (w : World) (hL : LibW w) (hG : Glob w) (hM : MeG w) (ht : tOk t = true) (hl : locAt eireS.rules dubE t = ⟨off, dst, abbr⟩) : Does Tryz.prog 81 [.int .i64 t, .int .i64 off, .bool dst, .string abbr] w (fun v O => v = .bool true ∧ O = []) := by
 have ha := fun (br bz : Nat) w' (hw : Bel w.heap.size w w') hA => eire26_at br bz t w' (hL.up hw) (hG.up hw) (hM.up hw) hA ht
 rw [hl] at ha
 simp only [DLocal.enc] at ha
 refine Does_of_W Tryz.func81 rfl rfl rfl rfl ?_
 repeat (first | (apply RL_pu; rfl; (first | (apply Pu_eqEB (i := (⟨off, dst, abbr⟩ : DLocal)) (j := ⟨off, dst, abbr⟩) (enc := DLocal.enc); rfl; rfl; exact decide_eq_true rfl) | (apply Pu_eqlB; rfl; rfl; exact decide_eq_true rfl))) | (refine js ?_; (first | (apply Stp_call (h := fun w' _ _ => eire26_spec w'); rfl; rintro v O' ⟨br, be, bz, rfl, rfl⟩) | (refine callO (fun w' hw hO => ha br bz w' hw (zo_rd (litRd (l := [w38one, w38mar, w38oct]) DRule.len (Nat.le_refl 3) (by decide) (hO.of (A := .blk br _ _) (by repeat' constructor))) (hO.of (A := .blk bz _ _) (by repeat' constructor)) (litRd (l := [w38era1, w38era2]) DEra.len (Nat.le_refl 2) (by decide) (hO.of (A := .blk be _ _) (by repeat' constructor))))) ?_) | (refine bx ?_; intro bk))) | refine walk1 ?_)
 exact rtA
set_option maxHeartbeats 4000000 in
theorem works26_spec (w : World) (hL : LibW w) (hG : Glob w) (hM : MeG w) : Does Tryz.prog 35 [] w (fun v O => v = .bool true ∧ O = []) := by
 have he := fun (br bz : Nat) w' (hw : Bel w.heap.size w w') hA => eire26_era br bz w' (hL.up hw) (hG.up hw) hA
 have hf := fun (br bz : Nat) w' (hw : Bel w.heap.size w w') hA => eire26_first br bz w' (hL.up hw) (hG.up hw) (hM.up hw) hA
 have hn := fun (br bz : Nat) w' (hw : Bel w.heap.size w w') hA => eire26_no br bz w' (hL.up hw) (hG.up hw) hA
 have i1 := fun w' (hw : Bel w.heap.size w w') => is26_spec 0 _ _ _ w' (hL.up hw) (hG.up hw) (hM.up hw) (by decide) eire26_l1
 have i2 := fun w' (hw : Bel w.heap.size w w') => is26_spec (-40000000) _ _ _ w' (hL.up hw) (hG.up hw) (hM.up hw) (by decide) eire26_l2
 have i3 := fun w' (hw : Bel w.heap.size w w') => is26_spec 57722400 _ _ _ w' (hL.up hw) (hG.up hw) (hM.up hw) (by decide) eire26_l3
 have i4 := fun w' (hw : Bel w.heap.size w w') => is26_spec 57722399 _ _ _ w' (hL.up hw) (hG.up hw) (hM.up hw) (by decide) eire26_l4
 refine Does_of_W Tryz.func35 rfl rfl rfl rfl ?_
 repeat (first | refine und ?_ | (apply RL_pu; rfl; (first | (apply Pu_eqEB (i := (⟨0, false, ⟨#[71, 77, 84]⟩⟩ : DLocal)) (j := ⟨0, false, ⟨#[71, 77, 84]⟩⟩) (enc := DLocal.enc); rfl; rfl; exact decide_eq_true rfl) | (apply Pu_eqlB; rfl; rfl; exact decide_eq_true rfl))) | (refine js ?_; (first | (apply Stp_call (h := fun w' _ _ => eire26_spec w'); rfl; rintro v O' ⟨br, be, bz, rfl, rfl⟩) | (refine callO (fun w' hw hO => he br bz w' hw (zo_rd (litRd (l := [w38one, w38mar, w38oct]) DRule.len (Nat.le_refl 3) (by decide) (hO.of (A := .blk br _ _) (by repeat' constructor))) (hO.of (A := .blk bz _ _) (by repeat' constructor)) (litRd (l := [w38era1, w38era2]) DEra.len (Nat.le_refl 2) (by decide) (hO.of (A := .blk be _ _) (by repeat' constructor))))) ?_) | (refine callO (fun w' hw hO => hf br bz w' hw (zo_rd (litRd (l := [w38one, w38mar, w38oct]) DRule.len (Nat.le_refl 3) (by decide) (hO.of (A := .blk br _ _) (by repeat' constructor))) (hO.of (A := .blk bz _ _) (by repeat' constructor)) (litRd (l := [w38era1, w38era2]) DEra.len (Nat.le_refl 2) (by decide) (hO.of (A := .blk be _ _) (by repeat' constructor))))) ?_) | (refine callO (fun w' hw hO => hn br bz w' hw (zo_rd (litRd (l := [w38one, w38mar, w38oct]) DRule.len (Nat.le_refl 3) (by decide) (hO.of (A := .blk br _ _) (by repeat' constructor))) (hO.of (A := .blk bz _ _) (by repeat' constructor)) (litRd (l := [w38era1, w38era2]) DEra.len (Nat.le_refl 2) (by decide) (hO.of (A := .blk be _ _) (by repeat' constructor))))) ?_) | (refine callO (fun w' hw hO => eire26_far br bz w') ?_) | (refine callO (fun w' hw hO => i1 w' hw) ?_) | (refine callO (fun w' hw hO => i2 w' hw) ?_) | (refine callO (fun w' hw hO => i3 w' hw) ?_) | (refine callO (fun w' hw hO => i4 w' hw) ?_) | (refine bx ?_; intro bk))) | refine walk1 ?_)
 exact rtA
theorem pick26_spec (k n : Int) (hk : 0 ≤ k ∧ k ≤ 255) (hn : 0 ≤ n) (w : World) : Does Tryz.prog 30 [.int .u8 k, .int .i64 n] w (fun v O => v = .int .i64 (k % max n 1) ∧ O = []) := by
 refine Does_of_W Tryz.func30 rfl rfl rfl rfl ?_
 have h1 : (if n < 1 then 1 else n) = max n 1 := by omega
 repeat (first | (apply RL_pu; rfl; (apply Pu_maxK; rfl; rfl; exact h1)) | refine walk1 ?_)
 exact rtA
end Go.Proofs.YtonjepladadmhaaGreatDoor
