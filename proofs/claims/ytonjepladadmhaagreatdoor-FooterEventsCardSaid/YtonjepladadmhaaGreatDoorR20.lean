/- Arguments opened: Go values of the struct types as plain data; printed by genopen.py, my own program. Contracts: strconv.Itoa of digits; analemmalaw23: format, until, Era.made. Contract: analemmalaw23.Era: made. The source of a draft of layer 23, as plain functions. Plain law: drafts of layer 23 are accepted: no fault of any kind. Contracts: links.zones, targets, follow; maps.Clone. Engine: a range over a function: rounds, yields. -/
import Derived.Test.YtonjepladadmhaaGreatDoorR05
import Derived.Test.YtonjepladadmhaaGreatDoorR07
import Derived.Test.YtonjepladadmhaaGreatDoorR19
import Derived.Laws.Strings2
import Derived.Test.YtonjepladadmhaaGreatDoorR17
import Derived.Test.YtonjepladadmhaaGreatDoorR14
import Derived.Test.YtonjepladadmhaaGreatDoorR09
import Derived.Test.YtonjepladadmhaaGreatDoorR18
import Derived.RangeFuncIn
import Derived.RangeFuncLeaves
import Derived.RangeFuncRecord
import Derived.RangeFuncSeq
import Derived.TacticsIn
import Derived.ControlIn
import Derived.RangeFuncCalls
set_option maxHeartbeats 4000000
set_option linter.unusedVariables false
set_option linter.unusedSimpArgs false
namespace Go.Proofs.YtonjepladadmhaaGreatDoor
open Go Go.RowKit Go.Wk Go.ChangeShapes Go.WideShapes Go.ChangeAt
structure _root_.Go.Wk.E23 where
 mk ::
 kind : Int
 set : Int
 format : Int
 years : Int
 day : Int
 base : Int
 off : Int
 at_ : Int
 deriving DecidableEq
def _root_.Go.Wk.E23.enc (d : E23) : List Value := [.int .u8 d.kind, .int .u8 d.set, .int .u8 d.format, .int .u8 d.years, .int .u8 d.day, .int .u8 d.base, .int .i8 d.off, .int .i8 d.at_]
section
variable {H : Type} {enc : TypeId × Value → H} {w : World} {sp : Nat → Bool} {held : Bool}
def _root_.Go.Wk.DDay.ok (d : DDay) : Prop := inR .i64 d.kind ∧ inR .i64 d.week ∧ inR .i64 d.day
def _root_.Go.Wk.DClock.ok (d : DClock) : Prop := inR .i64 d.sec ∧ inR .i64 d.base
def _root_.Go.Wk.DRule.ok (d : DRule) : Prop := d.name.size ≤ maxLen ∧ inR .i64 d.from_ ∧ inR .i64 d.to ∧ inR .i64 d.month ∧ DDay.ok d.day ∧ DClock.ok d.at_ ∧ inR .i64 d.save ∧ d.letter.size ≤ maxLen
def _root_.Go.Wk.DUntil.ok (d : DUntil) : Prop := inR .i64 d.year ∧ inR .i64 d.month ∧ DDay.ok d.day ∧ DClock.ok d.at_
def _root_.Go.Wk.DEra.ok (d : DEra) : Prop := inR .i64 d.off ∧ inR .i64 d.kind ∧ inR .i64 d.save ∧ d.set.size ≤ maxLen ∧ d.format.size ≤ maxLen ∧ DUntil.ok d.til
def _root_.Go.Wk.DLink.ok (d : DLink) : Prop := d.target.size ≤ maxLen ∧ d.name.size ≤ maxLen
def _root_.Go.Wk.E23.ok (d : E23) : Prop := inR .u8 d.kind ∧ inR .u8 d.set ∧ inR .u8 d.format ∧ inR .u8 d.years ∧ inR .u8 d.day ∧ inR .u8 d.base ∧ inR .i8 d.off ∧ inR .i8 d.at_
end
end Go.Proofs.YtonjepladadmhaaGreatDoor
namespace Go.Wk
open Go Go.RowKit
section
variable {P : Program} {n : Nat} {wr : World} {fr : Fr} {O : List It} {ty : TypeId}
end
end Go.Wk
namespace Go.Proofs.YtonjepladadmhaaGreatDoor
open Go Go.RowKit Go.Wk
attribute [local irreducible] W RL Does thenQ blockQ retQ Calls Pu Stp RD Qy Ay DoesIn
def digits : ByteArray := ⟨#[48, 49, 50, 51, 52, 53, 54, 55, 56, 57, 97, 98, 99, 100, 101, 102, 103, 104, 105, 106, 107, 108, 109, 110, 111, 112, 113, 114, 115, 116, 117, 118, 119, 120, 121, 122]⟩
end Go.Proofs.YtonjepladadmhaaGreatDoor
namespace Go.Proofs.YtonjepladadmhaaGreatDoor
open Go Go.RowKit Go.Wk
attribute [local irreducible] W RL Does thenQ blockQ retQ Calls Pu Stp RD Qy Ay DoesIn
end Go.Proofs.YtonjepladadmhaaGreatDoor
namespace Go.Wk
open Go Go.RowKit
theorem RdSl.take {α : Type} {w : World} {A : Option Addr} {c : Nat} {enc : α → List Value} {sz : Nat} {xs : List α} (h : RdSl w A c enc sz xs) (k : Nat) : RdSl w A c enc sz (xs.take k) :=
 ⟨by rw [List.length_take]; exact Nat.le_trans (Nat.min_le_right _ _) h.le, h.cap, fun j x hj => h.rd j x (by
  rw [List.getElem?_take] at hj
  split at hj
  ·exact hj
  ·cases hj)⟩
theorem E23.len (x : E23) : x.enc.length = 8 := rfl
end Go.Wk
namespace Go.Proofs.YtonjepladadmhaaGreatDoor
open Go Go.RowKit Go.Wk
structure DD23 where
 sets : List (List Int)
 zones : List (List E23)
 links : List Int
structure RdLL {α : Type} (w : World) (A : Option Addr) (c : Nat) (enc : α → List Value) (sz : Nat) (ll : List (List α)) : Prop where
 le : ll.length ≤ c
 cap : c ≤ maxLen
 rd : ∀ k l, ll[k]? = some l → A ≠ none ∧ ∃ B cb, RdSl w B cb enc sz l ∧ CellsAt w ((adr A).add (k * 1)) [.slice B l.length cb]
theorem RdLL.up {α : Type} {w w' : World} {A : Option Addr} {c : Nat} {enc : α → List Value} {sz : Nat} {ll : List (List α)} (h : RdLL w A c enc sz ll) (hb : Bel w.heap.size w w') : RdLL w' A c enc sz ll :=
 ⟨h.le, h.cap, fun k l hk => by
  obtain ⟨h1, B, cb, h2, h3⟩ := h.rd k l hk
  exact ⟨h1, B, cb, h2.up hb, h3.up hb (Nat.le_refl _)⟩⟩
theorem RdLL.take {α : Type} {w : World} {A : Option Addr} {c : Nat} {enc : α → List Value} {sz : Nat} {ll : List (List α)} (h : RdLL w A c enc sz ll) (k : Nat) : RdLL w A c enc sz (ll.take k) :=
 ⟨by rw [List.length_take]; exact Nat.le_trans (Nat.min_le_right _ _) h.le, h.cap, fun j x hj => h.rd j x (by
  rw [List.getElem?_take] at hj
  split at hj
  ·exact hj
  ·cases hj)⟩
def DD23.ns (d : DD23) : Nat := max 1 (min d.sets.length 3)
attribute [local irreducible] W RL Does thenQ blockQ retQ Calls Pu Stp RD Qy Ay DoesIn
theorem firstZ_snoc (x : ByteArray) (z : DZone) : ∀ (l : List DZone) (k : Nat), firstZ x (l ++ [z]) k = (firstZ x l k).or (if z.name = x then some (k + l.length) else none)
 | [], k => by simp [firstZ]
 | y :: l, k => by
  simp only [List.cons_append, firstZ, firstZ_snoc x z l]
  split
  ·rfl
  ·rw [List.length_cons, show k + 1 + l.length = k + (l.length + 1) by omega]
theorem firstL_snoc (x : ByteArray) (z : DLink) : ∀ (l : List DLink) (k : Nat), firstL x (l ++ [z]) k = (firstL x l k).or (if z.name = x then some (k + l.length) else none)
 | [], k => by simp [firstL]
 | y :: l, k => by
  simp only [List.cons_append, firstL, firstL_snoc x z l]
  split
  ·rfl
  ·rw [List.length_cons, show k + 1 + l.length = k + (l.length + 1) by omega]
theorem firstL_lt (x : ByteArray) : ∀ (l : List DLink) (k i : Nat), firstL x l k = some i → k ≤ i ∧ i < k + l.length
 | [], _, _, h => by cases h
 | z :: l, k, i, h => by
  simp only [firstL] at h
  split at h
  ·simp only [Option.some.injEq] at h; subst h; simp
  ·have := firstL_lt x l (k + 1) i h; simp only [List.length_cons]; omega
theorem firstZ_mem {z : DZone} : ∀ {l : List DZone} (k : Nat), z ∈ l → ∃ j, firstZ z.name l k = some j
 | y :: l, k, h => by
  simp only [firstZ]
  split
  ·exact ⟨_, rfl⟩
  ·rename_i hn
   rcases List.mem_cons.1 h with rfl | h
   ·exact absurd rfl hn
   ·exact firstZ_mem (k + 1) h
theorem firstL_mem {z : DLink} : ∀ {l : List DLink} (k : Nat), z ∈ l → ∃ j, firstL z.name l k = some j
 | y :: l, k, h => by
  simp only [firstL]
  split
  ·exact ⟨_, rfl⟩
  ·rename_i hn
   rcases List.mem_cons.1 h with rfl | h
   ·exact absurd rfl hn
   ·exact firstL_mem (k + 1) h
def IxM (m : List (ByteArray × Value)) (f : ByteArray → Option Nat) : Prop := ∀ x, mget m x = (f x).map fun i : Nat => Value.int .i64 (i : Int)
theorem IxM.some {m : List (ByteArray × Value)} {f : ByteArray → Option Nat} (h : IxM m f) {x : ByteArray} {i : Nat} (hf : f x = some i) : (mget m x).getD (.int .i64 0) = .int .i64 i ∧ (mget m x).isSome = true := by
 rw [h x, hf]; exact ⟨rfl, rfl⟩
theorem IxM.none {m : List (ByteArray × Value)} {f : ByteArray → Option Nat} (h : IxM m f) {x : ByteArray} (hf : f x = none) : (mget m x).getD (.int .i64 0) = .int .i64 0 ∧ (mget m x).isSome = false := by
 rw [h x, hf]; exact ⟨rfl, rfl⟩
theorem IxM.set {m : List (ByteArray × Value)} {f f' : ByteArray → Option Nat} (h : IxM m f) {k : ByteArray} {i : Nat} (hf : ∀ x, f' x = if x = k then Option.some i else f x) : IxM (mset m k (.int .i64 i)) f' := fun x => by
 rw [mget_mset, hf x]
 split
 ·rfl
 ·exact h x
def NewIx (f : ByteArray → Option Nat) (N : Nat) (v : Value) (O : List It) : Prop := ∃ b m, v = .map (some b) ∧ O = [.mp b m] ∧ IxM m f ∧ Nd m ∧ m.length ≤ N
structure LG where
 k : Nat
 mp : List (ByteArray × Value)
theorem PuLnk0 {G : Prop} (h : G := by (first | exact PuI | (apply Pu_lookupOkC; rfl; rfl; (focus repeat' constructor); exact hv0; exact hc0))) : G := h
theorem lzones_spec (Ar Az Al As : Option Addr) (cr cz cl cs : Nat) (a : DSource) (w : World) (hA : RdSource w Ar Az Al As cr cz cl cs a) (hn : a.zones.length ≤ 1000000) :
  Does Tryz.prog 86 [srcV Ar Az Al As cr cz cl cs a] w (NewIx (fun x => firstZ x a.zones 0) a.zones.length) := by
 refine Does_of_W Tryz.func86 rfl rfl rfl rfl ?_
 repeat (first | (refine js ?_; (first | (apply Stp_makeMapN; rfl; intro bk) | (refine bx ?_; intro bk))) | refine walk ?_)
 refine W_loopF [(3, .map (some bk)), (13, .slice Az a.zones.length cz), (14, .int .i64 a.zones.length)] [] (fun g : LG => [(15, .int .i64 g.k)]) (fun g => [.mp bk g.mp]) (fun g => g.k ≤ a.zones.length ∧ IxM g.mp (fun x => firstZ x (a.zones.take g.k) 0) ∧ Nd g.mp ∧ g.mp.length ≤ g.k) (fun g => a.zones.length - g.k) ⟨0, []⟩ SFA SOA ⟨Nat.zero_le _, fun x => rfl, List.nodup_nil, Nat.le_refl _⟩ ?_
 obtain ⟨bm, hbm⟩ : ∃ bm, bk = bm := ⟨_, rfl⟩
 rw [hbm]
 clear hbm bk
 rintro ⟨k, mp⟩ ⟨hk, hm, hd, hl⟩
 dsimp only at hk hm hd hl ⊢
 repeat (first | (refine js ?_; (refine bx ?_; intro bk)) | refine walk ?_)
 refine W_cond rfl (fun hc => ?_) (fun hc => ?_)
 ·simp only [decide_eq_true_eq, Int.ofNat_lt] at hc
  obtain ⟨hna, cs1, ⟨Ae, ce, _, rfl⟩, hca⟩ := hA.z k _ (List.getElem?_eq_getElem hc)
  have ht := List.take_append_getElem hc
  have hlen : (a.zones.take k).length = k := by rw [List.length_take]; omega
  generalize a.zones[k] = z at *
  have hsn := fun x => firstZ_snoc x z (a.zones.take k) 0
  rw [ht, hlen] at hsn
  cases hf : firstZ z.name (a.zones.take k) 0 with
  | none =>
   obtain ⟨hv0, hc0⟩ := hm.none hf
   repeat (first | (apply RL_pu; rfl; exact PuLnk0) | (refine js ?_; (refine bx ?_; intro bk)) | refine walk1 ?_)
   refine ⟨⟨k + 1, mset mp z.name (.int .i64 k)⟩, OA, ⟨OA, hm.set (k := z.name) (i := k) (fun x => ?_), hd.set _ _, ?_⟩, SFA, SOA⟩
   ·dsimp only
    rw [hsn x]
    by_cases e : x = z.name
    ·subst e; simp [hf]
    ·rw [if_neg e, if_neg (fun h => e h.symm), Option.or_none]
   ·have := mset_len z.name (.int .i64 (k : Int)) mp
    dsimp only
    omega
  | some j =>
   obtain ⟨hv0, hc0⟩ := hm.some hf
   repeat (first | (apply RL_pu; rfl; exact PuLnk0) | (refine js ?_; (refine bx ?_; intro bk)) | refine walk1 ?_)
   refine ⟨⟨k + 1, mp⟩, OA, ⟨OA, fun x => ?_, hd, OA⟩, SFA, SOA⟩
   dsimp only
   rw [hm x, hsn x]
   dsimp only
   by_cases e : z.name = x
   ·subst e; rw [hf]; rfl
   ·rw [if_neg e, Option.or_none]
 ·simp only [decide_eq_false_iff_not, Int.ofNat_lt] at hc
  rw [List.take_of_length_le (by omega)] at hm
  repeat (first | (refine js ?_; (refine bx ?_; intro bk)) | refine walk ?_)
  exact ret_1 _ [.mp bm mp] (.tmp rfl) SOA ⟨bm, mp, rfl, rfl, hm, hd, by omega⟩
theorem ltargets_spec (Ar Az Al As : Option Addr) (cr cz cl cs : Nat) (a : DSource) (w : World) (hA : RdSource w Ar Az Al As cr cz cl cs a) (hn : a.links.length ≤ 1000000) :
  Does Tryz.prog 88 [srcV Ar Az Al As cr cz cl cs a] w (NewIx (fun x => firstL x a.links 0) a.links.length) := by
 refine Does_of_W Tryz.func88 rfl rfl rfl rfl ?_
 repeat (first | (refine js ?_; (first | (apply Stp_makeMapN; rfl; intro bk) | (refine bx ?_; intro bk))) | refine walk ?_)
 refine W_loopF [(3, .map (some bk)), (13, .slice Al a.links.length cl), (14, .int .i64 a.links.length)] [] (fun g : LG => [(15, .int .i64 g.k)]) (fun g => [.mp bk g.mp]) (fun g => g.k ≤ a.links.length ∧ IxM g.mp (fun x => firstL x (a.links.take g.k) 0) ∧ Nd g.mp ∧ g.mp.length ≤ g.k) (fun g => a.links.length - g.k) ⟨0, []⟩ SFA SOA ⟨Nat.zero_le _, fun x => rfl, List.nodup_nil, Nat.le_refl _⟩ ?_
 obtain ⟨bm, hbm⟩ : ∃ bm, bk = bm := ⟨_, rfl⟩
 rw [hbm]
 clear hbm bk
 rintro ⟨k, mp⟩ ⟨hk, hm, hd, hl⟩
 dsimp only at hk hm hd hl ⊢
 repeat (first | (refine js ?_; (refine bx ?_; intro bk)) | refine walk ?_)
 refine W_cond rfl (fun hc => ?_) (fun hc => ?_)
 ·simp only [decide_eq_true_eq, Int.ofNat_lt] at hc
  obtain ⟨hna, hca⟩ := hA.l.rd k _ (List.getElem?_eq_getElem hc)
  have ht := List.take_append_getElem hc
  have hlen : (a.links.take k).length = k := by rw [List.length_take]; omega
  generalize a.links[k] = z at *
  have hsn := fun x => firstL_snoc x z (a.links.take k) 0
  rw [ht, hlen] at hsn
  cases hf : firstL z.name (a.links.take k) 0 with
  | none =>
   obtain ⟨hv0, hc0⟩ := hm.none hf
   repeat (first | (apply RL_pu; rfl; exact PuLnk0) | (refine js ?_; (refine bx ?_; intro bk)) | refine walk1 ?_)
   refine ⟨⟨k + 1, mset mp z.name (.int .i64 k)⟩, OA, ⟨OA, hm.set (k := z.name) (i := k) (fun x => ?_), hd.set _ _, ?_⟩, SFA, SOA⟩
   ·dsimp only
    rw [hsn x]
    by_cases e : x = z.name
    ·subst e; simp [hf]
    ·rw [if_neg e, if_neg (fun h => e h.symm), Option.or_none]
   ·have := mset_len z.name (.int .i64 (k : Int)) mp
    dsimp only
    omega
  | some j =>
   obtain ⟨hv0, hc0⟩ := hm.some hf
   repeat (first | (apply RL_pu; rfl; exact PuLnk0) | (refine js ?_; (refine bx ?_; intro bk)) | refine walk1 ?_)
   refine ⟨⟨k + 1, mp⟩, OA, ⟨OA, fun x => ?_, hd, OA⟩, SFA, SOA⟩
   dsimp only
   rw [hm x, hsn x]
   dsimp only
   by_cases e : z.name = x
   ·subst e; rw [hf]; rfl
   ·rw [if_neg e, Option.or_none]
 ·simp only [decide_eq_false_iff_not, Int.ofNat_lt] at hc
  rw [List.take_of_length_le (by omega)] at hm
  repeat (first | (refine js ?_; (refine bx ?_; intro bk)) | refine walk ?_)
  exact ret_1 _ [.mp bm mp] (.tmp rfl) SOA ⟨bm, mp, rfl, rfl, hm, hd, by omega⟩
theorem clone_is : isClone Tryz.prog 183 := fun args w => by
 rw [run_callFunc_extern Tryz.func183 (by kernel_rfl) (by kernel_rfl) (by kernel_rfl) (e := Extern.MapsClone.clone) (by kernel_rfl)]
theorem mclone_spec (b : Nat) (m : List (ByteArray × Value)) (w : World) (h : MpAt w b m) :
  Does Tryz.prog 142 [.map (some b)] w (fun v O => ∃ b2, v = .map (some b2) ∧ O = [.mp b2 m]) := by
 refine Does_of_W Tryz.func142 rfl rfl rfl rfl ?_
 repeat (first | (apply RL_pu; rfl; (first | (apply Pu_eqNilMap; rfl) | (apply Pu_ifaceMap; rfl) | (apply Pu_assertMap; rfl))) | (refine js ?_; (apply Stp_mapsClone; exact clone_is; rfl; (intro w' hw _; exact h.up hw (Nat.le_refl _)); intro bk)) | refine walk1 ?_)
 exact ret_1 _ _ (.tmp rfl) (.refl _) ⟨_, rfl, rfl⟩
structure FG where
 seen : List ByteArray
 x : ByteArray
 mp : List (ByteArray × Value)
 f : Nat
theorem memB_cons (x y : ByteArray) (l : List ByteArray) : memB x (y :: l) = (decide (y = x) || memB x l) := rfl
theorem PuLnk2 {G : Prop} (h : G := by (apply Pu_lookupOkOld; rfl; rfl; exact h1; exact hv0; exact hc0)) : G := h
theorem PuLnk3 {G : Prop} (h : G := by (first | exact PuLnk2 | (apply Pu_lookupOkOld; rfl; rfl; exact h2; exact hv1; exact hc1) | (apply Pu_lookupOkC; rfl; rfl; (focus repeat' constructor); exact hv2; exact hc2))) : G := h
theorem follow_spec (Ar Az Al As : Option Addr) (cr cz cl cs : Nat) (a : DSource) (b1 b2 : Nat) (mk ml : List (ByteArray × Value)) (name : ByteArray) (w : World) (hA : RdSource w Ar Az Al As cr cz cl cs a) (h1 : MpAt w b1 mk) (h2 : MpAt w b2 ml)
  (hk : IxM mk fun x => firstZ x a.zones 0) (hl : IxM ml fun x => firstL x a.links 0) (hd : Nd ml) (hlen : ml.length ≤ a.links.length) :
  Does Tryz.prog 91 [srcV Ar Az Al As cr cz cl cs a, .map (some b1), .map (some b2), .string name] w (fun v O => v = .tuple #[.int .i64 (followD a (a.links.length + 1) [] name).1, .int .i64 (followD a (a.links.length + 1) [] name).2] ∧ O = []) := by
 obtain ⟨res, hres⟩ : ∃ res, followD a (a.links.length + 1) [] name = res := ⟨_, rfl⟩
 rw [hres]
 refine Does_of_W Tryz.func91 rfl rfl rfl rfl ?_
 repeat (first | (refine js ?_; (first | (apply Stp_call (h := fun w' hw _ => mclone_spec b2 ml w' (h2.up hw (Nat.le_refl _))); rfl; rintro v O' ⟨bc, rfl, rfl⟩) | (refine bx ?_; intro bk))) | refine walk ?_)
 refine W_loopF [(1, .map (some b1)), (2, .map (some b2)), (4, .pointer (some ⟨bk, 0, none⟩)), (10, .map (some bc))] [.blk bk [.slice Ar a.rules.length cr, .slice Az a.zones.length cz, .slice Al a.links.length cl, .slice As a.shifts.length cs] 45] (fun g : FG => [(3, .string g.x)]) (fun g => [.mp bc g.mp])
  (fun g => Nd g.mp ∧ (∀ x, mget g.mp x = if memB x g.seen then none else mget ml x) ∧ followD a g.f g.seen g.x = res ∧ g.mp.length < g.f) (fun g => g.mp.length) ⟨[], name, ml, a.links.length + 1⟩ SFA SOA ⟨hd, fun x => rfl, hres, by dsimp only; omega⟩ ?_
 rintro ⟨seen, x, mp, f⟩ ⟨hd2, hm, hi, hf⟩
 dsimp only at hd2 hm hi hf ⊢
 obtain ⟨f, rfl⟩ : ∃ f', f = f' + 1 := ⟨f - 1, by omega⟩
 rw [followD] at hi
 cases hz : firstZ x a.zones 0 with
 | some i =>
  rw [hz] at hi
  obtain ⟨hv0, hc0⟩ := hk.some hz
  repeat (first | (apply RL_pu; rfl; exact PuLnk2) | (refine js ?_; (refine bx ?_; intro bk)) | refine walk1 ?_)
  exact ret_2 _ _ [] (.tmp rfl) (.tmp rfl) .nil ⟨by rw [← hi] <;> rfl, rfl⟩
 | none =>
  rw [hz] at hi
  obtain ⟨hv0, hc0⟩ := hk.none hz
  cases hy : firstL x a.links 0 with
  | none =>
   rw [hy] at hi
   obtain ⟨hv1, hc1⟩ := hl.none hy
   have hg : mget mp x = none := by
    rw [hm x, hl x]
    dsimp only
    rw [hy]
    split <;> rfl
   have hv2 : (mget mp x).getD (.int .i64 0) = .int .i64 0 := by rw [hg]; rfl
   have hc2 : (mget mp x).isSome = false := by rw [hg]; rfl
   repeat (first | (apply RL_pu; rfl; exact PuLnk3) | (refine js ?_; (refine bx ?_; intro bk)) | refine walk1 ?_)
   exact ret_2 _ _ [] (.tmp rfl) (.tmp rfl) .nil ⟨by rw [← hi] <;> rfl, rfl⟩
  | some i =>
   rw [hy] at hi
   dsimp only at hi
   obtain ⟨hv1, hc1⟩ := hl.some hy
   cases hs : memB x seen with
   | true =>
    rw [hs, if_pos rfl] at hi
    have hg : mget mp x = none := by rw [hm x, hs]; rfl
    have hv2 : (mget mp x).getD (.int .i64 0) = .int .i64 0 := by rw [hg]; rfl
    have hc2 : (mget mp x).isSome = false := by rw [hg]; rfl
    repeat (first | (apply RL_pu; rfl; exact PuLnk3) | (refine js ?_; (refine bx ?_; intro bk)) | refine walk1 ?_)
    exact ret_2 _ _ [] (.tmp rfl) (.tmp rfl) .nil ⟨by rw [← hi] <;> rfl, rfl⟩
   | false =>
    rw [hs, if_neg (by decide)] at hi
    have hg : mget mp x = some (.int .i64 i) := by rw [hm x, hs, hl x]; dsimp only; rw [hy]; rfl
    have hv2 : (mget mp x).getD (.int .i64 0) = .int .i64 i := by rw [hg]; rfl
    have hc2 : (mget mp x).isSome = true := by rw [hg]; rfl
    have hdl := mdel_len x hc2
    have hlt : i < a.links.length := by have := firstL_lt x a.links 0 i hy; omega
    obtain ⟨hna, hca⟩ := hA.l.rd i _ (List.getElem?_eq_getElem hlt)
    rw [List.getElem?_eq_getElem hlt] at hi
    generalize a.links[i] = lk at *
    simp only [Option.map_some, Option.getD_some] at hi
    repeat (first | (apply RL_pu; rfl; (first | exact PuLnk3 | exact PuI)) | (refine js ?_; (first | (apply Stp_delete; rfl; rfl; (focus repeat' constructor)) | (refine bx ?_; intro bk))) | refine walk1 ?_)
    refine ⟨⟨x :: seen, lk.target, mdel mp x, f⟩, OA, ⟨hd2.del _, fun y => ?_, hi, OA⟩, SFA, SOA⟩
    dsimp only
    rw [mget_mdel x y hd2, hm y, memB_cons]
    by_cases e : x = y
    ·subst e; simp
    ·rw [if_neg (fun h => e h.symm), show decide (x = y) = false from decide_eq_false e, Bool.false_or]
end Go.Proofs.YtonjepladadmhaaGreatDoor
namespace Go.Wk
open Go Go.RowKit
def WF (F : Fence) : Prop := F = Fence.wide ∨ ∃ l, F = Fence.wide.inRound l
theorem WF.fn {F : Fence} (h : WF F) (f : FuncId) : F.fn f := by rcases h with rfl | ⟨l, rfl⟩ <;> trivial
theorem WF.depth {F : Fence} (h : WF F) : F.depth = none := by rcases h with rfl | ⟨l, rfl⟩ <;> rfl
theorem WF.calls {F : Fence} (h : WF F) {n : Nat} {P : Program} {f : FuncId} {args : Array Value} {w : World} {R : Ending → World → Prop} (hc : Calls P f args w R) : CallsIn F n P f args w R := by
 rcases h with rfl | ⟨l, rfl⟩
 ·exact callsIn_wide.2 hc
 ·exact CallsIn.inRound l (callsIn_wide.2 hc)
def calm : Result Next → Prop
 | .ok (.value _) _ => True
 | .ok .skip _ => True
 | .ok (.enter _ _) _ => True
 | .halt _ _ => True
 | _ => False
theorem wp_toIn {F : Fence} (hF : WF F) {n : Nat} {P : Program} {o : Oper} {a a2 : Act} {w : World} {K K2 : Act → World → Prop} {Q Q2 : Exit → Act → World → Prop} (he : a2.eval = a.eval) (hd : ∀ c, o.op ≠ .defer c) (hc : calm ((execOp a.eval o).run P w)) (h : o.wp P a w K Q) (hQ : ∀ e a w, ¬ Q e a w)
  (hK : ∀ v w', K (a.put o.dst v) w' → K2 (a2.put o.dst v) w') : o.wpIn F n P a2 w K2 Q2 := by
 refine ⟨fun f _ => hF.fn f, ?_⟩
 rw [Oper.semAt_eq _ _ _ hd, he]
 unfold Oper.wp at h
 generalize (execOp a.eval o).run P w = r at *
 cases r with
 | ok nx w' =>
  cases nx with
  | value v => exact hK _ _ h
  | skip => exact hK _ _ h
  | enter f args =>
   rw [Oper.upon_enter] at h
   rw [Oper.uponIn_enter]
   refine ⟨fun hh => (by rw [hF.depth] at hh; cases hh), (hF.calls h).mono ?_⟩
   intro e w'' he
   cases e with
   | returned v => exact hK _ _ he
   | panicked c => exact (hQ _ _ _ he).elim
   | outgrown => exact he.elim fun a h => h.elim fun w h => (hQ _ _ _ h).elim
  | _ => exact hc.elim
 | halt x w' =>
  cases x with
  | panic v => exact (hQ _ _ _ h).elim
  | _ => exact h.elim
section
variable {F : Fence} {P : Program} {n : Nat} {wr : World} {ops : Array Oper} {rest : List Oper} {K : Fr → List It → Prop} {fr : Fr} {O : List It} {ty : TypeId} {pos : String} {af : Array Edge} {D : List Deferred}
def actD (D : List Deferred) (a : Act) : Act := { a with defers := D }
def regQI (D : List Deferred) (n : Nat) (wr : World) (K : Fr → List It → Prop) : Exit → Act → World → Prop := fun e a w => e = .normal ∧ a.defers = D ∧ ∃ fr O, St n wr fr O (actD [] a) w ∧ K fr O
def RLI (F : Fence) (D : List Deferred) (P : Program) (n : Nat) (wr : World) (ops : Array Oper) (l : List Oper) (K : Fr → List It → Prop) (fr : Fr) (O : List It) : Prop :=
 ∀ a w, St n wr fr O a w → wpListIn F 0 P ops (regQI D n wr K) l (actD D a) w
theorem actD_nil {a : Act} {fr : Fr} {w : World} (h : St n wr fr O a w) : actD [] (actD D a) = a := by
 have := h.sim.defers
 cases a
 simp only at this
 subst this
 rfl
theorem actD_put (a : Act) (d : Option Tmp) (v : Value) : (actD D a).put d v = actD D (a.put d v) := by cases d <;> rfl
theorem RLI_nil (h : K fr O) : RLI F D P n wr ops [] K fr O := fun a w hs => ⟨rfl, rfl, fr, O, by rw [actD_nil hs]; exact hs, h⟩
theorem RLI_pu (hF : WF F) {d : Nat} {op : Op} {v : Value} (hd : Nat.ble (d + 1) n = true) (hop : ∀ c, op ≠ .defer c) (h : Pu P n wr fr O op ty v) (k : RLI F D P n wr ops rest K ((d, v) :: fr) O) :
  RLI F D P n wr ops (⟨some d, op, ty, pos, af, none⟩ :: rest) K fr O := by
 intro a w hs
 have hrun := h a w hs (some d) pos af none
 refine wpListIn_plain rfl fun K' hK => wp_toIn (a := a) (K := fun x w => x = a.put (some d) v ∧ St n wr ((d, v) :: fr) O x w) (Q := fun _ _ _ => False) hF rfl hop (by rw [hrun]; trivial) ?_ (fun _ _ _ h => h) ?_
 ·unfold Oper.wp
  rw [hrun, Oper.upon_value]
  exact ⟨rfl, hs.sim.put hd v, hs.old, hs.own⟩
 ·rintro u w' ⟨e, hst⟩
  rw [actD_put]
  exact hK _ _ (k _ _ (e ▸ hst))
theorem RLI_st (hF : WF F) {dst : Option Tmp} {op : Op} (hd : ∀ d, dst = some d → Nat.ble (d + 1) n = true) (hop : ∀ c, op ≠ .defer c) (hc : ∀ a w, St n wr fr O a w → calm ((execOp a.eval ⟨dst, op, ty, pos, af, none⟩).run P w))
  (h : Stp P n wr fr O ⟨dst, op, ty, pos, af, none⟩ fun v O' => RLI F D P n wr ops rest K (updF fr dst v) O') : RLI F D P n wr ops (⟨dst, op, ty, pos, af, none⟩ :: rest) K fr O := by
 intro a w hs
 refine wpListIn_plain rfl fun K' hK => wp_toIn (a := a) (K := fun x w => ∃ v O', x = a.put dst v ∧ Bel wr.heap.size wr w ∧ Holds wr.heap.size O' w ∧ RLI F D P n wr ops rest K (updF fr dst v) O') (Q := fun _ _ _ => False) hF rfl hop (hc a w hs) ?_ (fun _ _ _ h => h) ?_
 ·exact h a w hs _ _ fun v O' w' h1 h2 h3 => ⟨v, O', rfl, h1, h2, h3⟩
 ·rintro u w' ⟨v, O', e, h1, h2, h3⟩
  rw [actD_put]
  refine hK _ _ (h3 _ _ ?_)
  show St n wr _ O' (a.put dst u) w'
  rw [e]
  cases dst with
  | none => exact ⟨hs.sim, h1, h2⟩
  | some d => exact ⟨hs.sim.put (hd d rfl) v, h1, h2⟩
theorem calm_callV {dst : Option Tmp} {g : Option (Nat × Bool)} {f : FuncId} {gx : Operand} {xs : List Operand} {ts : Array TypeId} {us cs : List Value} [Body P f] {a : Act} {w : World} (hs : St n wr fr O a w) (hg : ev fr gx = some (.func (.func f) us.toArray cs.toArray)) :
  calm ((execOp a.eval ⟨dst, .call ⟨.value gx, xs.toArray, ts⟩, ty, pos, af, g⟩).run P w) := by
 simp [execOp, resolve, hs.sim.ev hg, Deferred.ofValue, invoke, run_callFunc, calm]
theorem calm_store {dst : Option Tmp} {g : Option (Nat × Bool)} {t : TypeId} {x y : Operand} (a : Act) (w : World) : calm ((execOp a.eval ⟨dst, .store t x y, ty, pos, af, g⟩).run P w) := by
 simp only [execOp, Sem.run_bind]
 generalize (Instr.storeAt t (a.eval x) (a.eval y)).run P w = r
 cases r <;> simp [calm, Result.andThen]
theorem RLI_yes {dst : Option Tmp} {op : Op} {j : Nat} {b : Bool} {oj : Oper} {d : Nat} (hj : ops[j]? = some oj) (hd : oj.dst = some d) (hb : look fr d = some (.bool b))
  (k : RLI F D P n wr ops (⟨dst, op, ty, pos, af, none⟩ :: rest) K fr O) : RLI F D P n wr ops (⟨dst, op, ty, pos, af, some (j, b)⟩ :: rest) K fr O := by
 intro a w hs
 have := k a w hs
 have hy : yielded ops (actD D a).tmps j = some b := by
  show yielded ops a.tmps j = some b
  simp [yielded, hj, hd, hs.sim.at_ d _ hb]
 simp only [wpListIn, Region.wanted, hy, if_true, beq_self_eq_true] at this ⊢
 exact this
theorem RLI_no (hF : WF F) {d' : Nat} {op : Op} {j : Nat} {b b' : Bool} {oj : Oper} {d : Nat} (hj : ops[j]? = some oj) (hd : oj.dst = some d) (hb : look fr d = some (.bool b')) (hne : b' = !b) (hdn : Nat.ble (d' + 1) n = true)
  (k : RLI F D P n wr ops rest K ((d', undef) :: fr) O) : RLI F D P n wr ops (⟨some d', op, ty, pos, af, some (j, b)⟩ :: rest) K fr O := by
 intro a w hs
 have := k (a.put (some d') undef) w ⟨hs.sim.put hdn undef, hs.old, hs.own⟩
 have hy : yielded ops (actD D a).tmps j = some b' := by
  show yielded ops a.tmps j = some b'
  simp [yielded, hj, hd, hs.sim.at_ d _ hb]
 have hw : Region.wanted (⟨some d', op, ty, pos, af, some (j, b)⟩ : Oper) (yielded ops (actD D a).tmps) = false := by
  subst hne
  simp [Region.wanted, hy]
 simp only [wpListIn, hw]
 exact ⟨fun f _ => hF.fn f, by rw [actD_put]; exact this⟩
def liftI (D : List Deferred) (n : Nat) (wr : World) (Q : Exit → Fr → List It → Prop) : Exit → Act → World → Prop := fun e a w => a.defers = D ∧ ∃ fr O, St n wr fr O (actD [] a) w ∧ Q e fr O
def WI (F : Fence) (D : List Deferred) (P : Program) (n : Nat) (wr : World) (c : Code) (Q : Exit → Fr → List It → Prop) (fr : Fr) (O : List It) : Prop :=
 ∀ a w, St n wr fr O a w → c.wpIn F 0 P (liftI D n wr Q) (actD D a) w
theorem actD_back {a : Act} (h : a.defers = D) : actD D (actD [] a) = a := by cases a; simp only at h; subst h; rfl
variable {Q : Exit → Fr → List It → Prop}
theorem WI_seq {x y : Code} (h : WI F D P n wr x (thenQ (WI F D P n wr y Q) Q) fr O) : WI F D P n wr (.seq x y) Q fr O := by
 intro a w hs
 refine wpIn_seq (wpIn_mono (h a w hs) ?_)
 rintro e a' w' ⟨hd, fr', O', hs', hq⟩
 cases e with
 | normal =>
  have := hq _ w' hs'
  rw [actD_back hd] at this
  exact this
 | _ => exact ⟨hd, fr', O', hs', hq⟩
theorem WI_skip (h : Q .normal fr O) : WI F D P n wr .skip Q fr O := fun a _ hs => wpIn_skip ⟨rfl, fr, O, by rw [actD_nil hs]; exact hs, h⟩
theorem WI_ret (h : Q .ret fr O) : WI F D P n wr .ret Q fr O := fun a _ hs => wpIn_ret ⟨rfl, fr, O, by rw [actD_nil hs]; exact hs, h⟩
theorem WI_cond {c : Operand} {x y : Code} {b : Bool} (hc : ev fr c = some (.bool b)) (ht : b = true → WI F D P n wr x Q fr O) (hf : b = false → WI F D P n wr y Q fr O) : WI F D P n wr (.cond c x y) Q fr O := by
 intro a w hs
 have he : (actD D a).eval c = .bool b := hs.sim.ev hc
 exact wpIn_cond_split he (fun h => ht h a w hs) (fun h => hf h a w hs)
theorem WI_region {id : Nat} {l : List Oper} (h : RLI F D P n wr l.toArray l (Q .normal) fr O) : WI F D P n wr (.region id l.toArray false) Q fr O := by
 intro a w hs
 refine wpIn_mono (wpIn_region_lit (h a w hs)) ?_
 rintro e a' w' ⟨rfl, hd, fr', O', hs', hq⟩
 exact ⟨hd, fr', O', hs', hq⟩
def LoopIt (l : Nat) (r : Loop) : It := .fact (fun k => k = l) (fun w => w.heap[l]? = some (.loop r))
def DefIt (b : Nat) : It := .fact (fun k => k = b) (fun w => w.heap[b]? = some (.deferred (some [])))
theorem LoopIt.at {l : Nat} {r : Loop} {w : World} (h : (LoopIt l r).sat w) : w.heap[l]? = some (.loop r) := fact_at h
theorem DefIt.at {b : Nat} {w : World} (h : (DefIt b).sat w) : w.heap[b]? = some (.deferred (some [])) := fact_at h
theorem putObj_size (w : World) (l : Nat) (o : Obj) : (w.putObj l o).heap.size = w.heap.size := by simp [World.putObj]
theorem turn_loop {a : Act} {w : World} {l : Nat} {r r' : Loop} {O' : List It} (hs : St n wr fr O a w) (hu : Upd O (LoopIt l r) (LoopIt l r') O') : St n wr fr O' a (w.putObj l (.loop r')) := by
 have hin := hs.own.inb _ hu.mem l rfl
 refine ⟨hs.sim, hs.old.trans ⟨⟨rfl, rfl, rfl, by rw [putObj_size]; exact Nat.le_refl _, fun i hi => World.putObj_heap_other (by omega)⟩⟩, hs.own.upd hu hs.old.size (by rw [putObj_size]; exact Nat.le_refl _) (fun i _ hi => World.putObj_heap_other hi) ?_ (fun i hi => .inl hi)⟩
 intro w' ha
 rw [ha l rfl]
 exact World.putObj_heap_same hin.2
def roundQ (l : Nat) (r : Loop) (R : Bool → List It → Prop) : Exit → Fr → List It → Prop
 | .normal => fun _ O => ∃ O', Upd O (LoopIt l { r with state := .busy }) (LoopIt l { r with state := .ready, pending := none }) O' ∧ R true O'
 | .ret => fun _ O => ∃ O', Upd O (LoopIt l { r with state := .busy }) (LoopIt l { r with state := .done, pending := some .ret }) O' ∧ R false O'
 | _ => fun _ _ => False
def YieldsTo (P : Program) (l : Nat) (v : Value) (wr : World) (O : List It) (R : Bool → List It → Prop) : Prop :=
 ∀ w, Bel wr.heap.size wr w → Holds wr.heap.size O w → YieldAt Fence.wide 0 P l #[v] w fun e w' => ∃ b O', e = .returned (.bool b) ∧ Bel wr.heap.size wr w' ∧ Holds wr.heap.size O' w' ∧ R b O'
theorem yields_round {l p : Nat} {r : Loop} {v : Value} {a0 : Act} {O1 : List It} {R : Bool → List It → Prop} (hp : r.params = #[p]) (hr : r.state = .ready) (ht : r.tmps = a0.tmps) (hsim : Sim n fr a0) (hpn : Nat.ble (p + 1) n = true)
  (hu : Upd O (LoopIt l r) (LoopIt l { r with state := .busy }) O1) {id : Nat} {la : List Oper} (hass : r.assign = .region id la.toArray false)
  (hb : RLI (Fence.wide.inRound l) [] P n wr la.toArray la (fun fr' O' => O' = O ∧ WI (Fence.wide.inRound l) [] P n wr r.body (roundQ l r R) fr' O1) ((p, v) :: fr) O) : YieldsTo P l v wr O R := by
 intro w hB hH
 have hl := LoopIt.at (hH.sat _ hu.mem)
 have hy := run_yield (P := P) (args := #[v]) hl (by rw [hp]; rfl)
 rw [hp, ht] at hy
 refine ⟨r.fn, _, r.assign, r.body, hy, roundIn_of_wpIn trivial ?_⟩
 have hst : St n wr ((p, v) :: fr) O { tmps := a0.tmps.setIfInBounds p v, defers := [] } w := by
  have := hsim.put hpn v
  refine ⟨?_, hB, hH⟩
  have e : ({ tmps := a0.tmps.setIfInBounds p v, defers := [] } : Act) = a0.put (some p) v := by
   have := hsim.defers
   simp [Act.put, this]
  rw [e]
  exact this
 rw [hass, show Array.foldl (fun tmps (x : Tmp × Value) => match x with | (t, a) => tmps.setIfInBounds t a) a0.tmps (#[p].zip #[v]) = a0.tmps.setIfInBounds p v by simp]
 refine wpIn_mono (wpIn_region_lit (hb _ w hst)) ?_
 rintro e a' w' ⟨rfl, hd, fr', O', hs', rfl, hW⟩
 have hl' := LoopIt.at (hs'.own.sat _ hu.mem)
 refine ⟨_, run_beginRound hl' hr, ?_⟩
 have hs2 := turn_loop hs' hu
 have h3 := hW _ _ hs2
 rw [actD_back hd] at h3
 refine wpIn_mono h3 ?_
 rintro e2 a2 w2 ⟨hd2, fr2, O2, hs3, hq⟩
 cases e2 with
 | normal =>
  obtain ⟨O3, hu3, hR⟩ := hq
  have hl3 := LoopIt.at (hs3.own.sat _ hu3.mem)
  have hs4 := turn_loop hs3 hu3
  exact ⟨_, _, run_endRound none hl3, true, O3, rfl, hs4.old, hs4.own, hR⟩
 | ret =>
  obtain ⟨O3, hu3, hR⟩ := hq
  have hl3 := LoopIt.at (hs3.own.sat _ hu3.mem)
  have hs4 := turn_loop hs3 hu3
  exact ⟨_, _, run_endRound (some .ret) hl3, false, O3, rfl, hs4.old, hs4.own, hR⟩
 | exit id => exact hq.elim
 | goto t => exact hq.elim
 | panic ch => exact hq.elim
 | outgrown => exact hq.elim
theorem RLI_yield {d l : Nat} {gx y : Operand} {ts : Array TypeId} {v : Value} {R : Bool → List It → Prop} (hd : Nat.ble (d + 1) n = true) (hg : ev fr gx = some (.func (.yield l) #[] #[])) (hx : ev fr y = some v) (h : YieldsTo P l v wr O R)
  (k : ∀ b O', R b O' → RLI Fence.wide [] P n wr ops rest K ((d, .bool b) :: fr) O') : RLI Fence.wide [] P n wr ops (⟨some d, .call ⟨.value gx, #[y], ts⟩, ty, pos, af, none⟩ :: rest) K fr O := by
 intro a w hs
 refine wpListIn_plain rfl fun K' hK => ⟨fun f _ => trivial, ?_⟩
 obtain ⟨fn, tmps, assign, body, hy, hR⟩ := h w hs.old hs.own
 have e : actD [] a = a := by
  have := hs.sim.defers
  cases a; simp only at this; subst this; rfl
 rw [e]
 have hrun : (Oper.semAt Fence.wide.round a.eval ⟨some d, .call ⟨.value gx, #[y], ts⟩, ty, pos, af, none⟩).run P w = .ok (.round l fn tmps assign body) w := by
  rw [Oper.semAt_eq _ _ _ (by intro c hc; cases hc)]
  simp [execOp, resolve, hs.sim.ev hg, hs.sim.ev hx, Deferred.ofValue, invoke, hy]
 rw [hrun, Oper.uponIn_round]
 refine ⟨fun hh => (by cases hh), hR.mono ?_⟩
 rintro e2 w' ⟨b, O', rfl, h1, h2, h3⟩
 have := k b O' h3 (a.put (some d) (.bool b)) w' ⟨hs.sim.put hd _, h1, h2⟩
 refine hK _ _ ?_
 have e2 : actD [] (a.put (some d) (.bool b)) = a.put (some d) (.bool b) := by rw [← actD_put, e]
 rw [e2] at this
 exact this
theorem W_regionI {id : Nat} {l : List Oper} (h : RLI Fence.wide [] P n wr l.toArray l (Q .normal) fr O) : W P n wr (.region id l.toArray false) Q fr O := by
 intro a w hs
 have e : actD [] a = a := by
  have := hs.sim.defers
  cases a; simp only at this; subst this; rfl
 have h1 := h a w hs
 rw [e] at h1
 refine wpIn_wide.1 (wpIn_mono (wpIn_region_lit h1) ?_)
 rintro e a' w' ⟨rfl, hd, fr', O', hs', hq⟩
 refine ⟨fr', O', ?_, hq⟩
 rw [show a' = actD [] a' from (by cases a'; simp only at hd; subst hd; rfl)]
 exact hs'
theorem SubO.trans {A B C : List It} (h : SubO A B) (k : SubO B C) : SubO A C := by
 obtain ⟨R1, h1⟩ := h.perm
 obtain ⟨R2, h2⟩ := k.perm
 exact SubO.ofPerm (R := R1 ++ R2) (h2.trans (by rw [← List.append_assoc]; exact h1.append_right R2))
theorem ret_0r {R : Value → List It → Prop} (O' : List It) (hO : SubO O' O) (hR : R (.tuple #[]) O') : retQ P wr [] R .ret fr O := ⟨[], O', rfl, hO, hR⟩
theorem W_regionY {id d0 d1 d2 l : Nat} {x y g : Operand} {op1 : Op} {ty0 ty1 : TypeId} {p0 p1 : String} {f0 f1 : Array Edge} {ts : Array TypeId} {u v : Value} {R : Bool → List It → Prop} (n0 : Nat.ble (d0 + 1) n = true) (n1 : Nat.ble (d1 + 1) n = true) (n2 : Nat.ble (d2 + 1) n = true) (hop : ∀ c, op1 ≠ .defer c)
  (hx : ev fr x = some u) (h1 : Pu P n wr ((d0, u) :: fr) O op1 ty1 v) (hg : ev ((d1, v) :: (d0, u) :: fr) g = some (.func (.yield l) #[] #[])) (hy : ev ((d1, v) :: (d0, u) :: fr) y = some v) (hY : YieldsTo P l v wr O R)
  (k : ∀ b O', R b O' → RLI Fence.wide [] P n wr (⟨some d0, .move x, ty0, p0, f0, none⟩ :: ⟨some d1, op1, ty1, p1, f1, none⟩ :: ⟨some d2, .call ⟨.value g, #[y], ts⟩, ty, pos, af, none⟩ :: rest).toArray rest (Q .normal) ((d2, .bool b) :: (d1, v) :: (d0, u) :: fr) O') :
  W P n wr (.region id (⟨some d0, .move x, ty0, p0, f0, none⟩ :: ⟨some d1, op1, ty1, p1, f1, none⟩ :: ⟨some d2, .call ⟨.value g, #[y], ts⟩, ty, pos, af, none⟩ :: rest).toArray false) Q fr O :=
 W_regionI (RLI_pu (.inl rfl) n0 (by intro c h; cases h) (Pu_move hx) (RLI_pu (.inl rfl) n1 hop h1 (RLI_yield n2 hg hy hY k)))
theorem St.allocFact {a : Act} {w : World} (hs : St n wr fr O a w) (o : Obj) : St n wr fr (.fact (fun k => k = w.heap.size) (fun w' => w'.heap[w.heap.size]? = some o) :: O) a (w.alloc o) := by
 have hB : Bel w.heap.size w (w.alloc o) := (Bel.refl _ _).alloc (Nat.le_refl _) _
 refine ⟨hs.sim, hs.old.trans (hB.mono hs.old.size), hs.own.grow (O' := [_]) hB hs.old.size ⟨fun i hi => ?_, fun i hi b hb => ?_, List.pairwise_singleton _ _⟩⟩
 ·rw [List.mem_singleton.1 hi]
  intro w' ha
  rw [ha _ rfl]
  exact World.alloc_heap_new w o
 ·rw [List.mem_singleton.1 hi] at hb
  obtain rfl : b = w.heap.size := hb
  exact ⟨Nat.le_refl _, by simp⟩
def markD (D : Nat) : List Deferred := [{ target := .collected D, args := #[] }]
def recOf (fn : FuncId) (tm : Array Value) (p : Tmp) (assign body : Code) (D : Nat) : Loop := { state := .ready, pending := none, fn := fn, tmps := tm, params := #[p], assign := assign, body := body, defers := D }
theorem range_wp {gf : FuncId} [Body P gf] {lb : List Value} {g : Operand} {p : Tmp} {assign body : Code} {Q2 : Exit → Act → World → Prop} {a : Act} {w : World} (K : Option Code → List It → Prop) (hs : St n wr fr O a w) (hg : ev fr g = some (.func (.func gf) #[] lb.toArray))
  (hit : ∀ fn l D, DoesIn P gf (.func (.yield l) #[] #[] :: lb) wr (LoopIt l (recOf fn a.tmps p assign body D) :: DefIt D :: O) fun _ O' => ∃ jump O2 st, SubO (LoopIt l { recOf fn a.tmps p assign body D with state := st, pending := jump } :: DefIt D :: O2) O' ∧ st ≠ .busy ∧ K jump O2)
  (hk : ∀ jump O2 D w', K jump O2 → St n wr fr (DefIt D :: O2) a w' → match jump with | none => Q2 .normal (actD (markD D) a) w' | some c => c.wp P Q2 (actD (markD D) a) w') : (Code.rangeFunc g #[p] assign body).wp P Q2 a w := by
 refine (wpIn_wide (n := 0)).1 (wpIn_rangeFunc fun fn _ => ?_)
 have h1 := hs.allocFact (.deferred (some []))
 have h2 := h1.allocFact (.loop (recOf fn a.tmps p assign body w.heap.size))
 rw [World.size_alloc] at h2
 have hst : St n wr fr (LoopIt (w.heap.size + 1) (recOf fn a.tmps p assign body w.heap.size) :: DefIt w.heap.size :: O) a ((w.alloc (.deferred (some []))).alloc (.loop (recOf fn a.tmps p assign body w.heap.size))) := h2
 have hen := run_enterLoop_outer (P := P) (w := w) fn a.tmps #[p] assign body
 generalize hW1 : (w.alloc (.deferred (some []))).alloc (.loop (recOf fn a.tmps p assign body w.heap.size)) = W1 at hst
 rw [show (w.alloc (.deferred (some []))).alloc (.loop { state := .ready, pending := none, fn := fn, tmps := a.tmps, params := #[p], assign := assign, body := body, defers := w.heap.size }) = W1 from hW1] at hen
 refine ⟨w.heap.size + 1, markD w.heap.size, W1, { target := .fn (.func gf) lb.toArray, args := #[.func (.yield (w.heap.size + 1)) #[] #[]] }, W1, gf, #[.func (.yield (w.heap.size + 1)) #[] #[]] ++ lb.toArray, W1, hen, ?_, fun _ _ => trivial, ?_, fun hh => (by cases hh), ?_⟩
 ·have hcv : a.eval (.const (.func (.yield (w.heap.size + 1)) #[] #[])) = .func (.yield (w.heap.size + 1)) #[] #[] := rfl
  simp [resolve, hs.sim.ev hg, hcv, Deferred.ofValue]
 ·simp [invoke, run_callFunc]
 ·refine callsIn_wide.2 ?_
  have hc := hit fn (w.heap.size + 1) w.heap.size _ hst.old hst.own
  rw [show (Value.func (.yield (w.heap.size + 1)) #[] #[] :: lb).toArray = #[.func (.yield (w.heap.size + 1)) #[] #[]] ++ lb.toArray by simp] at hc
  refine hc.mono ?_
  rintro e w3 ⟨v, O', rfl, hB, hH, jump, O2, st, hsub, hne, hK⟩
  have hs3 : St n wr fr (LoopIt (w.heap.size + 1) { recOf fn a.tmps p assign body w.heap.size with state := st, pending := jump } :: DefIt w.heap.size :: O2) a w3 := ⟨hs.sim, hB, hH.sub hsub⟩
  have hl := LoopIt.at (hs3.own.sat _ List.mem_cons_self)
  have hs4 := turn_loop (r' := { recOf fn a.tmps p assign body w.heap.size with state := .exhausted, pending := jump }) hs3 .here
  have hk2 := hk jump O2 w.heap.size _ hK ⟨hs4.sim, hs4.old, hs4.own.tail⟩
  refine ⟨jump, _, run_endLoop hl hne, ?_⟩
  have e0 : ({ a with defers := markD w.heap.size ++ a.defers } : Act) = actD (markD w.heap.size) a := by
   have := hs.sim.defers
   simp [actD, this]
  rw [e0]
  cases jump with
  | none => exact hk2
  | some c => exact wpIn_wide.2 hk2
theorem Does_marks {f : FuncId} {fn : Func} {c : Code} {args : List Value} {w : World} {R : Ending → World → Prop} (hf : P.funcs[f]? = some fn) (hb : fn.body = some c) (hn : fn.ntmps = n) (ha : Nat.ble args.length n = true)
  (h : ∀ a, St n w (argsFr 0 args) [] a w → c.wp P (bodyPostM Fence.wide 0 P fn R) a w) : Calls P f args.toArray w R := by
 refine (callsIn_wide (n := 0)).1 (callsIn_of_wp_marks hf hb trivial ?_)
 refine (wpIn_wide (n := 0)).2 (h _ ?_)
 have ha' : args.length ≤ n := Nat.le_of_ble_eq_true ha
 refine ⟨⟨rfl, by simp; omega, fun t v hv => ?_⟩, Bel.refl _ _, Holds.nil _ _⟩
 have := (look_argsFr args 0 t v hv).2
 simp only [Nat.sub_zero] at this
 have hlt : t < args.length := (List.getElem?_eq_some_iff.1 this).1
 rw [Array.getElem?_append_left (by simpa using hlt)]
 simpa using this
theorem DoesIn.sub {f : FuncId} {args : List Value} {O' : List It} {R R' : Value → List It → Prop} (h : DoesIn P f args wr O R) (hO : SubO O O') (hR : ∀ v O, R v O → R' v O) : DoesIn P f args wr O' R' :=
 fun w hB hH => (h w hB (hH.sub hO)).mono fun _ _ ⟨v, O1, h1, h2, h3, h4⟩ => ⟨v, O1, h1, h2, h3, hR v O1 h4⟩
theorem WI.at {c : Code} {a : Act} {w : World} (h : WI F D P n wr c Q fr O) (hs : St n wr fr O a w) : c.wpIn F 0 P (liftI D n wr Q) (actD D a) w := h a w hs
theorem WI_block {id : Nat} {c : Code} (h : WI F D P n wr c (blockQ id Q) fr O) : WI F D P n wr (.block id c) Q fr O := by
 intro a w hs
 refine wpIn_block (wpIn_mono (h a w hs) ?_)
 rintro e a' w' ⟨hd, fr', O', hs', hq⟩
 cases e with
 | exit k =>
  simp only [Exit.inBlock, blockQ] at hq ⊢
  split
  ·rename_i hk; rw [if_pos hk] at hq; exact ⟨hd, fr', O', hs', hq⟩
  ·rename_i hk; rw [if_neg hk] at hq; exact ⟨hd, fr', O', hs', hq⟩
 | _ => exact ⟨hd, fr', O', hs', hq⟩
end
end Go.Wk
