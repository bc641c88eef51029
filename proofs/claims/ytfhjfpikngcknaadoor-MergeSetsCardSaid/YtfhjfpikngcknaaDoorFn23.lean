/- The source of a draft of layer 23, as plain functions. -/
import Derived.Test.YtfhjfpikngcknaaDoorMadeE23
namespace Go.Wk
open Go Go.RowKit
theorem Pu_maxI {P : Program} {n : Nat} {wr : World} {fr : Fr} {O : List It} {ty : TypeId} {x y : Operand} {ts : Array TypeId} {k : IntKind} {i j : Int} (hx : ev fr x = some (.int k i)) (hy : ev fr y = some (.int k j)) : Pu P n wr fr O (.call ⟨.builtin .max, #[x, y], ts⟩) ty (.int k (if i < j then j else i)) :=
  fun a w hs _ _ _ _ => by simp [execOp, resolve, invoke, builtin, Builtin.max_, Builtin.max2, hs.sim.ev hx, hs.sim.ev hy]
theorem RdSl.take {α : Type} {w : World} {A : Option Addr} {c : Nat} {enc : α → List Value} {sz : Nat} {xs : List α} (h : RdSl w A c enc sz xs) (k : Nat) : RdSl w A c enc sz (xs.take k) :=
  ⟨by rw [List.length_take]; exact Nat.le_trans (Nat.min_le_right _ _) h.le, h.cap, fun j x hj => h.rd j x (by
    rw [List.getElem?_take] at hj
    split at hj
    · exact hj
    · cases hj)⟩
theorem E23.len (x : E23) : x.enc.length = 8 := rfl
end Go.Wk
namespace Go.Proofs.YtfhjfpikngcknaaDoor
open Go Go.RowKit Go.Wk

structure DD23 where
  sets : List (List Int)
  zones : List (List E23)
  links : List Int
/-- A slice of slices of data. -/
structure RdLL {α : Type} (w : World) (A : Option Addr) (c : Nat) (enc : α → List Value) (sz : Nat) (ll : List (List α)) : Prop where
  le : ll.length ≤ c
  cap : c ≤ maxLen
  rd : ∀ k l, ll[k]? = some l → A ≠ none ∧ ∃ B cb, RdSl w B cb enc sz l ∧ CellsAt w ((adr A).add (k * 1)) [.slice B l.length cb]
theorem RdLL.up {α : Type} {w w' : World} {A : Option Addr} {c : Nat} {enc : α → List Value} {sz : Nat} {ll : List (List α)} (h : RdLL w A c enc sz ll) (hb : Below w.heap.size w w') : RdLL w' A c enc sz ll :=
  ⟨h.le, h.cap, fun k l hk => by
    obtain ⟨h1, B, cb, h2, h3⟩ := h.rd k l hk
    exact ⟨h1, B, cb, h2.up hb, h3.up hb (Nat.le_refl _)⟩⟩
theorem RdLL.take {α : Type} {w : World} {A : Option Addr} {c : Nat} {enc : α → List Value} {sz : Nat} {ll : List (List α)} (h : RdLL w A c enc sz ll) (k : Nat) : RdLL w A c enc sz (ll.take k) :=
  ⟨by rw [List.length_take]; exact Nat.le_trans (Nat.min_le_right _ _) h.le, h.cap, fun j x hj => h.rd j x (by
    rw [List.getElem?_take] at hj
    split at hj
    · exact hj
    · cases hj)⟩
def d23V (As Az Al : Option Addr) (cs cz cl : Nat) (d : DD23) : Value := .agg #[.slice As d.sets.length cs, .slice Az d.zones.length cz, .slice Al d.links.length cl]
def e23Z : E23 := ⟨0, 0, 0, 0, 0, 0, 0, 0⟩
def sZ : ByteArray := ⟨#[65, 114, 101, 97, 47, 90]⟩
def sL : ByteArray := ⟨#[79, 108, 100, 47, 76]⟩
def DD23.ns (d : DD23) : Nat := max 1 (min d.sets.length 3)
def rules23 (sets : List (List Int)) : Nat → List DRule
  | 0 => []
  | k + 1 => rules23 sets k ++ made17 (sets.getD k []) (sR ++ dig k)
def zl23 (zones : List (List E23)) : List (List E23) := if zones.length = 0 then [[]] else zones.take 3
def el23 (l : List E23) : List E23 := if l.length = 0 then [e23Z] else l.take 4
def eras23 (sets : Int) (l : List E23) : Nat → List DEra × Int
  | 0 => ([], 1904)
  | k + 1 => ((eras23 sets l k).1 ++ [era23 (l.getD k e23Z) (decide ((k : Int) = 0)) sets ((eras23 sets l k).2 + (1 + (l.getD k e23Z).years % 30)) (decide ((k : Int) < (l.length : Int) - 1))], (eras23 sets l k).2 + (1 + (l.getD k e23Z).years % 30))
def zone23 (sets : Int) (i : Nat) (l : List E23) : DZone := ⟨sZ ++ dig i, (eras23 sets (el23 l) (el23 l).length).1⟩
def zones23 (sets : Int) (zs : List (List E23)) : Nat → List DZone
  | 0 => []
  | i + 1 => zones23 sets zs i ++ [zone23 sets i (zs.getD i [])]
def link23 (nz : Nat) (n : Int) (i : Nat) : DLink := ⟨if n % ((nz : Int) + i) ≥ nz then sL ++ dig (n % ((nz : Int) + i) - nz) else sZ ++ dig (n % (nz : Int)), sL ++ dig i⟩
def links23 (nz : Nat) (links : List Int) : Nat → List DLink
  | 0 => []
  | i + 1 => links23 nz links i ++ [link23 nz (links.getD i 0) i]
def made23 (d : DD23) : DSource := ⟨rules23 d.sets d.ns, zones23 d.ns (zl23 d.zones) (zl23 d.zones).length, links23 (zl23 d.zones).length (d.links.take 4) (d.links.take 4).length, []⟩
theorem made17_len (l : List Int) (x : ByteArray) : (made17 l x).length ≤ 5 := by
  obtain ⟨q1, q2, q3⟩ := m1_rng l
  obtain ⟨q4, q5, q6⟩ := m2_rng l (m1 l).1 (m1 l).2 q1 q2 q3
  rw [made17, List.length_map, m3, List.length_append, pairB_len]
  omega
theorem rules23_len (sets : List (List Int)) : ∀ k, (rules23 sets k).length ≤ 5 * k
  | 0 => Nat.le_refl _
  | k + 1 => by
    have := rules23_len sets k
    have h2 := made17_len (sets.getD k []) (sR ++ dig k)
    rw [rules23, List.length_append]
    omega
theorem zl23_len (zs : List (List E23)) : 1 ≤ (zl23 zs).length ∧ (zl23 zs).length ≤ 3 := by
  unfold zl23
  split
  · simp
  · rw [List.length_take]; omega
theorem el23_len (l : List E23) : 1 ≤ (el23 l).length ∧ (el23 l).length ≤ 4 := by
  unfold el23
  split
  · simp
  · rw [List.length_take]; omega
theorem eras23_len (sets : Int) (l : List E23) : ∀ k, (eras23 sets l k).1.length = k
  | 0 => rfl
  | k + 1 => by simp [eras23, eras23_len sets l k]
theorem eras23_year (sets : Int) (l : List E23) (hl : ∀ e ∈ l, e.ok) : ∀ k : Nat, 1904 ≤ (eras23 sets l k).2 ∧ (eras23 sets l k).2 ≤ 1904 + 30 * k
  | 0 => by simp [eras23]
  | k + 1 => by
    obtain ⟨h1, h2⟩ := eras23_year sets l hl k
    have h3 := Int.emod_nonneg (l.getD k e23Z).years (b := 30) (by decide)
    have h4 := Int.emod_lt_of_pos (l.getD k e23Z).years (b := 30) (by decide)
    simp only [eras23]
    omega
theorem zones23_len (sets : Int) (zs : List (List E23)) : ∀ k, (zones23 sets zs k).length = k
  | 0 => rfl
  | k + 1 => by simp [zones23, zones23_len sets zs k]
theorem links23_len (nz : Nat) (links : List Int) : ∀ k, (links23 nz links k).length = k
  | 0 => rfl
  | k + 1 => by simp [links23, links23_len nz links k]
end Go.Proofs.YtfhjfpikngcknaaDoor
