/- The plain data, and how they lie in memory. -/
import Derived.Test.YtfhjfpikngcknaaDoorWkD
namespace Go.Wk
open Go Go.RowKit

structure DDay where
  kind : Int
  week : Int
  day : Int
  deriving DecidableEq
structure DClock where
  sec : Int
  base : Int
  deriving DecidableEq
structure DRule where
  name : ByteArray
  from_ : Int
  to : Int
  month : Int
  day : DDay
  at_ : DClock
  save : Int
  letter : ByteArray
  deriving DecidableEq
structure DUntil where
  is : Bool
  year : Int
  month : Int
  day : DDay
  at_ : DClock
  deriving DecidableEq
structure DEra where
  off : Int
  kind : Int
  save : Int
  set : ByteArray
  format : ByteArray
  til : DUntil
  deriving DecidableEq
structure DZone where
  name : ByteArray
  eras : List DEra
  deriving DecidableEq
structure DLink where
  target : ByteArray
  name : ByteArray
  deriving DecidableEq
structure DSource where
  rules : List DRule
  zones : List DZone
  links : List DLink
  shifts : List ByteArray
  deriving DecidableEq
structure DPlace where
  part : Int
  index : Int
  era : Int
  deriving DecidableEq

def DDay.enc (d : DDay) : List Value := [.int .i64 d.kind, .int .i64 d.week, .int .i64 d.day]
def DClock.enc (c : DClock) : List Value := [.int .i64 c.sec, .int .i64 c.base]
def DRule.enc (r : DRule) : List Value :=
  [.string r.name, .int .i64 r.from_, .int .i64 r.to, .int .i64 r.month, .int .i64 r.day.kind, .int .i64 r.day.week, .int .i64 r.day.day, .int .i64 r.at_.sec, .int .i64 r.at_.base, .int .i64 r.save, .string r.letter]
def DUntil.enc (u : DUntil) : List Value := [.bool u.is, .int .i64 u.year, .int .i64 u.month, .int .i64 u.day.kind, .int .i64 u.day.week, .int .i64 u.day.day, .int .i64 u.at_.sec, .int .i64 u.at_.base]
def DEra.enc (e : DEra) : List Value :=
  [.int .i64 e.off, .int .i64 e.kind, .int .i64 e.save, .string e.set, .string e.format, .bool e.til.is, .int .i64 e.til.year, .int .i64 e.til.month, .int .i64 e.til.day.kind, .int .i64 e.til.day.week, .int .i64 e.til.day.day, .int .i64 e.til.at_.sec, .int .i64 e.til.at_.base]
def DLink.enc (l : DLink) : List Value := [.string l.target, .string l.name]
def DPlace.enc (p : DPlace) : List Value := [.int .i64 p.part, .int .i64 p.index, .int .i64 p.era]
def strEnc (s : ByteArray) : List Value := [.string s]

/-- A row of elements at an address. -/
def RdL {α : Type} (w : World) (A : Option Addr) (enc : α → List Value) (sz : Nat) (xs : List α) : Prop :=
  ∀ k x, xs[k]? = some x → A ≠ none ∧ CellsAt w ((adr A).add (k * sz)) (enc x)
structure RdSl {α : Type} (w : World) (A : Option Addr) (c : Nat) (enc : α → List Value) (sz : Nat) (xs : List α) : Prop where
  le : xs.length ≤ c
  cap : c ≤ maxLen
  rd : RdL w A enc sz xs
def RdZone (w : World) (z : DZone) (cs : List Value) : Prop := ∃ A c, RdSl w A c DEra.enc 13 z.eras ∧ cs = [.string z.name, .slice A z.eras.length c]
def RdZ (w : World) (A : Option Addr) (zs : List DZone) : Prop :=
  ∀ k z, zs[k]? = some z → A ≠ none ∧ ∃ cs, RdZone w z cs ∧ CellsAt w ((adr A).add (k * 2)) cs
structure RdSource (w : World) (Ar Az Al As : Option Addr) (cr cz cl cs : Nat) (s : DSource) : Prop where
  r : RdSl w Ar cr DRule.enc 11 s.rules
  zle : s.zones.length ≤ cz
  zcap : cz ≤ maxLen
  z : RdZ w Az s.zones
  l : RdSl w Al cl DLink.enc 2 s.links
  s : RdSl w As cs strEnc 1 s.shifts

theorem CellsAt.up {w w' : World} {ad : Addr} {cs : List Value} {B : Nat} (h : CellsAt w ad cs) (hb : Below B w w') (hB : w.heap.size ≤ B) : CellsAt w' ad cs :=
  fun j v hj => (hb.cell (Nat.lt_of_lt_of_le (World.block_lt_of_cell? w _ (h j v hj)) hB)).trans (h j v hj)
theorem RdL.up {α : Type} {w w' : World} {A : Option Addr} {enc : α → List Value} {sz : Nat} {xs : List α} (h : RdL w A enc sz xs) (hb : Below w.heap.size w w') : RdL w' A enc sz xs :=
  fun k x hk => ⟨(h k x hk).1, (h k x hk).2.up hb (Nat.le_refl _)⟩
theorem RdSl.up {α : Type} {w w' : World} {A : Option Addr} {c : Nat} {enc : α → List Value} {sz : Nat} {xs : List α} (h : RdSl w A c enc sz xs) (hb : Below w.heap.size w w') : RdSl w' A c enc sz xs :=
  ⟨h.le, h.cap, h.rd.up hb⟩
theorem RdZone.up {w w' : World} {z : DZone} {cs : List Value} (h : RdZone w z cs) (hb : Below w.heap.size w w') : RdZone w' z cs := by
  obtain ⟨A, c, h1, h2⟩ := h
  exact ⟨A, c, h1.up hb, h2⟩
theorem RdZ.up {w w' : World} {A : Option Addr} {zs : List DZone} (h : RdZ w A zs) (hb : Below w.heap.size w w') : RdZ w' A zs := fun k z hk => by
  obtain ⟨h1, cs, h2, h3⟩ := h k z hk
  exact ⟨h1, cs, h2.up hb, h3.up hb (Nat.le_refl _)⟩
theorem RdSource.up {w w' : World} {Ar Az Al As : Option Addr} {cr cz cl cs : Nat} {s : DSource} (h : RdSource w Ar Az Al As cr cz cl cs s) (hb : Below w.heap.size w w') : RdSource w' Ar Az Al As cr cz cl cs s :=
  ⟨h.r.up hb, h.zle, h.zcap, h.z.up hb, h.l.up hb, h.s.up hb⟩

section
variable {P : Program} {n : Nat} {wr : World} {ops : Array Oper} {rest : List Oper} {K : Fr → List It → Prop} {fr : Fr} {O : List It} {ty : TypeId} {pos : String} {af : Array Edge} {d : Nat}
/-- From memory that was there before the call. -/
theorem Pu_loadO1 {t sz : Nat} {x : Operand} {ad : Addr} {v : Value} [Ty P t sz false] (hx : ev fr x = some (.pointer (some ad))) 
    (h : wr.cell? ad = some v) : Pu P n wr fr O (.load t x) ty (v) :=
  Pu_load1 hx (fun _ hb _ => (hb.cell (World.block_lt_of_cell? wr _ h)).trans h)
theorem Pu_loadO1' {t sz j : Nat} {x : Operand} {ad : Addr} {cs : List Value} {v : Value} [Ty P t sz false] (hx : ev fr x = some (.pointer (some (ad.add j))))
    (h : CellsAt wr ad cs) (hv : cs[j]? = some v) : Pu P n wr fr O (.load t x) ty v :=
  Pu_loadO1 hx (h j v hv)
theorem Pu_loadON {t sz : Nat} {x : Operand} {ad : Addr} {cs : List Value} [Ty P t sz true] (hx : ev fr x = some (.pointer (some ad))) 
    (h : CellsAt wr ad cs) (hl : cs.length = sz) : Pu P n wr fr O (.load t x) ty (.agg cs.toArray) :=
  Pu_loadN hx hl (fun _ hb _ => h.up hb (Nat.le_refl _))
end
end Go.Wk
