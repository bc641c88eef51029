/- Arguments opened: Go values of the struct types as plain data; printed by genopen.py, my own program. -/
import Derived.Test.YtfhjfpikngcknaaDoorWkL
import Derived.Test.YtfhjfpikngcknaaDoorTy
namespace Go.Proofs.YtfhjfpikngcknaaDoor
open Go Go.RowKit Go.Wk Go.ChangeShapes Go.WideShapes Go.ChangeAt
structure _root_.Go.Wk.E23 where
  mk ::
  kind : Int
  set : Int
  format : Int
  years : Int
  day : Int
  base : Int
  off : Int
  at_ : Int
  deriving DecidableEq
def _root_.Go.Wk.E23.enc (d : E23) : List Value := [.int .u8 d.kind, .int .u8 d.set, .int .u8 d.format, .int .u8 d.years, .int .u8 d.day, .int .u8 d.base, .int .i8 d.off, .int .i8 d.at_]
section
variable {H : Type} {enc : TypeId × Value → H} {w : World} {sp : Nat → Bool} {held : Bool}
def _root_.Go.Wk.DDay.ok (d : DDay) : Prop := inR .i64 d.kind ∧ inR .i64 d.week ∧ inR .i64 d.day
def _root_.Go.Wk.DClock.ok (d : DClock) : Prop := inR .i64 d.sec ∧ inR .i64 d.base
def _root_.Go.Wk.DRule.ok (d : DRule) : Prop := d.name.size ≤ maxLen ∧ inR .i64 d.from_ ∧ inR .i64 d.to ∧ inR .i64 d.month ∧ DDay.ok d.day ∧ DClock.ok d.at_ ∧ inR .i64 d.save ∧ d.letter.size ≤ maxLen
def _root_.Go.Wk.DUntil.ok (d : DUntil) : Prop := inR .i64 d.year ∧ inR .i64 d.month ∧ DDay.ok d.day ∧ DClock.ok d.at_
def _root_.Go.Wk.DEra.ok (d : DEra) : Prop := inR .i64 d.off ∧ inR .i64 d.kind ∧ inR .i64 d.save ∧ d.set.size ≤ maxLen ∧ d.format.size ≤ maxLen ∧ DUntil.ok d.til
def _root_.Go.Wk.DLink.ok (d : DLink) : Prop := d.target.size ≤ maxLen ∧ d.name.size ≤ maxLen
def _root_.Go.Wk.E23.ok (d : E23) : Prop := inR .u8 d.kind ∧ inR .u8 d.set ∧ inR .u8 d.format ∧ inR .u8 d.years ∧ inR .u8 d.day ∧ inR .u8 d.base ∧ inR .i8 d.off ∧ inR .i8 d.at_
theorem rd_DDay {n : Nat} {cs : List Value} {y : DataW H × List MemPlace} (h : DataW.trod enc Tryd.prog w 0 sp held n 42 cs = some y) : ∃ d : DDay, cs = d.enc ∧ d.ok := by
  obtain ⟨hl, hf⟩ := field_of Tryd.underlying42 h
  rw [show Tryd.prog.cellsOf 42 = 3 from by kernel_rfl] at hl
  have c3 : Tryd.prog.cellsOf 3 = 1 := by kernel_rfl
  obtain ⟨a0, cs0, rfl, hl0⟩ := len_cons hl
  obtain ⟨a1, cs1, rfl, hl1⟩ := len_cons hl0
  obtain ⟨a2, cs2, rfl, hl2⟩ := len_cons hl1
  obtain rfl := List.eq_nil_of_length_eq_zero hl2
  obtain ⟨n0, y0, h0⟩ := hf 0 3 0 1 rfl c3
  obtain ⟨x0, e0, _, b0⟩ := DataW.trod_int Tryd.underlying3 h0
  injection e0 with e0 _
  subst e0
  obtain ⟨n1, y1, h1⟩ := hf 1 3 1 1 rfl c3
  obtain ⟨x1, e1, _, b1⟩ := DataW.trod_int Tryd.underlying3 h1
  injection e1 with e1 _
  subst e1
  obtain ⟨n2, y2, h2⟩ := hf 2 3 2 1 rfl c3
  obtain ⟨x2, e2, _, b2⟩ := DataW.trod_int Tryd.underlying3 h2
  injection e2 with e2 _
  subst e2
  exact ⟨⟨x0, x1, x2⟩, rfl, inR_of b0, inR_of b1, inR_of b2⟩
theorem rd_DClock {n : Nat} {cs : List Value} {y : DataW H × List MemPlace} (h : DataW.trod enc Tryd.prog w 0 sp held n 44 cs = some y) : ∃ d : DClock, cs = d.enc ∧ d.ok := by
  obtain ⟨hl, hf⟩ := field_of Tryd.underlying44 h
  rw [show Tryd.prog.cellsOf 44 = 2 from by kernel_rfl] at hl
  have c2 : Tryd.prog.cellsOf 2 = 1 := by kernel_rfl
  have c3 : Tryd.prog.cellsOf 3 = 1 := by kernel_rfl
  obtain ⟨a0, cs0, rfl, hl0⟩ := len_cons hl
  obtain ⟨a1, cs1, rfl, hl1⟩ := len_cons hl0
  obtain rfl := List.eq_nil_of_length_eq_zero hl1
  obtain ⟨n0, y0, h0⟩ := hf 0 2 0 1 rfl c2
  obtain ⟨x0, e0, _, b0⟩ := DataW.trod_int Tryd.underlying2 h0
  injection e0 with e0 _
  subst e0
  obtain ⟨n1, y1, h1⟩ := hf 1 3 1 1 rfl c3
  obtain ⟨x1, e1, _, b1⟩ := DataW.trod_int Tryd.underlying3 h1
  injection e1 with e1 _
  subst e1
  exact ⟨⟨x0, x1⟩, rfl, inR_of b0, inR_of b1⟩
theorem rd_DRule {n : Nat} {cs : List Value} {y : DataW H × List MemPlace} (h : DataW.trod enc Tryd.prog w 0 sp held n 46 cs = some y) : ∃ d : DRule, cs = d.enc ∧ d.ok := by
  obtain ⟨hl, hf⟩ := field_of Tryd.underlying46 h
  rw [show Tryd.prog.cellsOf 46 = 11 from by kernel_rfl] at hl
  have c2 : Tryd.prog.cellsOf 2 = 1 := by kernel_rfl
  have c3 : Tryd.prog.cellsOf 3 = 1 := by kernel_rfl
  have c9 : Tryd.prog.cellsOf 9 = 1 := by kernel_rfl
  have c42 : Tryd.prog.cellsOf 42 = 3 := by kernel_rfl
  have c44 : Tryd.prog.cellsOf 44 = 2 := by kernel_rfl
  obtain ⟨a0, cs0, rfl, hl0⟩ := len_cons hl
  obtain ⟨a1, cs1, rfl, hl1⟩ := len_cons hl0
  obtain ⟨a2, cs2, rfl, hl2⟩ := len_cons hl1
  obtain ⟨a3, cs3, rfl, hl3⟩ := len_cons hl2
  obtain ⟨a4, cs4, rfl, hl4⟩ := len_cons hl3
  obtain ⟨a5, cs5, rfl, hl5⟩ := len_cons hl4
  obtain ⟨a6, cs6, rfl, hl6⟩ := len_cons hl5
  obtain ⟨a7, cs7, rfl, hl7⟩ := len_cons hl6
  obtain ⟨a8, cs8, rfl, hl8⟩ := len_cons hl7
  obtain ⟨a9, cs9, rfl, hl9⟩ := len_cons hl8
  obtain ⟨a10, cs10, rfl, hl10⟩ := len_cons hl9
  obtain rfl := List.eq_nil_of_length_eq_zero hl10
  obtain ⟨n0, y0, h0⟩ := hf 0 9 0 1 rfl c9
  obtain ⟨x0, e0, _, b0⟩ := DataW.trod_string Tryd.underlying9 h0
  injection e0 with e0 _
  subst e0
  obtain ⟨n1, y1, h1⟩ := hf 1 3 1 1 rfl c3
  obtain ⟨x1, e1, _, b1⟩ := DataW.trod_int Tryd.underlying3 h1
  injection e1 with e1 _
  subst e1
  obtain ⟨n2, y2, h2⟩ := hf 2 3 2 1 rfl c3
  obtain ⟨x2, e2, _, b2⟩ := DataW.trod_int Tryd.underlying3 h2
  injection e2 with e2 _
  subst e2
  obtain ⟨n3, y3, h3⟩ := hf 3 3 3 1 rfl c3
  obtain ⟨x3, e3, _, b3⟩ := DataW.trod_int Tryd.underlying3 h3
  injection e3 with e3 _
  subst e3
  obtain ⟨n4, y4, h4⟩ := hf 4 42 4 3 rfl c42
  obtain ⟨x4, e4, b4⟩ := rd_DDay h4
  simp only [DDay.enc, List.cons.injEq, and_true] at e4
  obtain ⟨rfl, rfl, rfl⟩ := e4
  obtain ⟨n5, y5, h5⟩ := hf 5 44 7 2 rfl c44
  obtain ⟨x5, e5, b5⟩ := rd_DClock h5
  simp only [DClock.enc, List.cons.injEq, and_true] at e5
  obtain ⟨rfl, rfl⟩ := e5
  obtain ⟨n6, y6, h6⟩ := hf 6 2 9 1 rfl c2
  obtain ⟨x6, e6, _, b6⟩ := DataW.trod_int Tryd.underlying2 h6
  injection e6 with e6 _
  subst e6
  obtain ⟨n7, y7, h7⟩ := hf 7 9 10 1 rfl c9
  obtain ⟨x7, e7, _, b7⟩ := DataW.trod_string Tryd.underlying9 h7
  injection e7 with e7 _
  subst e7
  exact ⟨⟨x0, x1, x2, x3, x4, x5, x6, x7⟩, rfl, b0, inR_of b1, inR_of b2, inR_of b3, b4, b5, inR_of b6, b7⟩
theorem rd_DUntil {n : Nat} {cs : List Value} {y : DataW H × List MemPlace} (h : DataW.trod enc Tryd.prog w 0 sp held n 67 cs = some y) : ∃ d : DUntil, cs = d.enc ∧ d.ok := by
  obtain ⟨hl, hf⟩ := field_of Tryd.underlying67 h
  rw [show Tryd.prog.cellsOf 67 = 8 from by kernel_rfl] at hl
  have c3 : Tryd.prog.cellsOf 3 = 1 := by kernel_rfl
  have c4 : Tryd.prog.cellsOf 4 = 1 := by kernel_rfl
  have c42 : Tryd.prog.cellsOf 42 = 3 := by kernel_rfl
  have c44 : Tryd.prog.cellsOf 44 = 2 := by kernel_rfl
  obtain ⟨a0, cs0, rfl, hl0⟩ := len_cons hl
  obtain ⟨a1, cs1, rfl, hl1⟩ := len_cons hl0
  obtain ⟨a2, cs2, rfl, hl2⟩ := len_cons hl1
  obtain ⟨a3, cs3, rfl, hl3⟩ := len_cons hl2
  obtain ⟨a4, cs4, rfl, hl4⟩ := len_cons hl3
  obtain ⟨a5, cs5, rfl, hl5⟩ := len_cons hl4
  obtain ⟨a6, cs6, rfl, hl6⟩ := len_cons hl5
  obtain ⟨a7, cs7, rfl, hl7⟩ := len_cons hl6
  obtain rfl := List.eq_nil_of_length_eq_zero hl7
  obtain ⟨n0, y0, h0⟩ := hf 0 4 0 1 rfl c4
  obtain ⟨x0, e0, _⟩ := DataW.trod_bool Tryd.underlying4 h0
  injection e0 with e0 _
  subst e0
  obtain ⟨n1, y1, h1⟩ := hf 1 3 1 1 rfl c3
  obtain ⟨x1, e1, _, b1⟩ := DataW.trod_int Tryd.underlying3 h1
  injection e1 with e1 _
  subst e1
  obtain ⟨n2, y2, h2⟩ := hf 2 3 2 1 rfl c3
  obtain ⟨x2, e2, _, b2⟩ := DataW.trod_int Tryd.underlying3 h2
  injection e2 with e2 _
  subst e2
  obtain ⟨n3, y3, h3⟩ := hf 3 42 3 3 rfl c42
  obtain ⟨x3, e3, b3⟩ := rd_DDay h3
  simp only [DDay.enc, List.cons.injEq, and_true] at e3
  obtain ⟨rfl, rfl, rfl⟩ := e3
  obtain ⟨n4, y4, h4⟩ := hf 4 44 6 2 rfl c44
  obtain ⟨x4, e4, b4⟩ := rd_DClock h4
  simp only [DClock.enc, List.cons.injEq, and_true] at e4
  obtain ⟨rfl, rfl⟩ := e4
  exact ⟨⟨x0, x1, x2, x3, x4⟩, rfl, inR_of b1, inR_of b2, b3, b4⟩
theorem rd_DEra {n : Nat} {cs : List Value} {y : DataW H × List MemPlace} (h : DataW.trod enc Tryd.prog w 0 sp held n 69 cs = some y) : ∃ d : DEra, cs = d.enc ∧ d.ok := by
  obtain ⟨hl, hf⟩ := field_of Tryd.underlying69 h
  rw [show Tryd.prog.cellsOf 69 = 13 from by kernel_rfl] at hl
  have c2 : Tryd.prog.cellsOf 2 = 1 := by kernel_rfl
  have c3 : Tryd.prog.cellsOf 3 = 1 := by kernel_rfl
  have c9 : Tryd.prog.cellsOf 9 = 1 := by kernel_rfl
  have c67 : Tryd.prog.cellsOf 67 = 8 := by kernel_rfl
  obtain ⟨a0, cs0, rfl, hl0⟩ := len_cons hl
  obtain ⟨a1, cs1, rfl, hl1⟩ := len_cons hl0
  obtain ⟨a2, cs2, rfl, hl2⟩ := len_cons hl1
  obtain ⟨a3, cs3, rfl, hl3⟩ := len_cons hl2
  obtain ⟨a4, cs4, rfl, hl4⟩ := len_cons hl3
  obtain ⟨a5, cs5, rfl, hl5⟩ := len_cons hl4
  obtain ⟨a6, cs6, rfl, hl6⟩ := len_cons hl5
  obtain ⟨a7, cs7, rfl, hl7⟩ := len_cons hl6
  obtain ⟨a8, cs8, rfl, hl8⟩ := len_cons hl7
  obtain ⟨a9, cs9, rfl, hl9⟩ := len_cons hl8
  obtain ⟨a10, cs10, rfl, hl10⟩ := len_cons hl9
  obtain ⟨a11, cs11, rfl, hl11⟩ := len_cons hl10
  obtain ⟨a12, cs12, rfl, hl12⟩ := len_cons hl11
  obtain rfl := List.eq_nil_of_length_eq_zero hl12
  obtain ⟨n0, y0, h0⟩ := hf 0 2 0 1 rfl c2
  obtain ⟨x0, e0, _, b0⟩ := DataW.trod_int Tryd.underlying2 h0
  injection e0 with e0 _
  subst e0
  obtain ⟨n1, y1, h1⟩ := hf 1 3 1 1 rfl c3
  obtain ⟨x1, e1, _, b1⟩ := DataW.trod_int Tryd.underlying3 h1
  injection e1 with e1 _
  subst e1
  obtain ⟨n2, y2, h2⟩ := hf 2 2 2 1 rfl c2
  obtain ⟨x2, e2, _, b2⟩ := DataW.trod_int Tryd.underlying2 h2
  injection e2 with e2 _
  subst e2
  obtain ⟨n3, y3, h3⟩ := hf 3 9 3 1 rfl c9
  obtain ⟨x3, e3, _, b3⟩ := DataW.trod_string Tryd.underlying9 h3
  injection e3 with e3 _
  subst e3
  obtain ⟨n4, y4, h4⟩ := hf 4 9 4 1 rfl c9
  obtain ⟨x4, e4, _, b4⟩ := DataW.trod_string Tryd.underlying9 h4
  injection e4 with e4 _
  subst e4
  obtain ⟨n5, y5, h5⟩ := hf 5 67 5 8 rfl c67
  obtain ⟨x5, e5, b5⟩ := rd_DUntil h5
  simp only [DUntil.enc, List.cons.injEq, and_true] at e5
  obtain ⟨rfl, rfl, rfl, rfl, rfl, rfl, rfl, rfl⟩ := e5
  exact ⟨⟨x0, x1, x2, x3, x4, x5⟩, rfl, inR_of b0, inR_of b1, inR_of b2, b3, b4, b5⟩
theorem rd_DLink {n : Nat} {cs : List Value} {y : DataW H × List MemPlace} (h : DataW.trod enc Tryd.prog w 0 sp held n 39 cs = some y) : ∃ d : DLink, cs = d.enc ∧ d.ok := by
  obtain ⟨hl, hf⟩ := field_of Tryd.underlying39 h
  rw [show Tryd.prog.cellsOf 39 = 2 from by kernel_rfl] at hl
  have c9 : Tryd.prog.cellsOf 9 = 1 := by kernel_rfl
  obtain ⟨a0, cs0, rfl, hl0⟩ := len_cons hl
  obtain ⟨a1, cs1, rfl, hl1⟩ := len_cons hl0
  obtain rfl := List.eq_nil_of_length_eq_zero hl1
  obtain ⟨n0, y0, h0⟩ := hf 0 9 0 1 rfl c9
  obtain ⟨x0, e0, _, b0⟩ := DataW.trod_string Tryd.underlying9 h0
  injection e0 with e0 _
  subst e0
  obtain ⟨n1, y1, h1⟩ := hf 1 9 1 1 rfl c9
  obtain ⟨x1, e1, _, b1⟩ := DataW.trod_string Tryd.underlying9 h1
  injection e1 with e1 _
  subst e1
  exact ⟨⟨x0, x1⟩, rfl, b0, b1⟩
theorem rd_E23 {n : Nat} {cs : List Value} {y : DataW H × List MemPlace} (h : DataW.trod enc Tryd.prog w 0 sp held n 65 cs = some y) : ∃ d : E23, cs = d.enc ∧ d.ok := by
  obtain ⟨hl, hf⟩ := field_of Tryd.underlying65 h
  rw [show Tryd.prog.cellsOf 65 = 8 from by kernel_rfl] at hl
  have c5 : Tryd.prog.cellsOf 5 = 1 := by kernel_rfl
  have c63 : Tryd.prog.cellsOf 63 = 1 := by kernel_rfl
  obtain ⟨a0, cs0, rfl, hl0⟩ := len_cons hl
  obtain ⟨a1, cs1, rfl, hl1⟩ := len_cons hl0
  obtain ⟨a2, cs2, rfl, hl2⟩ := len_cons hl1
  obtain ⟨a3, cs3, rfl, hl3⟩ := len_cons hl2
  obtain ⟨a4, cs4, rfl, hl4⟩ := len_cons hl3
  obtain ⟨a5, cs5, rfl, hl5⟩ := len_cons hl4
  obtain ⟨a6, cs6, rfl, hl6⟩ := len_cons hl5
  obtain ⟨a7, cs7, rfl, hl7⟩ := len_cons hl6
  obtain rfl := List.eq_nil_of_length_eq_zero hl7
  obtain ⟨n0, y0, h0⟩ := hf 0 5 0 1 rfl c5
  obtain ⟨x0, e0, _, b0⟩ := DataW.trod_int Tryd.underlying5 h0
  injection e0 with e0 _
  subst e0
  obtain ⟨n1, y1, h1⟩ := hf 1 5 1 1 rfl c5
  obtain ⟨x1, e1, _, b1⟩ := DataW.trod_int Tryd.underlying5 h1
  injection e1 with e1 _
  subst e1
  obtain ⟨n2, y2, h2⟩ := hf 2 5 2 1 rfl c5
  obtain ⟨x2, e2, _, b2⟩ := DataW.trod_int Tryd.underlying5 h2
  injection e2 with e2 _
  subst e2
  obtain ⟨n3, y3, h3⟩ := hf 3 5 3 1 rfl c5
  obtain ⟨x3, e3, _, b3⟩ := DataW.trod_int Tryd.underlying5 h3
  injection e3 with e3 _
  subst e3
  obtain ⟨n4, y4, h4⟩ := hf 4 5 4 1 rfl c5
  obtain ⟨x4, e4, _, b4⟩ := DataW.trod_int Tryd.underlying5 h4
  injection e4 with e4 _
  subst e4
  obtain ⟨n5, y5, h5⟩ := hf 5 5 5 1 rfl c5
  obtain ⟨x5, e5, _, b5⟩ := DataW.trod_int Tryd.underlying5 h5
  injection e5 with e5 _
  subst e5
  obtain ⟨n6, y6, h6⟩ := hf 6 63 6 1 rfl c63
  obtain ⟨x6, e6, _, b6⟩ := DataW.trod_int Tryd.underlying63 h6
  injection e6 with e6 _
  subst e6
  obtain ⟨n7, y7, h7⟩ := hf 7 63 7 1 rfl c63
  obtain ⟨x7, e7, _, b7⟩ := DataW.trod_int Tryd.underlying63 h7
  injection e7 with e7 _
  subst e7
  exact ⟨⟨x0, x1, x2, x3, x4, x5, x6, x7⟩, rfl, inR_of b0, inR_of b1, inR_of b2, inR_of b3, inR_of b4, inR_of b5, inR_of b6, inR_of b7⟩
end
end Go.Proofs.YtfhjfpikngcknaaDoor
