/- Arguments opened: Go values of the struct types as plain data; printed by genopen.py, my own program. Arguments opened: sources. Contract: analemmalaw25.AcceptFaults. The way from a contract 'Does' to a given row that lists package-level variables. What a list of laid variables says of cells: plain data and functions by name, cell by cell. -/
import Derived.Test.YtceekohkjgiabaaGreatDoorQ05
import Derived.Test.YtceekohkjgiabaaGreatDoorQ08
import Derived.Test.YtceekohkjgiabaaGreatDoorQ26
import Derived.Test.YtceekohkjgiabaaGreatDoorQ44
import Derived.Test.YtceekohkjgiabaaGreatDoorQ45
import Derived.Test.YtceekohkjgiabaaGreatDoorQ46
import Derived.LaidHandle
import Derived.LaidLaws
import Derived.LaidSub
import Derived.Stop.Joined
import Derived.LaidMore
import Derived.OpenShut
import Derived.ChangeArms
import Derived.Handed
set_option maxHeartbeats 4000000
set_option linter.unusedVariables false
set_option linter.unusedSimpArgs false
namespace Go.Proofs.YtceekohkjgiabaaGreatDoor
open Go Go.RowKit Go.Wk Go.ChangeShapes Go.WideShapes Go.ChangeAt
section
variable {H : Type} {enc : TypeId × Value → H} {w : World} {sp : Nat → Bool} {held : Bool}
def _root_.Go.Wk.DDay.ok (d : DDay) : Prop := inR .i64 d.kind ∧ inR .i64 d.week ∧ inR .i64 d.day
def _root_.Go.Wk.DClock.ok (d : DClock) : Prop := inR .i64 d.sec ∧ inR .i64 d.base
def _root_.Go.Wk.DRule.ok (d : DRule) : Prop := d.name.size ≤ maxLen ∧ inR .i64 d.from_ ∧ inR .i64 d.to ∧ inR .i64 d.month ∧ DDay.ok d.day ∧ DClock.ok d.at_ ∧ inR .i64 d.save ∧ d.letter.size ≤ maxLen
def _root_.Go.Wk.DUntil.ok (d : DUntil) : Prop := inR .i64 d.year ∧ inR .i64 d.month ∧ DDay.ok d.day ∧ DClock.ok d.at_
def _root_.Go.Wk.DEra.ok (d : DEra) : Prop := inR .i64 d.off ∧ inR .i64 d.kind ∧ inR .i64 d.save ∧ d.set.size ≤ maxLen ∧ d.format.size ≤ maxLen ∧ DUntil.ok d.til
def _root_.Go.Wk.DLink.ok (d : DLink) : Prop := d.target.size ≤ maxLen ∧ d.name.size ≤ maxLen
theorem rd_DDay {n : Nat} {cs : List Value} {y : DataW H × List MemPlace} (h : DataW.trod enc Tryz.prog w 0 sp held n 44 cs = some y) : ∃ d : DDay, cs = d.enc ∧ d.ok := by
 obtain ⟨hl, hf⟩ := field_of Tryz.underlying44 h
 rw [show Tryz.prog.cellsOf 44 = 3 from by kernel_rfl] at hl
 have c3 : Tryz.prog.cellsOf 3 = 1 := by kernel_rfl
 obtain ⟨a0, cs0, rfl, hl0⟩ := len_cons hl
 obtain ⟨a1, cs1, rfl, hl1⟩ := len_cons hl0
 obtain ⟨a2, cs2, rfl, hl2⟩ := len_cons hl1
 obtain rfl := List.eq_nil_of_length_eq_zero hl2
 obtain ⟨n0, y0, h0⟩ := hf 0 3 0 1 rfl c3
 obtain ⟨x0, e0, _, b0⟩ := DataW.trod_int Tryz.underlying3 h0
 injection e0 with e0 _
 subst e0
 obtain ⟨n1, y1, h1⟩ := hf 1 3 1 1 rfl c3
 obtain ⟨x1, e1, _, b1⟩ := DataW.trod_int Tryz.underlying3 h1
 injection e1 with e1 _
 subst e1
 obtain ⟨n2, y2, h2⟩ := hf 2 3 2 1 rfl c3
 obtain ⟨x2, e2, _, b2⟩ := DataW.trod_int Tryz.underlying3 h2
 injection e2 with e2 _
 subst e2
 exact ⟨⟨x0, x1, x2⟩, rfl, inR_of b0, inR_of b1, inR_of b2⟩
theorem rd_DClock {n : Nat} {cs : List Value} {y : DataW H × List MemPlace} (h : DataW.trod enc Tryz.prog w 0 sp held n 46 cs = some y) : ∃ d : DClock, cs = d.enc ∧ d.ok := by
 obtain ⟨hl, hf⟩ := field_of Tryz.underlying46 h
 rw [show Tryz.prog.cellsOf 46 = 2 from by kernel_rfl] at hl
 have c2 : Tryz.prog.cellsOf 2 = 1 := by kernel_rfl
 have c3 : Tryz.prog.cellsOf 3 = 1 := by kernel_rfl
 obtain ⟨a0, cs0, rfl, hl0⟩ := len_cons hl
 obtain ⟨a1, cs1, rfl, hl1⟩ := len_cons hl0
 obtain rfl := List.eq_nil_of_length_eq_zero hl1
 obtain ⟨n0, y0, h0⟩ := hf 0 2 0 1 rfl c2
 obtain ⟨x0, e0, _, b0⟩ := DataW.trod_int Tryz.underlying2 h0
 injection e0 with e0 _
 subst e0
 obtain ⟨n1, y1, h1⟩ := hf 1 3 1 1 rfl c3
 obtain ⟨x1, e1, _, b1⟩ := DataW.trod_int Tryz.underlying3 h1
 injection e1 with e1 _
 subst e1
 exact ⟨⟨x0, x1⟩, rfl, inR_of b0, inR_of b1⟩
theorem rd_DRule {n : Nat} {cs : List Value} {y : DataW H × List MemPlace} (h : DataW.trod enc Tryz.prog w 0 sp held n 48 cs = some y) : ∃ d : DRule, cs = d.enc ∧ d.ok := by
 obtain ⟨hl, hf⟩ := field_of Tryz.underlying48 h
 rw [show Tryz.prog.cellsOf 48 = 11 from by kernel_rfl] at hl
 have c2 : Tryz.prog.cellsOf 2 = 1 := by kernel_rfl
 have c3 : Tryz.prog.cellsOf 3 = 1 := by kernel_rfl
 have c9 : Tryz.prog.cellsOf 9 = 1 := by kernel_rfl
 have c44 : Tryz.prog.cellsOf 44 = 3 := by kernel_rfl
 have c46 : Tryz.prog.cellsOf 46 = 2 := by kernel_rfl
 obtain ⟨a0, cs0, rfl, hl0⟩ := len_cons hl
 obtain ⟨a1, cs1, rfl, hl1⟩ := len_cons hl0
 obtain ⟨a2, cs2, rfl, hl2⟩ := len_cons hl1
 obtain ⟨a3, cs3, rfl, hl3⟩ := len_cons hl2
 obtain ⟨a4, cs4, rfl, hl4⟩ := len_cons hl3
 obtain ⟨a5, cs5, rfl, hl5⟩ := len_cons hl4
 obtain ⟨a6, cs6, rfl, hl6⟩ := len_cons hl5
 obtain ⟨a7, cs7, rfl, hl7⟩ := len_cons hl6
 obtain ⟨a8, cs8, rfl, hl8⟩ := len_cons hl7
 obtain ⟨a9, cs9, rfl, hl9⟩ := len_cons hl8
 obtain ⟨a10, cs10, rfl, hl10⟩ := len_cons hl9
 obtain rfl := List.eq_nil_of_length_eq_zero hl10
 obtain ⟨n0, y0, h0⟩ := hf 0 9 0 1 rfl c9
 obtain ⟨x0, e0, _, b0⟩ := DataW.trod_string Tryz.underlying9 h0
 injection e0 with e0 _
 subst e0
 obtain ⟨n1, y1, h1⟩ := hf 1 3 1 1 rfl c3
 obtain ⟨x1, e1, _, b1⟩ := DataW.trod_int Tryz.underlying3 h1
 injection e1 with e1 _
 subst e1
 obtain ⟨n2, y2, h2⟩ := hf 2 3 2 1 rfl c3
 obtain ⟨x2, e2, _, b2⟩ := DataW.trod_int Tryz.underlying3 h2
 injection e2 with e2 _
 subst e2
 obtain ⟨n3, y3, h3⟩ := hf 3 3 3 1 rfl c3
 obtain ⟨x3, e3, _, b3⟩ := DataW.trod_int Tryz.underlying3 h3
 injection e3 with e3 _
 subst e3
 obtain ⟨n4, y4, h4⟩ := hf 4 44 4 3 rfl c44
 obtain ⟨x4, e4, b4⟩ := rd_DDay h4
 simp only [DDay.enc, List.cons.injEq, and_true] at e4
 obtain ⟨rfl, rfl, rfl⟩ := e4
 obtain ⟨n5, y5, h5⟩ := hf 5 46 7 2 rfl c46
 obtain ⟨x5, e5, b5⟩ := rd_DClock h5
 simp only [DClock.enc, List.cons.injEq, and_true] at e5
 obtain ⟨rfl, rfl⟩ := e5
 obtain ⟨n6, y6, h6⟩ := hf 6 2 9 1 rfl c2
 obtain ⟨x6, e6, _, b6⟩ := DataW.trod_int Tryz.underlying2 h6
 injection e6 with e6 _
 subst e6
 obtain ⟨n7, y7, h7⟩ := hf 7 9 10 1 rfl c9
 obtain ⟨x7, e7, _, b7⟩ := DataW.trod_string Tryz.underlying9 h7
 injection e7 with e7 _
 subst e7
 exact ⟨⟨x0, x1, x2, x3, x4, x5, x6, x7⟩, rfl, b0, inR_of b1, inR_of b2, inR_of b3, b4, b5, inR_of b6, b7⟩
theorem rd_DUntil {n : Nat} {cs : List Value} {y : DataW H × List MemPlace} (h : DataW.trod enc Tryz.prog w 0 sp held n 54 cs = some y) : ∃ d : DUntil, cs = d.enc ∧ d.ok := by
 obtain ⟨hl, hf⟩ := field_of Tryz.underlying54 h
 rw [show Tryz.prog.cellsOf 54 = 8 from by kernel_rfl] at hl
 have c3 : Tryz.prog.cellsOf 3 = 1 := by kernel_rfl
 have c4 : Tryz.prog.cellsOf 4 = 1 := by kernel_rfl
 have c44 : Tryz.prog.cellsOf 44 = 3 := by kernel_rfl
 have c46 : Tryz.prog.cellsOf 46 = 2 := by kernel_rfl
 obtain ⟨a0, cs0, rfl, hl0⟩ := len_cons hl
 obtain ⟨a1, cs1, rfl, hl1⟩ := len_cons hl0
 obtain ⟨a2, cs2, rfl, hl2⟩ := len_cons hl1
 obtain ⟨a3, cs3, rfl, hl3⟩ := len_cons hl2
 obtain ⟨a4, cs4, rfl, hl4⟩ := len_cons hl3
 obtain ⟨a5, cs5, rfl, hl5⟩ := len_cons hl4
 obtain ⟨a6, cs6, rfl, hl6⟩ := len_cons hl5
 obtain ⟨a7, cs7, rfl, hl7⟩ := len_cons hl6
 obtain rfl := List.eq_nil_of_length_eq_zero hl7
 obtain ⟨n0, y0, h0⟩ := hf 0 4 0 1 rfl c4
 obtain ⟨x0, e0, _⟩ := DataW.trod_bool Tryz.underlying4 h0
 injection e0 with e0 _
 subst e0
 obtain ⟨n1, y1, h1⟩ := hf 1 3 1 1 rfl c3
 obtain ⟨x1, e1, _, b1⟩ := DataW.trod_int Tryz.underlying3 h1
 injection e1 with e1 _
 subst e1
 obtain ⟨n2, y2, h2⟩ := hf 2 3 2 1 rfl c3
 obtain ⟨x2, e2, _, b2⟩ := DataW.trod_int Tryz.underlying3 h2
 injection e2 with e2 _
 subst e2
 obtain ⟨n3, y3, h3⟩ := hf 3 44 3 3 rfl c44
 obtain ⟨x3, e3, b3⟩ := rd_DDay h3
 simp only [DDay.enc, List.cons.injEq, and_true] at e3
 obtain ⟨rfl, rfl, rfl⟩ := e3
 obtain ⟨n4, y4, h4⟩ := hf 4 46 6 2 rfl c46
 obtain ⟨x4, e4, b4⟩ := rd_DClock h4
 simp only [DClock.enc, List.cons.injEq, and_true] at e4
 obtain ⟨rfl, rfl⟩ := e4
 exact ⟨⟨x0, x1, x2, x3, x4⟩, rfl, inR_of b1, inR_of b2, b3, b4⟩
theorem rd_DEra {n : Nat} {cs : List Value} {y : DataW H × List MemPlace} (h : DataW.trod enc Tryz.prog w 0 sp held n 56 cs = some y) : ∃ d : DEra, cs = d.enc ∧ d.ok := by
 obtain ⟨hl, hf⟩ := field_of Tryz.underlying56 h
 rw [show Tryz.prog.cellsOf 56 = 13 from by kernel_rfl] at hl
 have c2 : Tryz.prog.cellsOf 2 = 1 := by kernel_rfl
 have c3 : Tryz.prog.cellsOf 3 = 1 := by kernel_rfl
 have c9 : Tryz.prog.cellsOf 9 = 1 := by kernel_rfl
 have c54 : Tryz.prog.cellsOf 54 = 8 := by kernel_rfl
 obtain ⟨a0, cs0, rfl, hl0⟩ := len_cons hl
 obtain ⟨a1, cs1, rfl, hl1⟩ := len_cons hl0
 obtain ⟨a2, cs2, rfl, hl2⟩ := len_cons hl1
 obtain ⟨a3, cs3, rfl, hl3⟩ := len_cons hl2
 obtain ⟨a4, cs4, rfl, hl4⟩ := len_cons hl3
 obtain ⟨a5, cs5, rfl, hl5⟩ := len_cons hl4
 obtain ⟨a6, cs6, rfl, hl6⟩ := len_cons hl5
 obtain ⟨a7, cs7, rfl, hl7⟩ := len_cons hl6
 obtain ⟨a8, cs8, rfl, hl8⟩ := len_cons hl7
 obtain ⟨a9, cs9, rfl, hl9⟩ := len_cons hl8
 obtain ⟨a10, cs10, rfl, hl10⟩ := len_cons hl9
 obtain ⟨a11, cs11, rfl, hl11⟩ := len_cons hl10
 obtain ⟨a12, cs12, rfl, hl12⟩ := len_cons hl11
 obtain rfl := List.eq_nil_of_length_eq_zero hl12
 obtain ⟨n0, y0, h0⟩ := hf 0 2 0 1 rfl c2
 obtain ⟨x0, e0, _, b0⟩ := DataW.trod_int Tryz.underlying2 h0
 injection e0 with e0 _
 subst e0
 obtain ⟨n1, y1, h1⟩ := hf 1 3 1 1 rfl c3
 obtain ⟨x1, e1, _, b1⟩ := DataW.trod_int Tryz.underlying3 h1
 injection e1 with e1 _
 subst e1
 obtain ⟨n2, y2, h2⟩ := hf 2 2 2 1 rfl c2
 obtain ⟨x2, e2, _, b2⟩ := DataW.trod_int Tryz.underlying2 h2
 injection e2 with e2 _
 subst e2
 obtain ⟨n3, y3, h3⟩ := hf 3 9 3 1 rfl c9
 obtain ⟨x3, e3, _, b3⟩ := DataW.trod_string Tryz.underlying9 h3
 injection e3 with e3 _
 subst e3
 obtain ⟨n4, y4, h4⟩ := hf 4 9 4 1 rfl c9
 obtain ⟨x4, e4, _, b4⟩ := DataW.trod_string Tryz.underlying9 h4
 injection e4 with e4 _
 subst e4
 obtain ⟨n5, y5, h5⟩ := hf 5 54 5 8 rfl c54
 obtain ⟨x5, e5, b5⟩ := rd_DUntil h5
 simp only [DUntil.enc, List.cons.injEq, and_true] at e5
 obtain ⟨rfl, rfl, rfl, rfl, rfl, rfl, rfl, rfl⟩ := e5
 exact ⟨⟨x0, x1, x2, x3, x4, x5⟩, rfl, inR_of b0, inR_of b1, inR_of b2, b3, b4, b5⟩
theorem rd_DLink {n : Nat} {cs : List Value} {y : DataW H × List MemPlace} (h : DataW.trod enc Tryz.prog w 0 sp held n 60 cs = some y) : ∃ d : DLink, cs = d.enc ∧ d.ok := by
 obtain ⟨hl, hf⟩ := field_of Tryz.underlying60 h
 rw [show Tryz.prog.cellsOf 60 = 2 from by kernel_rfl] at hl
 have c9 : Tryz.prog.cellsOf 9 = 1 := by kernel_rfl
 obtain ⟨a0, cs0, rfl, hl0⟩ := len_cons hl
 obtain ⟨a1, cs1, rfl, hl1⟩ := len_cons hl0
 obtain rfl := List.eq_nil_of_length_eq_zero hl1
 obtain ⟨n0, y0, h0⟩ := hf 0 9 0 1 rfl c9
 obtain ⟨x0, e0, _, b0⟩ := DataW.trod_string Tryz.underlying9 h0
 injection e0 with e0 _
 subst e0
 obtain ⟨n1, y1, h1⟩ := hf 1 9 1 1 rfl c9
 obtain ⟨x1, e1, _, b1⟩ := DataW.trod_string Tryz.underlying9 h1
 injection e1 with e1 _
 subst e1
 exact ⟨⟨x0, x1⟩, rfl, b0, b1⟩
end
section
variable {H : Type} {enc : TypeId × Value → H} {w : World} {sp : Nat → Bool} {held : Bool}
def _root_.Go.Wk.DZone.ok (z : DZone) : Prop := z.name.size ≤ maxLen ∧ ∀ e ∈ z.eras, e.ok
def _root_.Go.Wk.DSource.ok (s : DSource) : Prop := (∀ r ∈ s.rules, r.ok) ∧ (∀ z ∈ s.zones, z.ok) ∧ (∀ l ∈ s.links, l.ok) ∧ ∀ x ∈ s.shifts, x.size ≤ maxLen
theorem rd_str {n : Nat} {cs : List Value} {y : DataW H × List MemPlace} (h : DataW.trod enc Tryz.prog w 0 sp held n 9 cs = some y) : ∃ d : ByteArray, cs = strEnc d ∧ d.size ≤ maxLen := by
 obtain ⟨x, e, _, b⟩ := DataW.trod_string Tryz.underlying9 h
 exact ⟨x, e, b⟩
theorem rd_DZone {n : Nat} {cs : List Value} {y : DataW H × List MemPlace} (h : DataW.trod enc Tryz.prog w 0 sp held n 51 cs = some y) : ∃ z : DZone, RdZone w z cs ∧ z.ok := by
 obtain ⟨hl, hf⟩ := field_of Tryz.underlying51 h
 rw [show Tryz.prog.cellsOf 51 = 2 from by kernel_rfl] at hl
 obtain ⟨a0, cs0, rfl, hl0⟩ := len_cons hl
 obtain ⟨a1, cs1, rfl, hl1⟩ := len_cons hl0
 obtain rfl := List.eq_nil_of_length_eq_zero hl1
 obtain ⟨n0, y0, h0⟩ := hf 0 9 0 1 rfl (by kernel_rfl)
 obtain ⟨n1, y1, h1⟩ := hf 1 49 1 1 rfl (by kernel_rfl)
 obtain ⟨x0, e0, b0⟩ := rd_str h0
 simp only [List.drop, List.take, strEnc, List.cons.injEq, and_true] at e0
 subst e0
 obtain ⟨A, l, c, rfl, h2, h3⟩ := slice_rd Tryz.underlying49 DEra.enc DEra.ok (sz := 13) (by kernel_rfl) (fun n cs y h => rd_DEra h) h1
 exact ⟨⟨x0, l⟩, ⟨A, c, h2, rfl⟩, b0, h3⟩
set_option maxRecDepth 100000 in
theorem open_source {v : Value} {r : Reach} {b0 : Nat} {d : DataW H} {ps : List MemPlace} (hv : Value.okWide Tryz.prog w r b0 27 v) (h : DataW.Trod enc Tryz.prog w 0 sp held 27 v d ps) :
  ∃ Ar Az Al As cr cz cl cs s, v = srcV Ar Az Al As cr cz cl cs s ∧ RdSource w Ar Az Al As cr cz cl cs s ∧ s.ok := by
 obtain ⟨vs, rfl, hsz⟩ := okWide_struct Tryz.underlying27 hv
 obtain ⟨fuel, h⟩ := h
 obtain ⟨hl, hf⟩ := field_of Tryz.underlying27 h
 rw [show Tryz.prog.cellsOf 27 = 4 from by kernel_rfl] at hl
 obtain ⟨vs⟩ := vs
 simp only [Value.cells] at hl hf
 obtain ⟨a0, cs0, rfl, hl0⟩ := len_cons hl
 obtain ⟨a1, cs1, rfl, hl1⟩ := len_cons hl0
 obtain ⟨a2, cs2, rfl, hl2⟩ := len_cons hl1
 obtain ⟨a3, cs3, rfl, hl3⟩ := len_cons hl2
 obtain rfl := List.eq_nil_of_length_eq_zero hl3
 obtain ⟨n0, y0, h0⟩ := hf 0 22 0 1 rfl (by kernel_rfl)
 obtain ⟨n1, y1, h1⟩ := hf 1 23 1 1 rfl (by kernel_rfl)
 obtain ⟨n2, y2, h2⟩ := hf 2 24 2 1 rfl (by kernel_rfl)
 obtain ⟨n3, y3, h3⟩ := hf 3 25 3 1 rfl (by kernel_rfl)
 obtain ⟨Ar, lr, cr, rfl, r1, r2⟩ := slice_rd Tryz.underlying22 DRule.enc DRule.ok (sz := 11) (by kernel_rfl) (fun n cs y h => rd_DRule h) h0
 obtain ⟨Az, lz, cz, rfl, z1, z2, z3⟩ := slice_of Tryz.underlying23 (fun (z : DZone) cs => RdZone w z cs ∧ z.ok) (fun n cs y h => rd_DZone h) h1
 obtain ⟨Al, ll, cl, rfl, l1, l2⟩ := slice_rd Tryz.underlying24 DLink.enc DLink.ok (sz := 2) (by kernel_rfl) (fun n cs y h => rd_DLink h) h2
 obtain ⟨As, ls, cs, rfl, s1, s2⟩ := slice_rd Tryz.underlying25 strEnc (fun d => d.size ≤ maxLen) (sz := 1) (by kernel_rfl) (fun n cs y h => rd_str h) h3
 rw [show Tryz.prog.cellsOf 51 = 2 from by kernel_rfl] at z3
 refine ⟨Ar, Az, Al, As, cr, cz, cl, cs, ⟨lr, lz, ll, ls⟩, rfl, ⟨r1, z1, z2, fun k z hk => ?_, l1, s1⟩, r2, fun z hz => ?_, l2, s2⟩
 ·obtain ⟨h4, cs', ⟨h5, _⟩, h6⟩ := z3 k z hk
  exact ⟨h4, cs', h5, h6⟩
 ·obtain ⟨k, hk⟩ := List.getElem?_of_mem hz
  obtain ⟨_, _, ⟨_, h5⟩, _⟩ := z3 k z hk
  exact h5
end
attribute [local irreducible] W RL Does thenQ blockQ retQ Calls Pu Stp RD Qy Ay DoesIn
theorem rfewS : RfewS := fun Ar Az Al As cr cz cl cs a z Ae ce w hA hE hS hV hel hZ hH => rfew25_spec Ar Az Al As cr cz cl cs a z Ae ce w hA hE hS hV hel hZ hH
theorem longB_no {l : List ByteArray} (h : longB l = false) {s : ByteArray} (hs : s ∈ l) : s.size ≤ 1000000000 := by
 unfold longB at h
 rw [List.any_eq_false] at h
 have := h s hs
 simp only [decide_eq_true_eq] at this
 omega
theorem few_src {a : DSource} (h : fewLD a = true) : SrcOk a := by
 unfold fewLD at h
 simp only [Bool.and_eq_true, Bool.not_eq_true', Bool.or_eq_false_iff, decide_eq_false_iff_not] at h
 obtain ⟨⟨h1, h2, h3, h4⟩, h5, h6, h7, h8⟩ := h
 rw [List.any_eq_false] at h5 h6 h8
 refine ⟨by omega, by omega, by omega, by omega, fun r hr => ?_, fun z hz => ?_, fun l hl => ?_⟩
 ·have h9 : longB [r.name, r.letter] = false := by simpa [ruL] using h5 r hr
  exact ⟨longB_no h9 (by simp), longB_no h9 (by simp)⟩
 ·have h9 : znL z = false := by simpa using h6 z hz
  unfold znL at h9
  simp only [Bool.or_eq_false_iff, decide_eq_false_iff_not] at h9
  obtain ⟨k1, k2, k3⟩ := h9
  rw [List.any_eq_false] at k3
  refine ⟨longB_no k2 (by simp), by omega, fun e he => ?_⟩
  have k4 : longB [e.set, e.format] = false := by simpa [erL] using k3 e he
  exact ⟨longB_no k4 (by simp), longB_no k4 (by simp)⟩
 ·have h9 : longB [l.target, l.name] = false := by simpa [lkL] using h8 l hl
  exact ⟨longB_no h9 (by simp), longB_no h9 (by simp)⟩
theorem few_acc {w : World} {Ar Az Al As : Option Addr} {cr cz cl cs : Nat} {a : DSource} (hL : LibW w) (hG : Glob w) (hA : RdSource w Ar Az Al As cr cz cl cs a) (hok : a.ok) (h : fewLD a = true) : AccOk w Ar Az Al As cr cz cl cs a where
 L := hL
 G := hG
 A := hA
 S := few_src h
 V := fun r hr => inR_i64.1 (hok.1 r hr).2.2.2.2.2.2.1
 Z := fun z hz e he => ⟨inR_i64.1 ((hok.2.1 z hz).2 e he).1, inR_i64.1 ((hok.2.1 z hz).2 e he).2.2.1, inR_i64.1 ((hok.2.1 z hz).2 e he).2.1, (((few_src h).zs z hz).2.2 e he).2⟩
theorem PuFaults250 {G : Prop} (h : G := by (first | (apply Pu_eqlEB (i := (⟨p1, p2, p3⟩ : DPlace)) (j := (⟨p1, p2, p3⟩ : DPlace)) (enc := DPlace.enc); rfl; rfl; exact decide_eq_true rfl) | (apply Pu_eqlEB (i := (⟨q1, q2, q3⟩ : DPlace)) (j := (⟨q1, q2, q3⟩ : DPlace)) (enc := DPlace.enc); rfl; rfl; exact decide_eq_true rfl) | (apply Pu_eqlB; rfl; rfl; exact decide_eq_true rfl))) : G := h
theorem QyFaults250 {G : Prop} (h : G := by first | (apply Qy_y; rfl; exact PuFaults250) | exact QyA) : G := h
theorem QFFaults250 {G : Prop} (h : G := by repeat (first | exact QF.nil | (apply QF.mk; rfl; rfl; decide +kernel; exact QyFaults250))) : G := h
set_option maxHeartbeats 2000000 in
theorem acceptFaults_spec (Ar Az Al As : Option Addr) (cr cz cl cs : Nat) (a : DSource) (f : Int) (w : World) (hL : LibW w) (hG : Glob w) (hA : RdSource w Ar Az Al As cr cz cl cs a) (hok : a.ok) :
  Does Tryz.prog 3 [srcV Ar Az Al As cr cz cl cs a, .int .i64 f] w (fun v O => v = .bool true ∧ O = []) := by
 have hfw := fun w' (hw : Bel w.heap.size w w') => few25_spec Ar Az Al As cr cz cl cs a w' (hA.up hw)
 have hwk := fun w' (hw : Bel w.heap.size w w') => works25_spec w' (hL.up hw) (hG.up hw)
 obtain ⟨b, hb⟩ : ∃ b, fewLD a = b := ⟨_, rfl⟩
 rw [hb] at hfw
 cases b with
 | false =>
  refine Does_of_W Tryz.func3 rfl rfl rfl rfl ?_
  repeat (first | refine walk ?_ | (refine jg ?_; (try intro F); (first | (refine callE hfw ?_) | (refine callE hwk ?_) | (refine bx ?_; intro bk) | (refine stA ?_)); refine fin ?_) | (refine jn ?_; (try intro F); (first | (refine bx ?_; intro bk) | (refine stA ?_) | (apply Stp_pu; exact PuA)); refine fin ?_) | (apply RD_W; rfl; intro bk))
  exact rtA
 | true =>
  have hAc := few_acc hL hG hA hok hb
  have h1 := fun w' (hw : Bel w.heap.size w w') => accS (hAc.up hw)
  have h2 := fun w' (hw : Bel w.heap.size w w') => raccS rfewS (hAc.up hw)
  have h3 := fun w' (hw : Bel w.heap.size w w') => inA_spec Ar Az Al As cr cz cl cs a f w' (hAc.up hw)
  have h4 := fun w' (hw : Bel w.heap.size w w') => rIn25_spec rfewS Ar Az Al As cr cz cl cs a f w' (hAc.up hw)
  have h5 := fun w' (hw : Bel w.heap.size w w') => formsA_spec Ar Az Al As cr cz cl cs a w' (hAc.up hw)
  have h6 := fun w' (hw : Bel w.heap.size w w') => rforms25_spec rfewS Ar Az Al As cr cz cl cs a w' (hAc.up hw)
  clear hb hAc
  rw [ptV_eq] at h1 h2 h3 h4
  generalize ptP (accD a) = x1 at *
  generalize ptP (inD a f) = x2 at *
  generalize formsD a = fs at *
  obtain ⟨⟨p1, p2, p3⟩, e1⟩ := x1
  obtain ⟨⟨q1, q2, q3⟩, e2⟩ := x2
  simp only [plV, DPlace.enc] at h1 h2 h3 h4
  refine Does_of_W Tryz.func3 rfl rfl rfl rfl ?_
  repeat (first | (apply RL_pu; rfl; exact PuFaults250) | (apply RD_Q; rfl; rfl; decide +kernel; rfl; rfl; exact QyFaults250) | refine walk1 ?_ | (refine jg ?_; (try intro F); (first | (refine callE hfw ?_) | (refine callE h1 ?_) | (refine callE h2 ?_) | (refine callE h3 ?_) | (refine callE h4 ?_) | (apply Stp_call (h := fun w' hw _ => h5 w' hw); rfl; rintro v O' ⟨A3, k3, rfl, rfl⟩) | (apply Stp_call (h := fun w' hw _ => h6 w' hw); rfl; rintro v O' ⟨A4, k4, rfl, rfl⟩) | (refine callO (fun w' hw hO => equalT A3 A4 k3 k4 fs w' (rowRd iEnc.len (hO.of (A := .row (.slice A3 fs.length k3) 3 1 fs.length (fs.flatMap iEnc)) (by repeat' constructor))) (rowRd iEnc.len (hO.of (A := .row (.slice A4 fs.length k4) 3 1 fs.length (fs.flatMap iEnc)) (by repeat' constructor)))) ?_) | (refine callE hwk ?_) | (refine bx ?_; intro bk) | (refine stA ?_)); first | refine ⟨_, EndsA, QFFaults250, ?_⟩ | refine fin ?_) | (refine jn ?_; (try intro F); (first | (refine bx ?_; intro bk) | (refine stA ?_) | (apply Stp_pu; first | exact PuFaults250 | exact PuA)); first | refine ⟨_, EndsA, QFFaults250, ?_⟩ | refine fin ?_) | (apply RD_W; rfl; intro bk))
  exact rtA
end Go.Proofs.YtceekohkjgiabaaGreatDoor
namespace Go.Wk
open Go Go.RowKit Go.ChangeShapes Go.WideShapes Go.ChangeAt
section
variable {H : Type} {enc : TypeId × Value → H}
def cellsOfD : DataW Unit → List Value
 | .agg l => l.map fun | .lit (.int k n) => .int k n | _ => undef
 | .lit (.int k n) => [.int k n]
 | _ => []
end
def tokFn (P : Program) (tb : List (String × FuncId)) (tok : List UInt8) : Option FuncId :=
 if tok = [] then none else (tb.find? fun x => x.1.toUTF8.data.toList == tok && P.funcNamed x.1 == some x.2).map (·.2)
section
variable {H : Type}
def flatAt (P : Program) (tok : H → Option FuncId) : Nat → TypeId → DataW H → Nat → Option Value
 | 0, _, _, _ => none
 | f + 1, t, d, j =>
  match P.underlying t, d with
  | some .bool, .lit (.bool b) => if j = 0 then some (.bool b) else none
  | some (.int k), .lit (.int _ n) => if j = 0 then some (.int k n) else none
  | some .string, .lit (.string l) => if j = 0 then some (.string ⟨l.toArray⟩) else none
  | some (.func ..), .nil => if j = 0 then some .nilFunc else none
  | some (.func ..), .held x => if j = 0 then (tok x).map fun g => .func (.func g) #[] #[] else none
  | some (.array n e), .agg ds => if j / P.cellsOf e < n then (match ds[j / P.cellsOf e]? with | some d' => flatAt P tok f e d' (j % P.cellsOf e) | none => none) else none
  | some (.struct fs), .agg ds =>
   match (List.range fs.size).find? fun i => match fs[i]? with | some x => decide (x.offset ≤ j) && decide (j < x.offset + P.cellsOf x.type) | none => false with
   | some i => (match fs[i]?, ds[i]? with | some x, some d' => flatAt P tok f x.type d' (j - x.offset) | _, _ => none)
   | none => none
  | _, _ => none
end
theorem tokFn_tells {P : Program} {tb : List (String × FuncId)} {l : List UInt8} {g : FuncId} {t : TypeId} {v : Value} (h : tokFn P tb l = some g) (hv : funcToken P (t, v) = l) : v = .func (.func g) #[] #[] := by
 unfold tokFn at h
 cases l with
 | nil => rw [if_pos rfl] at h; cases h
 | cons b r =>
  obtain ⟨f, fn, rfl, h1, h2, h3⟩ := funcToken_tells hv
  rw [if_neg (by simp)] at h
  cases hx : tb.find? (fun x => x.1.toUTF8.data.toList == b :: r && P.funcNamed x.1 == some x.2) with
  | none => rw [hx] at h; cases h
  | some x =>
   rw [hx] at h
   have hp := List.find?_some hx
   simp only [Bool.and_eq_true, beq_iff_eq] at hp
   have hs : x.1 = fn.name := by
    have : x.1.toUTF8 = fn.name.toUTF8 := by
     apply ByteArray.ext
     apply Array.ext'
     rw [hp.1, h3]
    exact String.toByteArray_inj.1 this
   rw [hs, h2] at hp
   have := hp.2
   simp only [Option.map_some, Option.some.injEq] at h this
   rw [this, h]
theorem piece_get {cs : List Value} {o c j : Nat} {v : Value} (h : ((cs.drop o).take c)[j]? = some v) : cs[o + j]? = some v := by
 rw [List.getElem?_take] at h
 split at h
 ·rwa [List.getElem?_drop] at h
 ·cases h
theorem flatAt_ok {H : Type} {enc : TypeId × Value → H} {tok : H → Option FuncId} {P : Program} {w : World} {base : Nat} {sp : Nat → Bool} {held : Bool} (htok : ∀ t v g, tok (enc (t, v)) = some g → v = .func (.func g) #[] #[]) : ∀ (f : Nat) (t : TypeId) (d : DataW H) (j : Nat) (v : Value) (fuel : Nat) (cs : List Value) (p : List MemPlace), flatAt P tok f t d j = some v →
  DataW.trod enc P w base sp held fuel t cs = some (d, p) → cs[j]? = some v
 | 0, _, _, _, _, _, _, _, h, _ => by cases h
 | f + 1, t, d, j, v, fuel, cs, p, h, ht => by
  unfold flatAt at h
  split at h
  ·rename_i hu
   obtain ⟨b', rfl, hx⟩ := DataW.trod_bool hu ht
   simp only [Prod.mk.injEq, DataW.lit.injEq, Lit.bool.injEq] at hx
   split at h
   ·rename_i hj
    subst hj
    simp only [Option.some.injEq] at h
    rw [← h, hx.1]; rfl
   ·cases h
  ·rename_i hu
   obtain ⟨n', rfl, hx, _⟩ := DataW.trod_int hu ht
   simp only [Prod.mk.injEq, DataW.lit.injEq, Lit.int.injEq] at hx
   split at h
   ·rename_i hj
    subst hj
    simp only [Option.some.injEq] at h
    rw [← h, hx.1.2]; rfl
   ·cases h
  ·rename_i hu
   obtain ⟨s, rfl, hx, _⟩ := DataW.trod_string hu ht
   simp only [Prod.mk.injEq, DataW.lit.injEq, Lit.string.injEq] at hx
   split at h
   ·rename_i hj
    subst hj
    simp only [Option.some.injEq] at h
    rw [← h, hx.1]; simp
   ·cases h
  ·rename_i hu
   split at h
   ·rename_i hj
    subst hj
    cases fuel with
    | zero => simp [DataW.trod] at ht
    | succ n =>
     unfold DataW.trod at ht
     rw [hu] at ht
     simp only [Option.some.injEq] at h
     subst h
     split at ht <;> simp_all
   ·cases h
  ·rename_i hu
   split at h
   ·rename_i hj
    subst hj
    cases fuel with
    | zero => simp [DataW.trod] at ht
    | succ n =>
     unfold DataW.trod at ht
     rw [hu] at ht
     rename_i x0
     cases hk : tok x0 with
     | none => rw [hk] at h; cases h
     | some g =>
      rw [hk] at h
      simp only [Option.map_some, Option.some.injEq] at h
      subst h
      split at ht <;> first | (exfalso; simp_all; done) | skip
      all_goals (split at ht <;> first | (exfalso; simp_all; done) | skip)
      all_goals simp only [Option.some.injEq, Prod.mk.injEq, DataW.held.injEq] at ht
      all_goals (rw [← ht.1] at hk; rw [htok _ _ _ hk]; rfl)
   ·cases h
  ·rename_i n e ds hu
   obtain ⟨xs, m, rfl, hx, hlen, hn, hel⟩ := DataW.trod_array hu ht
   simp only [Prod.mk.injEq, DataW.agg.injEq] at hx
   split at h
   ·rename_i hj
    split at h
    ·rename_i d' hd
     rw [hx.1, List.getElem?_map] at hd
     cases hy : xs[j / P.cellsOf e]? with
     | none => rw [hy] at hd; cases hd
     | some y =>
      rw [hy] at hd
      simp only [Option.map_some, Option.some.injEq] at hd
      have h1 := hel _ hj
      rw [hy] at h1
      have h2 := flatAt_ok htok f e d' _ v m _ y.2 h (by rw [h1, ← hd])
      have h3 := piece_get h2
      rwa [Nat.mul_comm, Nat.div_add_mod] at h3
    ·cases h
   ·cases h
  ·rename_i fs ds hu
   obtain ⟨xs, m, rfl, hx, hlen, hn, hel⟩ := DataW.trod_struct hu ht
   simp only [Prod.mk.injEq, DataW.agg.injEq] at hx
   split at h
   ·rename_i i hi
    split at h
    ·rename_i x d' hf hd
     rw [hx.1, List.getElem?_map] at hd
     cases hy : xs[i]? with
     | none => rw [hy] at hd; cases hd
     | some y =>
      rw [hy] at hd
      simp only [Option.map_some, Option.some.injEq] at hd
      have h1 := hel i x hf
      rw [hy] at h1
      have h2 := flatAt_ok htok f x.type d' _ v m _ y.2 h (by rw [h1, ← hd])
      have h3 := piece_get h2
      have hp := List.find?_some hi
      rw [hf] at hp
      simp only [Bool.and_eq_true, decide_eq_true_eq] at hp
      rwa [show x.offset + (j - x.offset) = j by omega] at h3
    ·cases h
   ·cases h
  ·cases h
theorem cells_of_trod {H : Type} {enc : TypeId × Value → H} {tok : H → Option FuncId} {P : Program} {w : World} {base : Nat} {sp : Nat → Bool} {held : Bool} (htok : ∀ t v g, tok (enc (t, v)) = some g → v = .func (.func g) #[] #[]) {n : String} {d : DataW H} {g : Nat} {t : TypeId} {cells : List Value} {s : Nat} {cs : Array Value} {fu : Nat} {p : List MemPlace} (fuel : Nat)
  (h1 : P.globalNamed n = some g) (h3 : w.var? P n = some cs) (h4 : DataW.trod enc P w base sp held fu t cs.toList = some (d, p)) (hc : (List.range cells.length).map (fun j => flatAt P tok fuel t d (s + j)) = cells.map some) : CellsAt w ⟨g, s, none⟩ cells := by
 intro j v hj
 have hjl := (List.getElem?_eq_some_iff.1 hj).1
 have h5 := congrArg (fun l => l[j]?) hc
 simp only [List.getElem?_map, List.getElem?_range hjl, Option.map_some, hj] at h5
 simp only [Option.some.injEq] at h5
 have h6 := flatAt_ok htok fuel t _ _ v _ _ _ h5 h4
 rw [add_mk]
 have h7 := World.var?_cell h1 h3 (s + j)
 rw [h7]
 simpa using h6
theorem cells_of_funcs {P : Program} {w : World} {n : String} {d : DataW Unit} {g : Nat} {t : TypeId} {cells : List Value} {s : Nat} (tb : List (String × FuncId)) (fuel : Nat) (h : funcsAt P w n d) (hg : P.globalNamed n = some g) (ht : (P.globals[g]?).map (·.type) = some t)
  (hc : (List.range cells.length).map (fun j => flatAt P (tokFn P tb) fuel t d.funcsOut (s + j)) = cells.map some) : CellsAt w ⟨g, s, none⟩ cells := by
 obtain ⟨g', t', cs, fu, p, h1, h2, h3, h4⟩ := h
 obtain rfl := Option.some.inj (hg.symm.trans h1)
 obtain rfl := Option.some.inj (ht.symm.trans h2)
 exact cells_of_trod (fun _ _ _ hk => tokFn_tells hk rfl) fuel h1 h3 h4 hc
theorem laidVars_get {P : Program} {w : World} : ∀ {l : List (String × DataW Unit)} {ps : List MemPlace}, DataW.LaidVars P w l ps → ∀ {n : String} {d : DataW Unit}, (n, d) ∈ l →
  ∃ g t cs fuel p, P.globalNamed n = some g ∧ (P.globals[g]?).map (·.type) = some t ∧ w.var? P n = some cs ∧ DataW.trod (fun _ => ()) P w 0 (fun _ => true) false fuel t cs.toList = some (d, p)
 | [], _, _, _, _, h => by cases h
 | (n0, d0) :: l, ps, hl, n, d, h => by
  obtain ⟨g, t, cs, fuel, p, q, h1, h2, h3, h4, h5, _⟩ := hl
  rcases List.mem_cons.1 h with he | h
  ·obtain ⟨rfl, rfl⟩ := Prod.mk.inj he
   exact ⟨g, t, cs, fuel, p, h1, h2, h3, h4⟩
  ·exact laidVars_get h5 h
theorem laidMetH_met {P : Program} {l : List (String × DataW Unit)} {w : World} (h : laidMetH P l w) : laidMet P (l.filter fun x => x.2.handleName?.isNone) w := by
 unfold laidMetH at h
 generalize hfl : (l.filter fun x => x.2.handleName?.isSome) = fl at h
 cases fl with
 | nil =>
  have e : (l.filter fun x => x.2.handleName?.isNone) = l := by
   rw [List.filter_eq_self]
   intro x hx
   have := (List.filter_eq_nil_iff.1 hfl) x hx
   cases hn : x.2.handleName? with
   | none => rfl
   | some s => rw [hn] at this; exact absurd rfl this
  rw [e]
  exact h
 | cons a ys => exact h.1
theorem cells_of_laid {P : Program} {w : World} {l : List (String × DataW Unit)} {n : String} {d : DataW Unit} {g : Nat} {t : TypeId} {cells : List Value} (fuel : Nat) (h : laidMetH P l w) (hm : (n, d) ∈ l.filter fun x => x.2.handleName?.isNone) (hg : P.globalNamed n = some g) (ht : (P.globals[g]?).map (·.type) = some t)
  (hc : (List.range cells.length).map (fun j => flatAt P (fun _ : Unit => none) fuel t d (0 + j)) = cells.map some) : CellsAt w ⟨g, 0, none⟩ cells := by
 obtain ⟨ps, hl, _⟩ := laidMetH_met h
 obtain ⟨g', t', cs, fu, p, h1, h2, h3, h4⟩ := laidVars_get hl hm
 obtain rfl := Option.some.inj (hg.symm.trans h1)
 obtain rfl := Option.some.inj (ht.symm.trans h2)
 exact cells_of_trod (fun _ _ _ hk => by cases hk) fuel h1 h3 h4 hc
def isIfc : TypeDesc → Bool | .interface _ => true | _ => false
theorem iface_of_laid {P : Program} {w : World} {l : List (String × DataW Unit)} {n : String} {d : DataW Unit} {g : Nat} {t : TypeId} (h : laidMetH P l w) (hm : (n, d) ∈ l.filter fun x => x.2.handleName?.isNone) (hg : P.globalNamed n = some g) (ht : (P.globals[g]?).map (·.type) = some t)
  (hi : (P.underlying t).map isIfc = some true) : ∃ ev, w.cell? ⟨g, 0, none⟩ = some ev ∧ (ev = .nilIface ∨ ∃ te pe, ev = .iface te pe) := by
 obtain ⟨ps, hl, _⟩ := laidMetH_met h
 obtain ⟨g', t', cs, fu, p, h1, h2, h3, h4⟩ := laidVars_get hl hm
 obtain rfl := Option.some.inj (hg.symm.trans h1)
 obtain rfl := Option.some.inj (ht.symm.trans h2)
 have h7 := World.var?_cell h1 h3 0
 obtain ⟨ms, hu⟩ : ∃ ms, P.underlying t = some (.interface ms) := by
  cases hd : P.underlying t with
  | none => rw [hd] at hi; cases hi
  | some td => cases td <;> first | exact ⟨_, rfl⟩ | (rw [hd] at hi; simp [isIfc] at hi)
 cases fu with
 | zero => simp [DataW.trod] at h4
 | succ f =>
  unfold DataW.trod at h4
  rw [hu] at h4
  split at h4 <;> first | (exfalso; simp_all; done) | skip
  ·rename_i hc
   exact ⟨.nilIface, by rw [h7, ← Array.getElem?_toList, hc]; rfl, .inl rfl⟩
  ·rename_i hc
   exact ⟨_, by rw [h7, ← Array.getElem?_toList, hc]; rfl, .inr ⟨_, _, rfl⟩⟩
section
variable {H : Type} {enc : TypeId × Value → H}
theorem law_liftedS {C : Checked} {os : Os} {f : FuncId} {fn : Func} {s : ChangeSpec} {conds : List PathCond} {t : TypeId} (laid : List (String × DataW Unit)) (own : ownKnob C.prog.godebug = none) (started : os.Started) (noInit : C.prog.inits.idxOf? f = none) (hfn : C.prog.funcs[f]? = some fn)
  (witness : ∃ (w : World) (tape : Tape) (i : Input), w.os = os ∧ (w.forCall tape i).Shaped C.prog ∧ i.vars = [] ∧ Input.okWide C.prog (w.forCall tape i) .any w.heap.size f i ∧
   ((s.pre enc C.prog fn conds false (w.forCall tape i).memory i.args ∧ laidMetH C.prog laid (w.forCall tape i).memory) ∧ sizedMet enc C.prog fn (OpenSpec.ofChange s) false (w.forCall tape i).memory i.args) ∧ ({} : Assume).holds C.prog (lone (Frame.enter C.prog f i.args .normal) [] (w.forCall tape i)))
  (hvars : s.vars = []) (hres : fn.resultTypes = #[t]) (ht : C.prog.underlying t = some .bool) (hl : laidOutB C.prog = true)
  (hr : fn.params.toList.all (fun t => C.prog.readableRec t && decide (t < C.prog.types.size)) = true) (hspec : ∀ ds : List (DataW H), ds.length = fn.params.toList.length → s.fn H ds = { results := [.lit (.bool true)], args := ds })
  (walk : ∀ (W : World) (base : Nat) (args : List Value) (ds : List (DataW H)) (p : List MemPlace), (∀ (j : Nat) t v, fn.params.toList[j]? = some t → args[j]? = some v → Value.okWide C.prog W .any base t v) → laidMetH C.prog laid W → W.ShapedOpen C.prog →
   DataW.TrodAll enc C.prog W 0 (fun _ => true) true fn.params.toList args ds p → Does C.prog f args W (fun v _ => v = .bool true)) :
  ReturnsInHanded {} C os f .any (fun w args => (s.pre enc C.prog fn conds false w args ∧ laidMetH C.prog laid w) ∧ sizedMet enc C.prog fn (OpenSpec.ofChange s) false w args) (s.post enc C.prog fn false true false false) := by
 have hr' : ∀ t ∈ fn.params.toList, C.prog.readableRec t = true ∧ t < C.prog.types.size := fun t ht => by
  have := List.all_eq_true.1 hr t ht
  simpa using this
 refine returnsInHanded_of_calls own started noInit witness ?_
 intro w tape i _ hsh _ hok hpre hholds
 obtain ⟨_, _, _, fn', hfn', _, _, _, _, hval⟩ := hok
 have e : fn' = fn := Option.some.inj (hfn'.symm.trans hfn)
 subst e
 obtain ⟨⟨⟨ds, gs, before, hw, hc⟩, hx⟩, hz⟩ := hpre
 have hw' := DataW.Whole.of_heap (w' := w.forCall tape i) (by rfl) hw
 obtain ⟨p, q, hA, _⟩ := id hw'
 have hd := walk (w.forCall tape i) w.heap.size i.args.toList ds p (fun j t v h1 h2 => hval j t v (by simpa using h1) (by simpa using h2)) (laidMetH.of_heap (by rfl) hx) hsh hA
 unfold Does at hd
 rw [Array.toArray_toList] at hd
 refine hd.mono ?_
 rintro e W' ⟨v, O, rfl, hb, _, rfl⟩
 exact ChangeSpec.post_blind (law_post hvars hres ht hl hr' hspec hw' hb.toBelow)
end
end Go.Wk
