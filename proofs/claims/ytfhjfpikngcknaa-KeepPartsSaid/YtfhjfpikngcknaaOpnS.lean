/- Arguments opened: sources. -/
import Derived.Test.YtfhjfpikngcknaaOpn
import Derived.Test.YtfhjfpikngcknaaRead2
namespace Go.Proofs.Ytfhjfpikngcknaa
open Go Go.RowKit Go.Wk Go.ChangeShapes Go.WideShapes Go.ChangeAt
section
variable {H : Type} {enc : TypeId × Value → H} {w : World} {sp : Nat → Bool} {held : Bool}
def _root_.Go.Wk.DZone.ok (z : DZone) : Prop := z.name.size ≤ maxLen ∧ ∀ e ∈ z.eras, e.ok
def _root_.Go.Wk.DSource.ok (s : DSource) : Prop := (∀ r ∈ s.rules, r.ok) ∧ (∀ z ∈ s.zones, z.ok) ∧ (∀ l ∈ s.links, l.ok) ∧ ∀ x ∈ s.shifts, x.size ≤ maxLen
theorem rd_str {n : Nat} {cs : List Value} {y : DataW H × List MemPlace} (h : DataW.trod enc Try.prog w 0 sp held n 9 cs = some y) : ∃ d : ByteArray, cs = strEnc d ∧ d.size ≤ maxLen := by
  obtain ⟨x, e, _, b⟩ := DataW.trod_string Try.underlying9 h
  exact ⟨x, e, b⟩
theorem rd_DZone {n : Nat} {cs : List Value} {y : DataW H × List MemPlace} (h : DataW.trod enc Try.prog w 0 sp held n 56 cs = some y) : ∃ z : DZone, RdZone w z cs ∧ z.ok := by
  obtain ⟨hl, hf⟩ := field_of Try.underlying56 h
  rw [show Try.prog.cellsOf 56 = 2 from by kernel_rfl] at hl
  obtain ⟨a0, cs0, rfl, hl0⟩ := len_cons hl
  obtain ⟨a1, cs1, rfl, hl1⟩ := len_cons hl0
  obtain rfl := List.eq_nil_of_length_eq_zero hl1
  obtain ⟨n0, y0, h0⟩ := hf 0 9 0 1 rfl (by kernel_rfl)
  obtain ⟨n1, y1, h1⟩ := hf 1 54 1 1 rfl (by kernel_rfl)
  obtain ⟨x0, e0, b0⟩ := rd_str h0
  simp only [List.drop, List.take, strEnc, List.cons.injEq, and_true] at e0
  subst e0
  obtain ⟨A, l, c, rfl, h2, h3⟩ := slice_rd Try.underlying54 DEra.enc DEra.ok (sz := 13) (by kernel_rfl) (fun n cs y h => rd_DEra h) h1
  exact ⟨⟨x0, l⟩, ⟨A, c, h2, rfl⟩, b0, h3⟩
set_option maxRecDepth 100000 in
theorem open_source {v : Value} {r : Reach} {b0 : Nat} {d : DataW H} {ps : List MemPlace} (hv : Value.okWide Try.prog w r b0 27 v) (h : DataW.Trod enc Try.prog w 0 sp held 27 v d ps) :
    ∃ Ar Az Al As cr cz cl cs s, v = srcV Ar Az Al As cr cz cl cs s ∧ RdSource w Ar Az Al As cr cz cl cs s ∧ s.ok := by
  obtain ⟨vs, rfl, hsz⟩ := okWide_struct Try.underlying27 hv
  obtain ⟨fuel, h⟩ := h
  obtain ⟨hl, hf⟩ := field_of Try.underlying27 h
  rw [show Try.prog.cellsOf 27 = 4 from by kernel_rfl] at hl
  obtain ⟨vs⟩ := vs
  simp only [Value.cells] at hl hf
  obtain ⟨a0, cs0, rfl, hl0⟩ := len_cons hl
  obtain ⟨a1, cs1, rfl, hl1⟩ := len_cons hl0
  obtain ⟨a2, cs2, rfl, hl2⟩ := len_cons hl1
  obtain ⟨a3, cs3, rfl, hl3⟩ := len_cons hl2
  obtain rfl := List.eq_nil_of_length_eq_zero hl3
  obtain ⟨n0, y0, h0⟩ := hf 0 22 0 1 rfl (by kernel_rfl)
  obtain ⟨n1, y1, h1⟩ := hf 1 23 1 1 rfl (by kernel_rfl)
  obtain ⟨n2, y2, h2⟩ := hf 2 24 2 1 rfl (by kernel_rfl)
  obtain ⟨n3, y3, h3⟩ := hf 3 25 3 1 rfl (by kernel_rfl)
  obtain ⟨Ar, lr, cr, rfl, r1, r2⟩ := slice_rd Try.underlying22 DRule.enc DRule.ok (sz := 11) (by kernel_rfl) (fun n cs y h => rd_DRule h) h0
  obtain ⟨Az, lz, cz, rfl, z1, z2, z3⟩ := slice_of Try.underlying23 (fun (z : DZone) cs => RdZone w z cs ∧ z.ok) (fun n cs y h => rd_DZone h) h1
  obtain ⟨Al, ll, cl, rfl, l1, l2⟩ := slice_rd Try.underlying24 DLink.enc DLink.ok (sz := 2) (by kernel_rfl) (fun n cs y h => rd_DLink h) h2
  obtain ⟨As, ls, cs, rfl, s1, s2⟩ := slice_rd Try.underlying25 strEnc (fun d => d.size ≤ maxLen) (sz := 1) (by kernel_rfl) (fun n cs y h => rd_str h) h3
  rw [show Try.prog.cellsOf 56 = 2 from by kernel_rfl] at z3
  refine ⟨Ar, Az, Al, As, cr, cz, cl, cs, ⟨lr, lz, ll, ls⟩, rfl, ⟨r1, z1, z2, fun k z hk => ?_, l1, s1⟩, r2, fun z hz => ?_, l2, s2⟩
  · obtain ⟨h4, cs', ⟨h5, _⟩, h6⟩ := z3 k z hk
    exact ⟨h4, cs', h5, h6⟩
  · obtain ⟨k, hk⟩ := List.getElem?_of_mem hz
    obtain ⟨_, _, ⟨_, h5⟩, _⟩ := z3 k z hk
    exact h5
end
end Go.Proofs.Ytfhjfpikngcknaa
