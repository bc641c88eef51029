/- Arguments opened: drafts of sources (analemmalaw14). -/
import Derived.Test.YtfhjfpikngcknaaMade14
namespace Go.Proofs.Ytfhjfpikngcknaa
open Go Go.RowKit Go.Wk Go.ChangeShapes Go.WideShapes Go.ChangeAt
section
variable {H : Type} {enc : TypeId × Value → H} {w : World} {sp : Nat → Bool} {held : Bool}
theorem rd_u8 {n : Nat} {cs : List Value} {y : DataW H × List MemPlace} (h : DataW.trod enc Try.prog w 0 sp held n 5 cs = some y) : ∃ d : Int, cs = u8Enc d ∧ inR .u8 d := by
  obtain ⟨x, e, _, b⟩ := DataW.trod_int Try.underlying5 h
  exact ⟨x, e, inR_of b⟩
set_option maxRecDepth 100000 in
theorem open_d14 {v : Value} {r : Reach} {b0 : Nat} {d : DataW H} {ps : List MemPlace} (hv : Value.okWide Try.prog w r b0 41 v) (h : DataW.Trod enc Try.prog w 0 sp held 41 v d ps) :
    ∃ Ar Az Ae Al As cr cz ce cl cs s, v = d14V Ar Az Ae Al As cr cz ce cl cs s ∧ RdD14 w Ar Az Ae Al As cr cz ce cl cs s ∧ s.ok := by
  obtain ⟨vs, rfl, hsz⟩ := okWide_struct Try.underlying41 hv
  obtain ⟨fuel, h⟩ := h
  obtain ⟨hl, hf⟩ := field_of Try.underlying41 h
  rw [show Try.prog.cellsOf 41 = 5 from by kernel_rfl] at hl
  obtain ⟨vs⟩ := vs
  simp only [Value.cells] at hl hf
  obtain ⟨a0, cs0, rfl, hl0⟩ := len_cons hl
  obtain ⟨a1, cs1, rfl, hl1⟩ := len_cons hl0
  obtain ⟨a2, cs2, rfl, hl2⟩ := len_cons hl1
  obtain ⟨a3, cs3, rfl, hl3⟩ := len_cons hl2
  obtain ⟨a4, cs4, rfl, hl4⟩ := len_cons hl3
  obtain rfl := List.eq_nil_of_length_eq_zero hl4
  obtain ⟨n0, y0, h0⟩ := hf 0 37 0 1 rfl (by kernel_rfl)
  obtain ⟨n1, y1, h1⟩ := hf 1 38 1 1 rfl (by kernel_rfl)
  obtain ⟨n2, y2, h2⟩ := hf 2 39 2 1 rfl (by kernel_rfl)
  obtain ⟨n3, y3, h3⟩ := hf 3 38 3 1 rfl (by kernel_rfl)
  obtain ⟨n4, y4, h4⟩ := hf 4 38 4 1 rfl (by kernel_rfl)
  obtain ⟨Ar, lr, cr, rfl, r1, r2⟩ := slice_rd Try.underlying37 D10.enc D10.ok (sz := 11) (by kernel_rfl) (fun n cs y h => rd_D10 h) h0
  obtain ⟨Az, lz, cz, rfl, z1, z2⟩ := slice_rd Try.underlying38 u8Enc (inR .u8) (sz := 1) (by kernel_rfl) (fun n cs y h => rd_u8 h) h1
  obtain ⟨Ae, le, ce, rfl, e1, e2⟩ := slice_rd Try.underlying39 E14.enc E14.ok (sz := 12) (by kernel_rfl) (fun n cs y h => rd_E14 h) h2
  obtain ⟨Al, ll, cl, rfl, l1, l2⟩ := slice_rd Try.underlying38 u8Enc (inR .u8) (sz := 1) (by kernel_rfl) (fun n cs y h => rd_u8 h) h3
  obtain ⟨As, ls, cs, rfl, s1, s2⟩ := slice_rd Try.underlying38 u8Enc (inR .u8) (sz := 1) (by kernel_rfl) (fun n cs y h => rd_u8 h) h4
  exact ⟨Ar, Az, Ae, Al, As, cr, cz, ce, cl, cs, ⟨lr, lz, le, ll, ls⟩, rfl, ⟨r1, z1, e1, l1, s1⟩, r2, z2, e2, l2, s2⟩
end
end Go.Proofs.Ytfhjfpikngcknaa
