/- Arguments opened: drafts of sources (analemmalaw23). -/
import Derived.Test.YtfhjfpikngcknaaDoorMade23
import Derived.Test.YtfhjfpikngcknaaDoorOpn
namespace Go.Proofs.YtfhjfpikngcknaaDoor
open Go Go.RowKit Go.Wk Go.ChangeShapes Go.WideShapes Go.ChangeAt
section
variable {H : Type} {enc : TypeId × Value → H} {w : World} {sp : Nat → Bool} {held : Bool}
theorem o23_by {n : Nat} {cs : List Value} {y : DataW H × List MemPlace} (h : DataW.trod enc Tryd.prog w 0 sp held n 5 cs = some y) : ∃ d : Int, cs = byEnc d ∧ inR .u8 d := by
  obtain ⟨x, e, _, b⟩ := DataW.trod_int Tryd.underlying5 h
  exact ⟨x, e, inR_of b⟩
/-- A slice in a cell, its elements right. -/
def RdCell {α : Type} (w : World) (en : α → List Value) (sz : Nat) (ok : α → Prop) (l : List α) (cs : List Value) : Prop := ∃ B cb, RdSl w B cb en sz l ∧ cs = [.slice B l.length cb] ∧ ∀ x ∈ l, ok x
theorem o23_set {n : Nat} {cs : List Value} {y : DataW H × List MemPlace} (h : DataW.trod enc Tryd.prog w 0 sp held n 59 cs = some y) : ∃ l, RdCell w byEnc 1 (inR .u8) l cs := by
  obtain ⟨v, rfl⟩ : ∃ v, cs = [v] := by
    rcases Deep.open_slice Tryd.underlying59 h with ⟨h0, _⟩ | ⟨a, len, cap, m, n, D, Pl, hcs, _⟩
    · exact ⟨_, h0⟩
    · exact ⟨_, hcs⟩
  obtain ⟨B, l, cb, rfl, h1, h2⟩ := slice_rd Tryd.underlying59 byEnc (inR .u8) (sz := 1) (by kernel_rfl) (fun n cs y h => o23_by h) h
  exact ⟨l, B, cb, h1, rfl, h2⟩
theorem o23_eras {n : Nat} {cs : List Value} {y : DataW H × List MemPlace} (h : DataW.trod enc Tryd.prog w 0 sp held n 62 cs = some y) : ∃ l, RdCell w E23.enc 8 E23.ok l cs := by
  obtain ⟨v, rfl⟩ : ∃ v, cs = [v] := by
    rcases Deep.open_slice Tryd.underlying62 h with ⟨h0, _⟩ | ⟨a, len, cap, m, n, D, Pl, hcs, _⟩
    · exact ⟨_, h0⟩
    · exact ⟨_, hcs⟩
  obtain ⟨B, l, cb, rfl, h1, h2⟩ := slice_rd Tryd.underlying62 E23.enc E23.ok (sz := 8) (by kernel_rfl) (fun n cs y h => rd_E23 h) h
  exact ⟨l, B, cb, h1, rfl, h2⟩
theorem rdLL_of {α : Type} {en : α → List Value} {sz : Nat} {ok : α → Prop} {A : Option Addr} {ls : List (List α)} {c : Nat} (s1 : ls.length ≤ c) (s2 : c ≤ maxLen) (s3 : ∀ k l, ls[k]? = some l → A ≠ none ∧ ∃ cs, RdCell w en sz ok l cs ∧ CellsAt w ((adr A).add (k * 1)) cs) :
    RdLL w A c en sz ls ∧ ∀ l ∈ ls, ∀ x ∈ l, ok x := by
  refine ⟨⟨s1, s2, fun k l hk => ?_⟩, fun l hl => ?_⟩
  · obtain ⟨h4, cs', ⟨B, cb, h5, rfl, _⟩, h6⟩ := s3 k l hk
    exact ⟨h4, B, cb, h5, h6⟩
  · obtain ⟨k, hk⟩ := List.getElem?_of_mem hl
    obtain ⟨_, _, ⟨_, _, _, _, h5⟩, _⟩ := s3 k l hk
    exact h5
set_option maxRecDepth 100000 in
theorem open_d23 {v : Value} {r : Reach} {b0 : Nat} {d : DataW H} {ps : List MemPlace} (hv : Value.okWide Tryd.prog w r b0 26 v) (h : DataW.Trod enc Tryd.prog w 0 sp held 26 v d ps) :
    ∃ As Az Al cs cz cl d, v = d23V As Az Al cs cz cl d ∧ RdLL w As cs byEnc 1 d.sets ∧ RdLL w Az cz E23.enc 8 d.zones ∧ RdSl w Al cl byEnc 1 d.links ∧ (∀ l ∈ d.sets, ∀ x ∈ l, inR .u8 x) ∧ (∀ l ∈ d.zones, ∀ x ∈ l, x.ok) ∧ (∀ x ∈ d.links, inR .u8 x) := by
  obtain ⟨vs, rfl, hsz⟩ := okWide_struct Tryd.underlying26 hv
  obtain ⟨fuel, h⟩ := h
  obtain ⟨hl, hf⟩ := field_of Tryd.underlying26 h
  rw [show Tryd.prog.cellsOf 26 = 3 from by kernel_rfl] at hl
  obtain ⟨vs⟩ := vs
  simp only [Value.cells] at hl hf
  obtain ⟨a0, cs0, rfl, hl0⟩ := len_cons hl
  obtain ⟨a1, cs1, rfl, hl1⟩ := len_cons hl0
  obtain ⟨a2, cs2, rfl, hl2⟩ := len_cons hl1
  obtain rfl := List.eq_nil_of_length_eq_zero hl2
  obtain ⟨n0, y0, h0⟩ := hf 0 22 0 1 rfl (by kernel_rfl)
  obtain ⟨n1, y1, h1⟩ := hf 1 23 1 1 rfl (by kernel_rfl)
  obtain ⟨n2, y2, h2⟩ := hf 2 24 2 1 rfl (by kernel_rfl)
  obtain ⟨As, ls, cs, rfl, s1, s2, s3⟩ := slice_of Tryd.underlying22 (fun (l : List Int) cs => RdCell w byEnc 1 (inR .u8) l cs) (fun n cs y h => o23_set h) h0
  obtain ⟨Az, lz, cz, rfl, z1, z2, z3⟩ := slice_of Tryd.underlying23 (fun (l : List E23) cs => RdCell w E23.enc 8 E23.ok l cs) (fun n cs y h => o23_eras h) h1
  obtain ⟨Al, ll, cl, rfl, l1, l2⟩ := slice_rd Tryd.underlying24 byEnc (inR .u8) (sz := 1) (by kernel_rfl) (fun n cs y h => o23_by h) h2
  rw [show Tryd.prog.cellsOf 59 = 1 from by kernel_rfl] at s3
  rw [show Tryd.prog.cellsOf 62 = 1 from by kernel_rfl] at z3
  obtain ⟨g1, g2⟩ := rdLL_of s1 s2 s3
  obtain ⟨g3, g4⟩ := rdLL_of z1 z2 z3
  exact ⟨As, Az, Al, cs, cz, cl, ⟨ls, lz, ll⟩, rfl, g1, g3, l1, g2, g4, l2⟩
set_option maxRecDepth 100000 in
theorem o23_u8 {v : Value} {r : Reach} {b0 : Nat} {d : DataW H} {ps : List MemPlace} (hv : Value.okWide Tryd.prog w r b0 5 v) (h : DataW.Trod enc Tryd.prog w 0 sp held 5 v d ps) : ∃ x : Int, v = .int .u8 x ∧ inR .u8 x := by
  obtain ⟨n, rfl⟩ := okWide_int Tryd.underlying5 hv
  obtain ⟨fuel, h⟩ := h
  obtain ⟨x, e, b⟩ := o23_by h
  simp only [Value.cells, byEnc, List.cons.injEq, and_true] at e
  exact ⟨x, e, b⟩
end
end Go.Proofs.YtfhjfpikngcknaaDoor
