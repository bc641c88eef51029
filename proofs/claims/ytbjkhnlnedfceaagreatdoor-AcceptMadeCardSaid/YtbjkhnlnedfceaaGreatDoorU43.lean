/- Arguments opened: drafts of sources (analemmalaw25). The way from a contract 'Does' to a given row that lists package-level variables. -/
import Derived.Test.YtbjkhnlnedfceaaGreatDoorU38
import Derived.Test.YtbjkhnlnedfceaaGreatDoorU07
import Derived.LaidHandle
import Derived.LaidLaws
import Derived.LaidSub
import Derived.Stop.Joined
set_option maxHeartbeats 4000000
set_option linter.unusedVariables false
set_option linter.unusedSimpArgs false
namespace Go.Proofs.YtbjkhnlnedfceaaGreatDoor
open Go Go.RowKit Go.Wk Go.ChangeShapes Go.WideShapes Go.ChangeAt
section
variable {H : Type} {enc : TypeId × Value → H} {w : World} {sp : Nat → Bool} {held : Bool}
theorem rd_by {n : Nat} {cs : List Value} {y : DataW H × List MemPlace} (h : DataW.trod enc Tryz.prog w 0 sp held n 5 cs = some y) : ∃ d : Int, cs = byEnc d ∧ inR .u8 d := by
 obtain ⟨x, e, _, b⟩ := DataW.trod_int Tryz.underlying5 h
 exact ⟨x, e, inR_of b⟩
def RdBy (w : World) (l : List Int) (cs : List Value) : Prop := ∃ B cb, RdSl w B cb byEnc 1 l ∧ cs = [.slice B l.length cb] ∧ ∀ x ∈ l, inR .u8 x
theorem rd_set {n : Nat} {cs : List Value} {y : DataW H × List MemPlace} (h : DataW.trod enc Tryz.prog w 0 sp held n 63 cs = some y) : ∃ l, RdBy w l cs := by
 obtain ⟨v, rfl⟩ : ∃ v, cs = [v] := by
  rcases Deep.open_slice Tryz.underlying63 h with ⟨h0, _⟩ | ⟨a, len, cap, m, n, D, Pl, hcs, _⟩
  ·exact ⟨_, h0⟩
  ·exact ⟨_, hcs⟩
 obtain ⟨B, l, cb, rfl, h1, h2⟩ := slice_rd Tryz.underlying63 byEnc (inR .u8) (sz := 1) (by kernel_rfl) (fun n cs y h => rd_by h) h
 exact ⟨l, B, cb, h1, rfl, h2⟩
set_option maxRecDepth 100000 in
theorem open_d25 {v : Value} {r : Reach} {b0 : Nat} {d : DataW H} {ps : List MemPlace} (hv : Value.okWide Tryz.prog w r b0 25 v) (h : DataW.Trod enc Tryz.prog w 0 sp held 25 v d ps) :
  ∃ As Al cs c d, v = dr25V As Al cs c d ∧ RdSets w As cs d.sets ∧ RdSl w Al c byEnc 1 d.L ∧ (∀ x ∈ d.L, inR .u8 x) ∧ (∀ l ∈ d.sets, ∀ x ∈ l, inR .u8 x) ∧ inR .u8 d.zones ∧ inR .u8 d.links := by
 obtain ⟨vs, rfl, hsz⟩ := okWide_struct Tryz.underlying25 hv
 obtain ⟨fuel, h⟩ := h
 obtain ⟨hl, hf⟩ := field_of Tryz.underlying25 h
 rw [show Tryz.prog.cellsOf 25 = 4 from by kernel_rfl] at hl
 obtain ⟨vs⟩ := vs
 simp only [Value.cells] at hl hf
 obtain ⟨a0, cs0, rfl, hl0⟩ := len_cons hl
 obtain ⟨a1, cs1, rfl, hl1⟩ := len_cons hl0
 obtain ⟨a2, cs2, rfl, hl2⟩ := len_cons hl1
 obtain ⟨a3, cs3, rfl, hl3⟩ := len_cons hl2
 obtain rfl := List.eq_nil_of_length_eq_zero hl3
 obtain ⟨n0, y0, h0⟩ := hf 0 22 0 1 rfl (by kernel_rfl)
 obtain ⟨n1, y1, h1⟩ := hf 1 5 1 1 rfl (by kernel_rfl)
 obtain ⟨n2, y2, h2⟩ := hf 2 5 2 1 rfl (by kernel_rfl)
 obtain ⟨n3, y3, h3⟩ := hf 3 23 3 1 rfl (by kernel_rfl)
 obtain ⟨x1, e1, b1⟩ := rd_by h1
 obtain ⟨x2, e2, b2⟩ := rd_by h2
 simp only [List.drop, List.take, byEnc, List.cons.injEq, and_true] at e1 e2
 subst e1 e2
 obtain ⟨As, ls, cs, rfl, s1, s2, s3⟩ := slice_of Tryz.underlying22 (fun (l : List Int) cs => RdBy w l cs) (fun n cs y h => rd_set h) h0
 obtain ⟨Al, ll, cl, rfl, l1, l2⟩ := slice_rd Tryz.underlying23 byEnc (inR .u8) (sz := 1) (by kernel_rfl) (fun n cs y h => rd_by h) h3
 rw [show Tryz.prog.cellsOf 63 = 1 from by kernel_rfl] at s3
 refine ⟨As, Al, cs, cl, ⟨ls, x1, x2, ll⟩, rfl, ⟨s1, s2, fun k l hk => ?_⟩, l1, l2, fun l hl => ?_, b1, b2⟩
 ·obtain ⟨h4, cs', ⟨B, cb, h5, rfl, _⟩, h6⟩ := s3 k l hk
  exact ⟨h4, B, cb, h5, h6⟩
 ·obtain ⟨k, hk⟩ := List.getElem?_of_mem hl
  obtain ⟨_, _, ⟨_, _, _, _, h5⟩, _⟩ := s3 k l hk
  exact h5
end
end Go.Proofs.YtbjkhnlnedfceaaGreatDoor
namespace Go.Wk
open Go Go.RowKit Go.ChangeShapes Go.WideShapes Go.ChangeAt
section
variable {H : Type} {enc : TypeId × Value → H}
def cellsOfD : DataW Unit → List Value
 | .agg l => l.map fun | .lit (.int k n) => .int k n | _ => undef
 | .lit (.int k n) => [.int k n]
 | _ => []
end
end Go.Wk
