/- Arguments opened: drafts of sources (analemmalaw23). Arguments opened: rules and numbers. The way from a contract 'Does' to a given row that lists package-level variables. -/
import Derived.Test.YtonjepladadmhaaGreatDoorS40
import Derived.Test.YtonjepladadmhaaGreatDoorS27
import Derived.Test.YtonjepladadmhaaGreatDoorS05
import Derived.LaidHandle
import Derived.LaidLaws
import Derived.LaidSub
import Derived.Stop.Joined
set_option maxHeartbeats 4000000
set_option linter.unusedVariables false
set_option linter.unusedSimpArgs false
namespace Go.Proofs.YtonjepladadmhaaGreatDoor
open Go Go.RowKit Go.Wk Go.ChangeShapes Go.WideShapes Go.ChangeAt
section
variable {H : Type} {enc : TypeId × Value → H} {w : World} {sp : Nat → Bool} {held : Bool}
theorem o23_by {n : Nat} {cs : List Value} {y : DataW H × List MemPlace} (h : DataW.trod enc Tryz.prog w 0 sp held n 5 cs = some y) : ∃ d : Int, cs = byEnc d ∧ inR .u8 d := by
 obtain ⟨x, e, _, b⟩ := DataW.trod_int Tryz.underlying5 h
 exact ⟨x, e, inR_of b⟩
def RdCell {α : Type} (w : World) (en : α → List Value) (sz : Nat) (ok : α → Prop) (l : List α) (cs : List Value) : Prop := ∃ B cb, RdSl w B cb en sz l ∧ cs = [.slice B l.length cb] ∧ ∀ x ∈ l, ok x
theorem o23_set {n : Nat} {cs : List Value} {y : DataW H × List MemPlace} (h : DataW.trod enc Tryz.prog w 0 sp held n 79 cs = some y) : ∃ l, RdCell w byEnc 1 (inR .u8) l cs := by
 obtain ⟨v, rfl⟩ : ∃ v, cs = [v] := by
  rcases Deep.open_slice Tryz.underlying79 h with ⟨h0, _⟩ | ⟨a, len, cap, m, n, D, Pl, hcs, _⟩
  ·exact ⟨_, h0⟩
  ·exact ⟨_, hcs⟩
 obtain ⟨B, l, cb, rfl, h1, h2⟩ := slice_rd Tryz.underlying79 byEnc (inR .u8) (sz := 1) (by kernel_rfl) (fun n cs y h => o23_by h) h
 exact ⟨l, B, cb, h1, rfl, h2⟩
theorem o23_eras {n : Nat} {cs : List Value} {y : DataW H × List MemPlace} (h : DataW.trod enc Tryz.prog w 0 sp held n 126 cs = some y) : ∃ l, RdCell w E23.enc 8 E23.ok l cs := by
 obtain ⟨v, rfl⟩ : ∃ v, cs = [v] := by
  rcases Deep.open_slice Tryz.underlying126 h with ⟨h0, _⟩ | ⟨a, len, cap, m, n, D, Pl, hcs, _⟩
  ·exact ⟨_, h0⟩
  ·exact ⟨_, hcs⟩
 obtain ⟨B, l, cb, rfl, h1, h2⟩ := slice_rd Tryz.underlying126 E23.enc E23.ok (sz := 8) (by kernel_rfl) (fun n cs y h => rd_E23 h) h
 exact ⟨l, B, cb, h1, rfl, h2⟩
theorem rdLL_of {α : Type} {en : α → List Value} {sz : Nat} {ok : α → Prop} {A : Option Addr} {ls : List (List α)} {c : Nat} (s1 : ls.length ≤ c) (s2 : c ≤ maxLen) (s3 : ∀ k l, ls[k]? = some l → A ≠ none ∧ ∃ cs, RdCell w en sz ok l cs ∧ CellsAt w ((adr A).add (k * 1)) cs) :
  RdLL w A c en sz ls ∧ ∀ l ∈ ls, ∀ x ∈ l, ok x := by
 refine ⟨⟨s1, s2, fun k l hk => ?_⟩, fun l hl => ?_⟩
 ·obtain ⟨h4, cs', ⟨B, cb, h5, rfl, _⟩, h6⟩ := s3 k l hk
  exact ⟨h4, B, cb, h5, h6⟩
 ·obtain ⟨k, hk⟩ := List.getElem?_of_mem hl
  obtain ⟨_, _, ⟨_, _, _, _, h5⟩, _⟩ := s3 k l hk
  exact h5
set_option maxRecDepth 100000 in
theorem open_d23 {v : Value} {r : Reach} {b0 : Nat} {d : DataW H} {ps : List MemPlace} (hv : Value.okWide Tryz.prog w r b0 39 v) (h : DataW.Trod enc Tryz.prog w 0 sp held 39 v d ps) :
  ∃ As Az Al cs cz cl d, v = d23V As Az Al cs cz cl d ∧ RdLL w As cs byEnc 1 d.sets ∧ RdLL w Az cz E23.enc 8 d.zones ∧ RdSl w Al cl byEnc 1 d.links ∧ (∀ l ∈ d.sets, ∀ x ∈ l, inR .u8 x) ∧ (∀ l ∈ d.zones, ∀ x ∈ l, x.ok) ∧ (∀ x ∈ d.links, inR .u8 x) := by
 obtain ⟨vs, rfl, hsz⟩ := okWide_struct Tryz.underlying39 hv
 obtain ⟨fuel, h⟩ := h
 obtain ⟨hl, hf⟩ := field_of Tryz.underlying39 h
 rw [show Tryz.prog.cellsOf 39 = 3 from by kernel_rfl] at hl
 obtain ⟨vs⟩ := vs
 simp only [Value.cells] at hl hf
 obtain ⟨a0, cs0, rfl, hl0⟩ := len_cons hl
 obtain ⟨a1, cs1, rfl, hl1⟩ := len_cons hl0
 obtain ⟨a2, cs2, rfl, hl2⟩ := len_cons hl1
 obtain rfl := List.eq_nil_of_length_eq_zero hl2
 obtain ⟨n0, y0, h0⟩ := hf 0 35 0 1 rfl (by kernel_rfl)
 obtain ⟨n1, y1, h1⟩ := hf 1 36 1 1 rfl (by kernel_rfl)
 obtain ⟨n2, y2, h2⟩ := hf 2 37 2 1 rfl (by kernel_rfl)
 obtain ⟨As, ls, cs, rfl, s1, s2, s3⟩ := slice_of Tryz.underlying35 (fun (l : List Int) cs => RdCell w byEnc 1 (inR .u8) l cs) (fun n cs y h => o23_set h) h0
 obtain ⟨Az, lz, cz, rfl, z1, z2, z3⟩ := slice_of Tryz.underlying36 (fun (l : List E23) cs => RdCell w E23.enc 8 E23.ok l cs) (fun n cs y h => o23_eras h) h1
 obtain ⟨Al, ll, cl, rfl, l1, l2⟩ := slice_rd Tryz.underlying37 byEnc (inR .u8) (sz := 1) (by kernel_rfl) (fun n cs y h => o23_by h) h2
 rw [show Tryz.prog.cellsOf 79 = 1 from by kernel_rfl] at s3
 rw [show Tryz.prog.cellsOf 126 = 1 from by kernel_rfl] at z3
 obtain ⟨g1, g2⟩ := rdLL_of s1 s2 s3
 obtain ⟨g3, g4⟩ := rdLL_of z1 z2 z3
 exact ⟨As, Az, Al, cs, cz, cl, ⟨ls, lz, ll⟩, rfl, g1, g3, l1, g2, g4, l2⟩
set_option maxRecDepth 100000 in
theorem o23_u8 {v : Value} {r : Reach} {b0 : Nat} {d : DataW H} {ps : List MemPlace} (hv : Value.okWide Tryz.prog w r b0 5 v) (h : DataW.Trod enc Tryz.prog w 0 sp held 5 v d ps) : ∃ x : Int, v = .int .u8 x ∧ inR .u8 x := by
 obtain ⟨n, rfl⟩ := okWide_int Tryz.underlying5 hv
 obtain ⟨fuel, h⟩ := h
 obtain ⟨x, e, b⟩ := o23_by h
 simp only [Value.cells, byEnc, List.cons.injEq, and_true] at e
 exact ⟨x, e, b⟩
end
section
variable {H : Type} {enc : TypeId × Value → H} {w : World} {sp : Nat → Bool} {held : Bool}
set_option maxRecDepth 100000 in
theorem open_i64 {v : Value} {r : Reach} {b0 : Nat} {d : DataW H} {ps : List MemPlace} (hv : Value.okWide Tryz.prog w r b0 2 v) (_h : DataW.Trod enc Tryz.prog w 0 sp held 2 v d ps) : ∃ x : Int, v = .int .i64 x := okWide_int Tryz.underlying2 hv
set_option maxRecDepth 100000 in
theorem open_u32 {v : Value} {r : Reach} {b0 : Nat} {d : DataW H} {ps : List MemPlace} (hv : Value.okWide Tryz.prog w r b0 61 v) (h : DataW.Trod enc Tryz.prog w 0 sp held 61 v d ps) : ∃ x : Int, v = .int .u32 x ∧ inR .u32 x := by
 obtain ⟨n, rfl⟩ := okWide_int Tryz.underlying61 hv
 obtain ⟨fuel, h⟩ := h
 have h2 : DataW.trod enc Tryz.prog w 0 sp held fuel 61 [.int .u32 n] = some (d, ps) := h
 obtain ⟨x, e, _, b⟩ := DataW.trod_int Tryz.underlying61 h2
 simp only [List.cons.injEq, and_true] at e
 exact ⟨x, e, inR_of b⟩
set_option maxRecDepth 100000 in
theorem open_u8 {v : Value} {r : Reach} {b0 : Nat} {d : DataW H} {ps : List MemPlace} (hv : Value.okWide Tryz.prog w r b0 5 v) (h : DataW.Trod enc Tryz.prog w 0 sp held 5 v d ps) : ∃ x : Int, v = .int .u8 x ∧ inR .u8 x := o23_u8 hv h
end
end Go.Proofs.YtonjepladadmhaaGreatDoor
namespace Go.Wk
open Go Go.RowKit Go.ChangeShapes Go.WideShapes Go.ChangeAt
section
variable {H : Type} {enc : TypeId × Value → H}
def cellsOfD : DataW Unit → List Value
 | .agg l => l.map fun | .lit (.int k n) => .int k n | _ => undef
 | .lit (.int k n) => [.int k n]
 | _ => []
end
end Go.Wk
