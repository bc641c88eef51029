/- For every input analemmalaw33.KeepSources returns true, and its arguments read behind the call as they did; no condition. -/
import Derived.Test.YtfhjfpikngcknaaKeepM
import Derived.Test.YtfhjfpikngcknaaOpnS
import Derived.Test.YtfhjfpikngcknaaRows
namespace Go.Proofs.Ytfhjfpikngcknaa
open Go Go.RowKit Go.Wk Go.ChangeShapes Go.WideShapes Go.ChangeAt
theorem laid_out3 : laidOutB Try.prog = true := by kernel_rfl
theorem own_knob3 : ownKnob Try.prog.godebug = none := by kernel_rfl
section
variable {H : Type} {enc : TypeId × Value → H} {w : World} {sp : Nat → Bool} {held : Bool}
set_option maxRecDepth 100000 in
theorem open_options {v : Value} {r : Reach} {b0 : Nat} {d : DataW H} {ps : List MemPlace} (hv : Value.okWide Try.prog w r b0 45 v) (h : DataW.Trod enc Try.prog w 0 sp held 45 v d ps) :
    ∃ A c o, v = optV A c o ∧ RdSl w A c strEnc 1 o.keep ∧ ∀ x ∈ o.keep, x.size ≤ maxLen := by
  obtain ⟨vs, rfl, hsz⟩ := okWide_struct Try.underlying45 hv
  obtain ⟨fuel, h⟩ := h
  obtain ⟨hl, hf⟩ := field_of Try.underlying45 h
  rw [show Try.prog.cellsOf 45 = 3 from by kernel_rfl] at hl
  obtain ⟨vs⟩ := vs
  simp only [Value.cells] at hl hf
  obtain ⟨a0, cs0, rfl, hl0⟩ := len_cons hl
  obtain ⟨a1, cs1, rfl, hl1⟩ := len_cons hl0
  obtain ⟨a2, cs2, rfl, hl2⟩ := len_cons hl1
  obtain rfl := List.eq_nil_of_length_eq_zero hl2
  obtain ⟨n0, y0, h0⟩ := hf 0 4 0 1 rfl (by kernel_rfl)
  obtain ⟨n1, y1, h1⟩ := hf 1 4 1 1 rfl (by kernel_rfl)
  obtain ⟨n2, y2, h2⟩ := hf 2 25 2 1 rfl (by kernel_rfl)
  obtain ⟨x0, e0, _⟩ := DataW.trod_bool Try.underlying4 h0
  obtain ⟨x1, e1, _⟩ := DataW.trod_bool Try.underlying4 h1
  simp only [List.drop, List.take, List.cons.injEq, and_true] at e0 e1
  subst e0 e1
  obtain ⟨As, ls, cs, rfl, s1, s2⟩ := slice_rd Try.underlying25 strEnc (fun d => d.size ≤ maxLen) (sz := 1) (by kernel_rfl) (fun n cs y h => rd_str h) h2
  exact ⟨As, cs, ⟨x0, x1, ls⟩, rfl, s1, s2⟩
set_option maxRecDepth 100000 in
theorem open_strings {v : Value} {r : Reach} {b0 : Nat} {d : DataW H} {ps : List MemPlace} (hv : Value.okWide Try.prog w r b0 25 v) (h : DataW.Trod enc Try.prog w 0 sp held 25 v d ps) :
    ∃ A l c, v = .slice A l.length c ∧ RdSl w A c strEnc 1 l ∧ ∀ x ∈ l, x.size ≤ maxLen := by
  obtain ⟨a, len, cap, rfl⟩ := okWide_slice Try.underlying25 hv
  obtain ⟨fuel, h⟩ := h
  exact slice_rd Try.underlying25 strEnc (fun d => d.size ≤ maxLen) (sz := 1) (by kernel_rfl) (fun n cs y h => rd_str h) h
end

set_option maxRecDepth 100000 in
theorem keepSources_walk {H : Type} {enc : TypeId × Value → H} (W : World) (base : Nat) (args : List Value) (ds : List (DataW H)) (p : List MemPlace)
    (hval : ∀ (j : Nat) t v, [27, 45, 25][j]? = some t → args[j]? = some v → Value.okWide Try.prog W .any base t v)
    (hA : DataW.TrodAll enc Try.prog W 0 (fun _ => true) true [27, 45, 25] args ds p) : Does Try.prog 5 args W (fun v _ => v = .bool true) := by
  obtain ⟨v0, vs0, d0, ds0, p0, q0, rfl, rfl, rfl, h0, r0⟩ := trodAll_cons hA
  obtain ⟨v1, vs1, d1, ds1, p1, q1, rfl, rfl, rfl, h1, r1⟩ := trodAll_cons r0
  obtain ⟨v2, vs2, d2, ds2, p2, q2, rfl, rfl, rfl, h2, r2⟩ := trodAll_cons r1
  obtain ⟨rfl, rfl, rfl⟩ := trodAll_nil r2
  obtain ⟨Ar, Az, Al, As, cr, cz, cl, cs, a, rfl, ha, _⟩ := open_source (hval 0 _ v0 rfl rfl) h0
  obtain ⟨Ao, co, o, rfl, ho, _⟩ := open_options (hval 1 _ v1 rfl rfl) h1
  obtain ⟨An, ln, cn, rfl, hn, _⟩ := open_strings (hval 2 _ v2 rfl rfl) h2
  exact (keepSources_spec Ar Az Al As cr cz cl cs a Ao co o An cn ln W ha ho hn).mono fun v O h => h.1

set_option maxRecDepth 100000 in
theorem keepSources_lifted (os : Os) (started : os.Started) (H : Type) (enc : TypeId × Value → H) :
    ReturnsInHanded {} Try.checked os 5 .any (Rows.keepSourcesSpec.pre6 enc Try.prog Try.f5 Rows.keepSourcesRow.domain false) (Rows.keepSourcesSpec.post enc Try.prog Try.f5 false true false false) := by
  refine law_lifted (C := Try.checked) (t := 4) own_knob3 started (by kernel_rfl) Try.func5
    (ChangeSpec.witness6 (enc := enc) (C := Try.checked) false ⟨#[], #[.agg #[.slice none 0 0, .slice none 0 0, .slice none 0 0, .slice none 0 0], .agg #[.bool false, .bool false, .slice none 0 0], .slice none 0 0], []⟩ 8 (by kernel_rfl) (by kernel_rfl) (by kernel_rfl) (by kernel_rfl)) rfl rfl Try.underlying4 laid_out3 (by kernel_rfl) ?_ ?_
  · intro ds hd
    obtain ⟨d0, ds0, rfl, h0⟩ := len_cons (k := 2) hd
    obtain ⟨d1, ds1, rfl, h1⟩ := len_cons h0
    obtain ⟨d2, ds2, rfl, h2⟩ := len_cons h1
    obtain rfl := List.eq_nil_of_length_eq_zero h2
    rfl
  · intro W base args ds p hval hA
    exact keepSources_walk W base args ds p hval hA

theorem keepSources_holds : Rows.KeepSourcesSaid :=
  OpenClaim.holds_of_wide 5 Try.f5 rfl rfl rfl rfl rfl rfl rfl ⟨rfl, rfl, rfl, rfl, rfl⟩ rfl rfl rfl rfl rfl (by kernel_rfl) Try.func5 (by kernel_rfl)
    (of_decide_eq_true (by kernel_rfl)) (by unfold Func.isWrapper; first | (rw [if_pos (by decide +kernel)]; kernel_rfl) | (rw [if_neg (by decide +kernel)]; exact ⟨rfl, rfl⟩))
    (fun os started H enc _ => keepSources_lifted os started H enc)
end Go.Proofs.Ytfhjfpikngcknaa
