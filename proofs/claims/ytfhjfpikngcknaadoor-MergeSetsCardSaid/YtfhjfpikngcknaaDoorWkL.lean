/- The way from a contract 'Does' to a given row: the arguments read behind the call as they did. -/
import Derived.Test.YtfhjfpikngcknaaDoorWkI
import Derived.ProofKit
import Derived.OpenShut
import Derived.JoinedCond
import Derived.Deep.Slices
namespace Go.Wk
open Go Go.RowKit Go.ChangeShapes Go.WideShapes Go.ChangeAt
section
variable {H : Type} {enc : TypeId × Value → H} {P : Program}

theorem trodAll_stays (hl : laidOutB P = true) {W W' : World} (hb : Below W.heap.size W W') {sp : Nat → Bool} : ∀ {ts : List TypeId} {vs : List Value} {ds : List (DataW H)} {ps : List MemPlace},
    (∀ t ∈ ts, P.readableRec t = true ∧ t < P.types.size) → DataW.TrodAll enc P W 0 (fun _ => true) true ts vs ds ps → (∀ p ∈ ps, p.block < W.heap.size) → (∀ p ∈ ps, sp p.block = true) → DataW.TrodAll enc P W' 0 sp true ts vs ds ps
  | [], _, _, _, _, h, _, _ => by
    obtain ⟨rfl, rfl, rfl⟩ := trodAll_nil h
    rfl
  | t :: ts, _, _, _, hr, h, hlt, hsp => by
    obtain ⟨v, vs, d, ds, p, q, rfl, rfl, rfl, h1, h2⟩ := trodAll_cons h
    obtain ⟨r1, r2⟩ := hr t List.mem_cons_self
    refine ⟨p, q, WideElems.Trod_stays hl r1 r2 h1 (fun x hx => hb.same (hlt x (List.mem_append_left _ hx))) (fun x hx => hsp x (List.mem_append_left _ hx)), ?_, rfl⟩
    exact trodAll_stays hl hb (fun t ht => hr t (List.mem_cons_of_mem _ ht)) h2 (fun x hx => hlt x (List.mem_append_right _ hx)) (fun x hx => hsp x (List.mem_append_right _ hx))

theorem trodAll_len {w : World} {base : Nat} {sp : Nat → Bool} {held : Bool} : ∀ {ts : List TypeId} {vs : List Value} {ds : List (DataW H)} {ps : List MemPlace}, DataW.TrodAll enc P w base sp held ts vs ds ps → vs.length = ts.length ∧ ds.length = ts.length
  | [], _, _, _, h => by
    obtain ⟨rfl, rfl, rfl⟩ := trodAll_nil h
    exact ⟨rfl, rfl⟩
  | t :: ts, _, _, _, h => by
    obtain ⟨v, vs, d, ds, p, q, rfl, rfl, rfl, h1, h2⟩ := trodAll_cons h
    have := trodAll_len h2
    exact ⟨by simp [this.1], by simp [this.2]⟩

/-- What a row of a law asks behind the call. -/
theorem law_post {fn : Func} {s : ChangeSpec} {W W' : World} {args : Array Value} {ds gs : List (DataW H)} {before : List MemPlace} {t : TypeId} (hvars : s.vars = []) (hres : fn.resultTypes = #[t]) (ht : P.underlying t = some .bool) (hl : laidOutB P = true)
    (hr : ∀ t ∈ fn.params.toList, P.readableRec t = true ∧ t < P.types.size) (hspec : ∀ ds : List (DataW H), ds.length = fn.params.toList.length → s.fn H ds = { results := [.lit (.bool true)], args := ds })
    (hW : DataW.Whole enc P fn.params.toList s.vars false W args.toList ds gs before) (hb : Below W.heap.size W W') : s.post enc P fn false true false false W args (.bool true) W' := by
  have hW' := hW
  obtain ⟨p, q, hA, hV, rfl, hz, hn⟩ := hW
  rw [hvars] at hV
  obtain ⟨rfl, rfl⟩ := trodVars_none hV
  have hlt : ∀ x ∈ p, x.block < W.heap.size := fun x hx => hW'.lt x (List.mem_append_left _ hx)
  have hs := hspec ds (trodAll_len hA).2
  refine ⟨ds, [], _, [], p, [], hW', ?_, ?_, ?_, hb.frame _, fun h => by cases h⟩
  · rw [List.append_nil, hs, hres]
    exact ⟨[], [], shut_bool ht true, rfl, rfl⟩
  · rw [List.append_nil, hs]
    exact trodAll_stays hl hb hr hA hlt (fun x hx => by simpa using hlt x hx)
  · rw [List.append_nil, hs, hvars]
    rfl

theorem law_lifted {C : Checked} {os : Os} {f : FuncId} {fn : Func} {s : ChangeSpec} {conds : List PathCond} {t : TypeId} (own : ownKnob C.prog.godebug = none) (started : os.Started) (noInit : C.prog.inits.idxOf? f = none) (hfn : C.prog.funcs[f]? = some fn)
    (witness : ∃ (w : World) (tape : Tape) (i : Input), w.os = os ∧ (w.forCall tape i).Shaped C.prog ∧ i.vars = [] ∧ Input.okWide C.prog (w.forCall tape i) .any w.heap.size f i ∧
      s.pre6 enc C.prog fn conds false (w.forCall tape i).memory i.args ∧ ({} : Assume).holds C.prog (lone (Frame.enter C.prog f i.args .normal) [] (w.forCall tape i)))
    (hvars : s.vars = []) (hres : fn.resultTypes = #[t]) (ht : C.prog.underlying t = some .bool) (hl : laidOutB C.prog = true)
    (hr : fn.params.toList.all (fun t => C.prog.readableRec t && decide (t < C.prog.types.size)) = true) (hspec : ∀ ds : List (DataW H), ds.length = fn.params.toList.length → s.fn H ds = { results := [.lit (.bool true)], args := ds })
    (walk : ∀ (W : World) (base : Nat) (args : List Value) (ds : List (DataW H)) (p : List MemPlace), (∀ (j : Nat) t v, fn.params.toList[j]? = some t → args[j]? = some v → Value.okWide C.prog W .any base t v) →
      DataW.TrodAll enc C.prog W 0 (fun _ => true) true fn.params.toList args ds p → Does C.prog f args W (fun v _ => v = .bool true)) :
    ReturnsInHanded {} C os f .any (s.pre6 enc C.prog fn conds false) (s.post enc C.prog fn false true false false) := by
  have hr' : ∀ t ∈ fn.params.toList, C.prog.readableRec t = true ∧ t < C.prog.types.size := fun t ht => by
    have := List.all_eq_true.1 hr t ht
    simpa using this
  refine returnsInHanded_of_change (C := C) own started noInit hfn witness ?_
  intro W base args ds gs before hval hW _ _
  obtain ⟨p, q, hA, _⟩ := id hW
  have hd := walk W base args.toList ds p (fun j t v h1 h2 => hval j t v (by simpa using h1) (by simpa using h2)) hA
  unfold Does at hd
  rw [Array.toArray_toList] at hd
  refine hd.mono ?_
  rintro e W' ⟨v, O, rfl, hb, _, rfl⟩
  exact ⟨_, rfl, law_post hvars hres ht hl hr' hspec hW hb⟩

/-- A struct's field. -/
theorem field_of {w : World} {base : Nat} {sp : Nat → Bool} {held : Bool} {t : TypeId} {fuel : Nat} {cs : List Value} {x : DataW H × List MemPlace} {fs : Array Field} (ht : P.underlying t = some (.struct fs)) (h : DataW.trod enc P w base sp held fuel t cs = some x) :
    cs.length = P.cellsOf t ∧ ∀ (i ty off sz : Nat), (fs[i]?).map (fun f => (f.type, f.offset)) = some (ty, off) → P.cellsOf ty = sz → ∃ n y, DataW.trod enc P w base sp held n ty ((cs.drop off).take sz) = some y := by
  obtain ⟨xs, n, _, _, hl, hlen, hf⟩ := DataW.trod_struct ht h
  refine ⟨hl, fun i ty off sz hi hsz => ⟨n, ?_⟩⟩
  obtain ⟨f, hi2, e⟩ := Option.map_eq_some_iff.1 hi
  simp only [Prod.mk.injEq] at e
  obtain ⟨rfl, rfl⟩ := e
  subst hsz
  have := hf i f hi2
  have hlt : i < xs.length := by rw [hlen]; exact (Array.getElem?_eq_some_iff.1 hi2).1
  rw [List.getElem?_eq_getElem hlt] at this
  exact ⟨_, this⟩

/-- A slice whose elements read each as a thing of their type. -/
theorem slice_of {α : Type} {w : World} {sp : Nat → Bool} {held : Bool} {t e : TypeId} {fuel : Nat} {v : Value} {x : DataW H × List MemPlace} (ht : P.underlying t = some (.slice e)) (R : α → List Value → Prop)
    (he : ∀ n cs y, DataW.trod enc P w 0 sp held n e cs = some y → ∃ a, R a cs) (h : DataW.trod enc P w 0 sp held fuel t [v] = some x) :
    ∃ (A : Option Addr) (l : List α) (c : Nat), v = .slice A l.length c ∧ l.length ≤ c ∧ c ≤ maxLen ∧ ∀ k a, l[k]? = some a → A ≠ none ∧ ∃ cs, R a cs ∧ CellsAt w ((adr A).add (k * P.cellsOf e)) cs := by
  rcases Deep.open_slice ht h with ⟨h0, _⟩ | ⟨a, len, cap, m, n, D, Pl, hcs, hb, hl, hm, hmm, hx, hi⟩
  · injection h0 with h0 _
    exact ⟨none, [], 0, h0, Nat.le_refl _, Nat.zero_le _, fun k a h => by simp at h⟩
  · injection hcs with hcs _
    have hle : len ≤ m := by rw [hmm]; split <;> omega
    have key : ∀ i, i < len → ∃ a' : α, ∃ cs, R a' cs ∧ CellsAt w (a.add (i * P.cellsOf e)) cs := fun i hi' => by
      obtain ⟨cs', h1, h2⟩ := hi i (by omega)
      obtain ⟨a', ha'⟩ := he _ _ _ h2
      obtain ⟨_, hcl, hat⟩ := World.cells?_some h1
      refine ⟨a', cs', ha', fun j v hj => ?_⟩
      rw [hat j (by have := (List.getElem?_eq_some_iff.1 hj).1; omega), hj]
    clear hi hx
    have all : ∀ n, n ≤ len → ∃ l : List α, l.length = n ∧ ∀ k a', l[k]? = some a' → ∃ cs, R a' cs ∧ CellsAt w (a.add (k * P.cellsOf e)) cs := by
      intro n
      induction n with
      | zero => exact fun _ => ⟨[], rfl, fun k a' h => by simp at h⟩
      | succ n ih =>
        intro hn
        obtain ⟨l, h1, h2⟩ := ih (by omega)
        obtain ⟨a', h3⟩ := key n (by omega)
        refine ⟨l ++ [a'], by simp [h1], fun k b hk => ?_⟩
        by_cases hkn : k < n
        · rw [List.getElem?_append_left (by omega)] at hk
          exact h2 k b hk
        · have hk2 := (List.getElem?_eq_some_iff.1 hk).1
          simp at hk2
          have : k = n := by omega
          subst this
          rw [List.getElem?_append_right (by omega), h1] at hk
          simp at hk
          subst hk
          exact h3
    obtain ⟨l, h1, h2⟩ := all len (Nat.le_refl _)
    exact ⟨some a, l, cap, by rw [hcs, h1], by omega, hm, fun k b hk => ⟨by simp, h2 k b hk⟩⟩

/-- .. where the elements are data. -/
theorem slice_rd {α : Type} {w : World} {sp : Nat → Bool} {held : Bool} {t e : TypeId} {fuel : Nat} {v : Value} {x : DataW H × List MemPlace} (ht : P.underlying t = some (.slice e)) (en : α → List Value) (ok : α → Prop) {sz : Nat} (hsz : P.cellsOf e = sz)
    (he : ∀ n cs y, DataW.trod enc P w 0 sp held n e cs = some y → ∃ a, cs = en a ∧ ok a) (h : DataW.trod enc P w 0 sp held fuel t [v] = some x) :
    ∃ (A : Option Addr) (l : List α) (c : Nat), v = .slice A l.length c ∧ RdSl w A c en sz l ∧ ∀ a ∈ l, ok a := by
  obtain ⟨A, l, c, h1, h2, h3, h4⟩ := slice_of ht (fun (a : α) cs => cs = en a ∧ ok a) he h
  refine ⟨A, l, c, h1, ⟨h2, h3, fun k a hk => ?_⟩, fun a ha => ?_⟩
  · obtain ⟨h5, cs, ⟨rfl, _⟩, h6⟩ := h4 k a hk
    rw [hsz] at h6
    exact ⟨h5, h6⟩
  · obtain ⟨k, hk⟩ := List.getElem?_of_mem ha
    obtain ⟨_, _, ⟨_, h5⟩, _⟩ := h4 k a hk
    exact h5
end
theorem len_cons {α : Type} {l : List α} {k : Nat} (h : l.length = k + 1) : ∃ a r, l = a :: r ∧ r.length = k := by
  cases l with
  | nil => simp at h
  | cons a r => exact ⟨a, r, rfl, by simpa using h⟩
/-- The range of a number of a kind. -/
def inR (k : IntKind) (n : Int) : Prop := k.min ≤ n ∧ n ≤ k.max
theorem inR_of {k : IntKind} {n : Int} (h : (Lit.int k n).wf = true) : inR k n := by
  simpa [Lit.wf, inR] using h
end Go.Wk
