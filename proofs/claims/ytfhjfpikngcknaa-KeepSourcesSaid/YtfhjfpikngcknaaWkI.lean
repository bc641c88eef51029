/- Rows and lists of data. -/
import Derived.Test.YtfhjfpikngcknaaWkH
namespace Go.Wk
open Go Go.RowKit

theorem flat_get {α : Type} {enc : α → List Value} {sz : Nat} (hsz : ∀ x, (enc x).length = sz) : ∀ (l : List α) (k : Nat) (x : α) (j : Nat) (v : Value), l[k]? = some x → (enc x)[j]? = some v → (l.flatMap enc)[k * sz + j]? = some v
  | [], k, x, j, v, h, _ => by simp at h
  | y :: l, 0, x, j, v, h, hv => by
    have e : y = x := by simpa using h
    subst e
    have hj : j < (enc y).length := (List.getElem?_eq_some_iff.1 hv).1
    simp only [List.flatMap_cons, Nat.zero_mul, Nat.zero_add]
    rw [List.getElem?_append_left hj]
    exact hv
  | y :: l, k + 1, x, j, v, h, hv => by
    have h' : l[k]? = some x := by simpa using h
    have ih := flat_get hsz l k x j v h' hv
    simp only [List.flatMap_cons]
    rw [List.getElem?_append_right (by rw [hsz, Nat.add_mul]; omega), hsz, show (k + 1) * sz + j - sz = k * sz + j from by rw [Nat.add_mul]; omega]
    exact ih
theorem flat_len {α : Type} {enc : α → List Value} {sz : Nat} (hsz : ∀ x, (enc x).length = sz) : ∀ l : List α, (l.flatMap enc).length = l.length * sz
  | [] => by simp
  | x :: l => by simp [List.flatMap_cons, hsz, flat_len hsz l, Nat.add_mul]; omega
theorem flat_at {α : Type} {enc : α → List Value} {sz : Nat} (hsz : ∀ x, (enc x).length = sz) (hpos : 0 < sz) (l : List α) (i : Nat) (u : Value) (h : (l.flatMap enc)[i]? = some u) : ∃ x, l[i / sz]? = some x ∧ (enc x)[i % sz]? = some u := by
  have hi : i < l.length * sz := by rw [← flat_len hsz]; exact (List.getElem?_eq_some_iff.1 h).1
  have hk : i / sz < l.length := (Nat.div_lt_iff_lt_mul hpos).2 hi
  have hm : i % sz < sz := Nat.mod_lt _ hpos
  refine ⟨l[i / sz], List.getElem?_eq_getElem hk, ?_⟩
  have hv : (enc l[i / sz])[i % sz]? = some ((enc l[i / sz])[i % sz]'(by rw [hsz]; exact hm)) := List.getElem?_eq_getElem _
  have := flat_get hsz l (i / sz) _ (i % sz) _ (List.getElem?_eq_getElem hk) hv
  rw [show i / sz * sz + i % sz = i from by rw [Nat.mul_comm]; exact Nat.div_add_mod i sz] at this
  rw [hv, ← this, h]

theorem rowRd {α : Type} {enc : α → List Value} {sz e c : Nat} {A : Option Addr} {l : List α} {w : World} (hsz : ∀ x, (enc x).length = sz) (h : (It.row (.slice A l.length c) e sz l.length (l.flatMap enc)).sat w) : RdSl w A c enc sz l := by
  obtain ⟨A', c', e1, h1, h2, _, _⟩ := row_form h
  injection e1 with e2 _ e3
  subst e2 e3
  refine ⟨h1, h2, fun k x hx => ⟨?_, fun j v hv => ?_⟩⟩
  · obtain ⟨_, _, e1, _, _, h3, _⟩ := row_form h
    injection e1 with e2 _ _
    subst e2
    exact h3 (by have := (List.getElem?_eq_some_iff.1 hx).1; omega)
  · rw [add_of_add]
    exact (row_cell h (flat_get hsz l k x j v hx hv)).2

theorem blkRaw {w : World} {b : Nat} {cs : List Value} {t : TypeId} (h : (It.blk b cs t).sat w) : Raw w (some ⟨b, 0, none⟩) cs := fun j u hu => ⟨by simp, by
  simp only [adr, Option.getD_some, add_mk, Nat.zero_add]
  rw [blk_cell h, hu]⟩
theorem rowRaw {w : World} {e size n c : Nat} {A : Option Addr} {xs : List Value} (h : (It.row (.slice A n c) e size n xs).sat w) : Raw w A xs := fun j u hu => row_cell h hu
theorem RdL.raw {α : Type} {enc : α → List Value} {sz : Nat} {A : Option Addr} {l : List α} {w : World} (hsz : ∀ x, (enc x).length = sz) (hpos : 0 < sz) (h : RdL w A enc sz l) : Raw w A (l.flatMap enc) := fun i u hu => by
  obtain ⟨x, h1, h2⟩ := flat_at hsz hpos l i u hu
  obtain ⟨h3, h4⟩ := h _ x h1
  refine ⟨h3, ?_⟩
  have := h4 _ u h2
  rw [add_of_add, show i / sz * sz + i % sz = i from by rw [Nat.mul_comm]; exact Nat.div_add_mod i sz] at this
  exact this
theorem Holds.of {base : Nat} {O R : List It} {A : It} {w : World} (h : Holds base O w) (hp : Pick A O R) : A.sat w := h.sat _ (hp.perm.mem_iff.2 List.mem_cons_self)

theorem all_flat {α : Type} {enc : α → List Value} (h : ∀ x, (enc x).all Value.oneCell' = true) : ∀ l : List α, (l.flatMap enc).all Value.oneCell' = true
  | [] => rfl
  | x :: l => by rw [List.flatMap_cons, List.all_append, h x, all_flat h l]; rfl

/-- A row's value in the spelling of its list. -/
theorem row_eq {A : Option Addr} {e sz n m c : Nat} {xs ys : List Value} (h1 : n = m) (h2 : xs = ys) : It.row (.slice A n c) e sz n xs = It.row (.slice A m c) e sz m ys := by rw [h1, h2]
theorem flat_snoc {α : Type} {enc : α → List Value} (l : List α) (x : α) : l.flatMap enc ++ enc x = (l ++ [x]).flatMap enc := by simp
end Go.Wk
namespace Go.Wk
open Go Go.RowKit
theorem row_some {w : World} {e size n c : Nat} {A : Option Addr} {xs : List Value} (h : (It.row (.slice A n c) e size n xs).sat w) (hn : 0 < n) : A ≠ none := by
  obtain ⟨A2, c2, e1, _, _, h5, _⟩ := row_form h
  injection e1 with e2 _ _
  subst e2
  exact h5 hn
section
variable {P : Program} {n : Nat} {wr : World} {fr : Fr} {O : List It} {ty : TypeId}
/-- A cell of a row of the call's own. -/
theorem Pu_loadR {t sz e size p m c : Nat} {x : Operand} {A : Option Addr} {xs : List Value} {v : Value} {R : List It} [Ty P t sz false] (hx : ev fr x = some (.pointer (some ((adr A).add p))))
    (hp : Pick (.row (.slice A m c) e size m xs) O R) (hv : xs[p]? = some v) : Pu P n wr fr O (.load t x) ty v :=
  Pu_load1 hx fun w _ hO => (row_cell (hO.of hp) hv).2
end
/-- What a loop that collects has at its head. -/
structure AG (α : Type) where
  k : Nat
  A : Option Addr
  c : Nat
  m : Nat
  xs : List Value
  acc : List α
theorem DRule.len (x : DRule) : x.enc.length = 11 := rfl
theorem DEra.len (x : DEra) : x.enc.length = 13 := rfl
theorem DLink.len (x : DLink) : x.enc.length = 2 := rfl
theorem strEnc.len (x : ByteArray) : (strEnc x).length = 1 := rfl
end Go.Wk
namespace Go.Wk
open Go Go.RowKit
section
variable {P : Program} {n : Nat} {wr : World} {fr : Fr} {O : List It} {ty : TypeId} {pos : String} {af : Array Edge} {dst : Option Tmp} {g : Option (Nat × Bool)} {Kp : Value → List It → Prop}
/-- append onto an empty row. -/
theorem Stp_append0 {t e sz bytes : Nat} {s x : Operand} {A B : Option Addr} {c k c2 : Nat} {news : List Value} {O' : Option Addr → Nat → List It} [hE : ElemZ P t e sz bytes]
    (hs : ev fr s = some (.slice A 0 c)) (hx : ev fr x = some (.slice B k c2))
    (hu : ∀ A' c', Upd O (.row (.slice A 0 c) e sz 0 []) (.row (.slice A' k c') e sz k news) (O' A' c'))
    (hraw : ∀ w, Below wr.heap.size wr w → Holds wr.heap.size O w → Raw w B news) (hl : news.length = k * sz) (h1 : news.all Value.oneCell' = true) (h63 : k ≤ maxLen) (hb : k * bytes ≤ 140737488355328)
    (kk : ∀ A' c', k ≤ c' → c' ≤ maxLen → (0 < k → A' ≠ none) → Kp (.slice A' k c') (O' A' c')) : Stp P n wr fr O ⟨dst, .call ⟨.builtin .append, #[s, x], #[t, t]⟩, ty, pos, af, g⟩ Kp :=
  Stp_append (O' := O') hs hx (fun A' c' => by rw [Nat.zero_add, List.nil_append]; exact hu A' c') hraw hl h1 (by omega) (by simpa using hb) (fun A' c' h2 h3 h4 => by
    have := kk A' c' (by omega) h3 (fun h => h4 (by omega))
    simpa using this)
end
theorem RdSl.none {α : Type} {w : World} {A : Option Addr} {c : Nat} {enc : α → List Value} {sz : Nat} {xs : List α} (h : RdSl w A c enc sz xs) (hA : A.isNone = true) : xs = [] := by
  cases xs with
  | nil => rfl
  | cons x l =>
    have := (h.rd 0 x rfl).1
    simp at hA
    exact absurd hA this
theorem oneR (x : DRule) : x.enc.all Value.oneCell' = true := rfl
theorem oneE (x : DEra) : x.enc.all Value.oneCell' = true := rfl
theorem oneL (x : DLink) : x.enc.all Value.oneCell' = true := rfl
theorem oneS (x : ByteArray) : (strEnc x).all Value.oneCell' = true := rfl
end Go.Wk
