/- Rows cleared, rows cut short; cells behind a slice's slice. -/
import Derived.Test.YtfhjfpikngcknaaWkR
namespace Go.Wk
open Go Go.RowKit
section
variable {P : Program} {n : Nat} {wr : World} {fr : Fr} {O : List It} {ty : TypeId} {pos : String} {af : Array Edge} {dst : Option Tmp} {g : Option (Nat × Bool)} {Kp : Value → List It → Prop}
theorem row_storeCells {e size m c p : Nat} {A : Option Addr} {xs xs' vs : List Value} {O' : List It} {a : Act} {w : World} (hs : St n wr fr O a w)
    (hu : Upd O (.row (.slice A m c) e size m xs) (.row (.slice A m c) e size m xs') O') (h1 : vs.all Value.oneCell' = true) (hp : p + vs.length ≤ xs.length) (h0 : 0 < vs.length) (hc : lay xs p vs = xs') :
    ∃ w', (storeCells ((adr A).add p) vs 0).run P w = .ok () w' ∧ Below wr.heap.size wr w' ∧ Holds wr.heap.size O' w' := by
  have hsat := hs.own.sat _ hu.mem
  obtain ⟨hxl, hnn | ⟨b, cap, cur, hval, hb0, hg, hmc, hcm, hsz, hcur⟩⟩ := id hsat
  · obtain ⟨_, rfl⟩ := hnn
    simp at hxl
    subst hxl
    simp only [List.length_nil] at hp
    omega
  injection hval with hA _ hcc
  subst hA hcc
  have hb := hs.own.inb _ hu.mem b (by simp [It.S, Value.ownBlock])
  have hxc : xs.length ≤ cur.size := by rw [← hcur, List.length_take, Array.length_toList]; omega
  have hg' : w.heap[b]? = some (.cells cur.toList.toArray e (0, 0)) := by rw [Array.toArray_toList]; exact hg
  have had : (adr (some (⟨b, 0, none⟩ : Addr))).add p = ⟨b, p, none⟩ := by
    rw [show adr (some (⟨b, 0, none⟩ : Addr)) = ⟨b, 0, none⟩ from rfl, add_mk, Nat.zero_add]
  rw [had]
  have hcell : ∀ i, w.cell? ⟨b, i, none⟩ = cur.toList[i]? := fun i => by simp [World.cell?, hg]
  have hfz : ∀ i, w.frozen? ⟨b, i, none⟩ = false := fun i => by simp [World.frozen?, hg]
  have hrun := run_storeCells (P := P) (ad := ⟨b, p, none⟩) vs w 0 (fun u hu => List.all_eq_true.1 h1 u hu) (fun i hi => by
    rw [add_mk, hcell, hfz]
    refine ⟨?_, rfl⟩
    rw [List.getElem?_eq_getElem (by rw [Array.length_toList]; omega)]
    rfl)
  refine ⟨setCells w ⟨b, p, none⟩ vs 0, hrun, ?_, ?_⟩
  · refine hs.old.trans ⟨(setCells_os vs w 0).1, (setCells_os vs w 0).2.1, (setCells_os vs w 0).2.2, by rw [setCells_size]; exact Nat.le_refl _, fun i hi => setCells_heap vs w 0 i (by show i ≠ b; omega)⟩
  · refine hs.own.upd hu hs.old.size (by rw [setCells_size]; exact Nat.le_refl _) (fun i _ hi => setCells_heap vs w 0 i (fun e => hi (by rw [e]; simp [It.S, Value.ownBlock]))) ?_ (fun i hi => Or.inl hi)
    have hblk := setCells_blk (b := b) (j := p) (t := e) vs cur.toList w 0 hg'
    simp only [Nat.add_zero] at hblk
    subst hc
    refine ⟨by rw [lay_length]; exact hxl, .inr ⟨b, c, _, rfl, Nat.zero_le _, hblk, hmc, hcm, ?_, ?_⟩⟩
    · rw [List.size_toArray, lay_length, Array.length_toList]; exact hsz
    · rw [List.toList_toArray, lay_take, hcur]
/-- clear(s[k:]) of a row of the call's own: zeros there. -/
theorem Stp_clearR {t e sz bytes p k m c cp : Nat} {x : Operand} {ad : Addr} {xs : List Value} {z : Value} {O' : List It} [hE : ElemZ P t e sz bytes] [hz : ZeroV P e z] (hx : ev fr x = some (.slice (some (ad.add p)) k cp))
    (hu : Upd O (.row (.slice (some ad) m c) e sz m xs) (.row (.slice (some ad) m c) e sz m (lay xs p (Builtin.zeroCells z.cells k).toList)) O') (h1 : (Builtin.zeroCells z.cells k).toList.all Value.oneCell' = true) (hk : 0 < k) (hp : p + k * sz ≤ xs.length)
    (kk : Kp (.tuple #[]) O') : Stp P n wr fr O ⟨dst, .call ⟨.builtin .clear, #[x], #[t]⟩, ty, pos, af, g⟩ Kp := by
  refine Stp_val fun a w hs => ?_
  obtain ⟨i, z', ht, hi, hz', hsz, hby, hzs, hpos⟩ := ElemZ.parts hE.h
  have hzz : z' = z := by
    have h := hz.h
    unfold zeroV at h
    rw [hi] at h
    exact Option.some.inj (hz'.symm.trans h)
  subst hzz
  have hlen : (Builtin.zeroCells z'.cells k).toList.length = k * sz := by rw [Array.length_toList, size_zeroCells, hzs]
  obtain ⟨w', hr, h2, h3⟩ := row_storeCells (P := P) hs hu h1 (by rw [hlen]; exact hp) (by rw [hlen]; exact Nat.mul_pos hk hpos) rfl
  refine ⟨.tuple #[], w', O', ?_, h2, h3, kk⟩
  obtain ⟨k, rfl⟩ : ∃ k', k = k' + 1 := ⟨k - 1, by omega⟩
  have hr' : (storeCells (ad.add p) (Builtin.zeroCells z'.cells (k + 1)).toList 0).run P w = .ok () w' := hr
  simp [execOp, resolve, invoke, builtin, Builtin.clear_, hs.sim.ev hx, run_underlying ht, run_zeroV, hr']
/-- A row cut short. -/
theorem W_shrink {c0 : Code} {Q : Exit → Fr → List It → Prop} {e size m c : Nat} {A : Option Addr} {xs : List Value} {O' : List It} (k : Nat) (hk : k ≤ m) (hu : Upd O (.row (.slice A m c) e size m xs) (.row (.slice A k c) e size k (xs.take (k * size))) O')
    (h : W P n wr c0 Q fr O') : W P n wr c0 Q fr O := fun a w hs => h a w ⟨hs.sim, hs.old, by
  refine hs.own.upd hu hs.old.size (Nat.le_refl _) (fun _ _ _ => rfl) ?_ (fun i hi => ?_)
  · have hsat := hs.own.sat _ hu.mem
    obtain ⟨hxl, hnn | ⟨b, cap, cur, hval, hb0, hg, hmc, hcm, hsz, hcur⟩⟩ := hsat
    · obtain ⟨hv, rfl⟩ := hnn
      obtain rfl : k = 0 := by omega
      injection hv with h1 _ h3
      subst h1 h3
      exact ⟨by simp, .inl ⟨rfl, rfl⟩⟩
    · injection hval with hA _ hcc
      subst hA hcc
      refine ⟨?_, .inr ⟨b, c, cur, rfl, Nat.zero_le _, hg, by omega, hcm, hsz, ?_⟩⟩
      · have hle : k * size ≤ m * size := Nat.mul_le_mul_right size hk
        rw [List.length_take, hxl]
        omega
      · have hle : k * size ≤ m * size := Nat.mul_le_mul_right size hk
        rw [← hcur, List.take_take, Nat.min_eq_left hle]
  · left
    simp only [It.S, Value.ownBlock] at hi ⊢
    cases A with
    | none => exact hi
    | some a => exact hi⟩
/-- A row cut short. -/
theorem RL_shrink {ops : Array Oper} {l0 : List Oper} {K : Fr → List It → Prop} {e size m c : Nat} {A : Option Addr} {xs : List Value} {O' : List It} (k : Nat) (hk : k ≤ m) (hu : Upd O (.row (.slice A m c) e size m xs) (.row (.slice A k c) e size k (xs.take (k * size))) O')
    (h : RL P n wr ops l0 K fr O') : RL P n wr ops l0 K fr O := fun a w hs => h a w ⟨hs.sim, hs.old, by
  refine hs.own.upd hu hs.old.size (Nat.le_refl _) (fun _ _ _ => rfl) ?_ (fun i hi => ?_)
  · have hsat := hs.own.sat _ hu.mem
    obtain ⟨hxl, hnn | ⟨b, cap, cur, hval, hb0, hg, hmc, hcm, hsz, hcur⟩⟩ := hsat
    · obtain ⟨hv, rfl⟩ := hnn
      obtain rfl : k = 0 := by omega
      injection hv with h1 _ h3
      subst h1 h3
      exact ⟨by simp, .inl ⟨rfl, rfl⟩⟩
    · injection hval with hA _ hcc
      subst hA hcc
      refine ⟨?_, .inr ⟨b, c, cur, rfl, Nat.zero_le _, hg, by omega, hcm, hsz, ?_⟩⟩
      · have hle : k * size ≤ m * size := Nat.mul_le_mul_right size hk
        rw [List.length_take, hxl]
        omega
      · have hle : k * size ≤ m * size := Nat.mul_le_mul_right size hk
        rw [← hcur, List.take_take, Nat.min_eq_left hle]
  · left
    simp only [It.S, Value.ownBlock] at hi ⊢
    cases A with
    | none => exact hi
    | some a => exact hi⟩
/-- A cell of a row, through a slice of it. -/
theorem Pu_loadR2 {t sz e size p q m c : Nat} {x : Operand} {ad : Addr} {xs : List Value} {v : Value} {R : List It} [Ty P t sz false] (hx : ev fr x = some (.pointer (some ((adr (some (ad.add q))).add p))))
    (hp : Pick (.row (.slice (some ad) m c) e size m xs) O R) (hv : xs[q + p]? = some v) : Pu P n wr fr O (.load t x) ty v :=
  Pu_load1 hx fun w _ hO => by
    rw [show adr (some (ad.add q)) = ad.add q from rfl, add_of_add]
    exact (row_cell (hO.of hp) hv).2
end
end Go.Wk
