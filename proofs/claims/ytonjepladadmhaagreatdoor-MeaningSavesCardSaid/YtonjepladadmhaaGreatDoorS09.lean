/- Calls that write what the caller owns; stores into rows. The package-level variables that accept's code reads. Rules for arrays behind pointers, quotients rounded to zero. One step of a walk that stops at blocks; printed by genwalk.py, my own program. The year of a day of 400 years: its bounds, day by day in the kernel. -/
import Derived.Test.YtonjepladadmhaaGreatDoorS08
import Derived.Orders
import Derived.Test.YtonjepladadmhaaGreatDoorS07
import Derived.Test.YtonjepladadmhaaGreatDoorS01
set_option maxHeartbeats 4000000
set_option linter.unusedVariables false
set_option linter.unusedSimpArgs false
namespace Go.Wk
open Go Go.RowKit
def DoesIn (P : Program) (f : FuncId) (args : List Value) (wr : World) (O : List It) (R : Value → List It → Prop) : Prop :=
 ∀ w, Bel wr.heap.size wr w → Holds wr.heap.size O w → Calls P f args.toArray w fun e w' => ∃ v O', e = .returned v ∧ Bel wr.heap.size wr w' ∧ Holds wr.heap.size O' w' ∧ R v O'
theorem DoesIn_of_W {P : Program} {f : FuncId} {fn : Func} {c : Code} {args : List Value} {wr : World} {O : List It} {R : Value → List It → Prop} {n : Nat} {rs : List ResultVar} (hf : P.funcs[f]? = some fn) (hb : fn.body = some c) (hn : fn.ntmps = n) (hr : fn.results = rs.toArray)
  (ha : Nat.ble args.length n = true) (h : W P n wr c (retQ P wr rs R) (argsFr 0 args) O) : DoesIn P f args wr O R := by
 intro w hB hH
 refine calls_of_wp hf hb ?_
 have hst : St n wr (argsFr 0 args) O { tmps := args.toArray ++ Array.replicate (fn.ntmps - args.toArray.size) undef, defers := [] } w := by
  have ha' : args.length ≤ n := Nat.le_of_ble_eq_true ha
  refine ⟨⟨rfl, by simp; omega, fun t v hv => ?_⟩, hB, hH⟩
  have := (look_argsFr args 0 t v hv).2
  simp only [Nat.sub_zero] at this
  have hlt : t < args.length := (List.getElem?_eq_some_iff.1 this).1
  rw [Array.getElem?_append_left (by simpa using hlt)]
  simpa using this
 refine wp_mono (h _ w hst) ?_
 rintro e a w' ⟨fr, O1, hs, hq⟩
 have fin : (∃ vs O', ResVs P wr fr O1 rs vs ∧ SubO O' O1 ∧ R (tupV vs) O') → a.defers = [] ∧ ∃ v, (results fn a.tmps).run P w' = .ok v w' ∧ ∃ v' O, Ending.returned v = .returned v' ∧ Bel wr.heap.size wr w' ∧ Holds wr.heap.size O w' ∧ R v' O := by
  rintro ⟨vs, O', h1, h2, h3⟩
  refine ⟨hs.sim.defers, (tupV vs), ?_, _, O', rfl, hs.old, hs.own.sub h2, h3⟩
  unfold results
  rw [hr, List.mapM_toArray]
  simp only [Sem.run_bind, Sem.run_map]
  rw [run_results (P := P) hs _ (fun _ => rfl) (fun _ _ => rfl) rs vs h1]
  simp only [Result.andThen_ok, Sem.run_pure]
  congr 1
  clear h1 h3
  match vs with
  | [] => rfl
  | [v] => rfl
  | v :: u :: r => simp; rfl
 cases e with
 | ret => exact fin hq
 | normal => exact fin hq
 | _ => exact hq.elim
section
variable {P : Program} {n : Nat} {wr : World} {fr : Fr} {O : List It} {ty : TypeId} {pos : String} {af : Array Edge} {dst : Option Tmp} {g : Option (Nat × Bool)} {Kp : Value → List It → Prop}
theorem Stp_callIn {f : FuncId} {xs : List Operand} {ts : Array TypeId} {vs : List Value} {O2 : List It} {R : Value → List It → Prop} [Body P f] (hx : evsO fr xs = some vs) (h : DoesIn P f vs wr O2 R) (hO : SubO O2 O) (k : ∀ v O', R v O' → Kp v O') :
  Stp P n wr fr O ⟨dst, .call ⟨.value (.func f), xs.toArray, ts⟩, ty, pos, af, g⟩ Kp := by
 intro a w hs Kn Q hk
 have hrun : (execOp a.eval ⟨dst, .call ⟨.value (.func f), xs.toArray, ts⟩, ty, pos, af, g⟩).run P w = .ok (.enter f vs.toArray) w := by
  have := hs.sim.evsO hx
  simp [execOp, resolve, Act.eval, Deferred.ofValue, invoke, run_callFunc, this]
 unfold Oper.wp
 rw [hrun, Oper.upon_enter]
 refine (h w hs.old (hs.own.sub hO)).mono ?_
 rintro e w' ⟨v, O', rfl, hB, hH, hR⟩
 exact hk v _ w' hB hH (k v O' hR)
theorem lay_take (N : Nat) : ∀ (vs cs : List Value) (j : Nat), (lay cs j vs).take N = lay (cs.take N) j vs
 | [], _, _ => rfl
 | v :: r, cs, j => by rw [lay, lay, lay_take N r, List.take_set]
theorem Stp_storeR {t sz e size m c p : Nat} {ag : Bool} {x y : Operand} {A : Option Addr} {xs xs' vs : List Value} {v : Value} {O' : List It} [hT : Ty P t sz ag] (hx : ev fr x = some (.pointer (some ((adr A).add p)))) (hy : ev fr y = some v)
  (hu : Upd O (.row (.slice A m c) e size m xs) (.row (.slice A m c) e size m xs') O') (hvs : v.cells.toList = vs) (hl : vs.length = sz) (h1 : vs.all Value.oneCell' = true) (hp : p + sz ≤ xs.length) (h0 : 0 < sz) (hc : lay xs p vs = xs')
  (k : Kp undef O') : Stp P n wr fr O ⟨dst, .store t x y, ty, pos, af, g⟩ Kp := by
 refine Stp_skip fun a w hs => ?_
 have hsat := hs.own.sat _ hu.mem
 obtain ⟨hxl, hnn | ⟨b, cap, cur, hval, hb0, hg, hmc, hcm, hsz, hcur⟩⟩ := id hsat
 ·obtain ⟨_, rfl⟩ := hnn
  simp at hxl
  rw [hxl] at hp
  simp at hp
  omega
 injection hval with hA _ hcc
 subst hA hcc
 have hb := hs.own.inb _ hu.mem b (by simp [It.S, Value.ownBlock])
 have hxc : xs.length ≤ cur.size := by rw [← hcur, List.length_take, Array.length_toList]; omega
 have hg' : w.heap[b]? = some (.cells cur.toList.toArray e (0, 0)) := by rw [Array.toArray_toList]; exact hg
 have had : (adr (some (⟨b, 0, none⟩ : Addr))).add p = ⟨b, p, none⟩ := by
  rw [show adr (some (⟨b, 0, none⟩ : Addr)) = ⟨b, 0, none⟩ from rfl, add_mk, Nat.zero_add]
 rw [had] at hx
 have hcell : ∀ i, w.cell? ⟨b, i, none⟩ = cur.toList[i]? := fun i => by simp [World.cell?, hg]
 have hfz : ∀ i, w.frozen? ⟨b, i, none⟩ = false := fun i => by simp [World.frozen?, hg]
 have hrun := run_storeCells (P := P) (ad := ⟨b, p, none⟩) vs w 0 (fun u hu => List.all_eq_true.1 h1 u hu) (fun i hi => by
  rw [add_mk, hcell, hfz]
  refine ⟨?_, rfl⟩
  rw [List.getElem?_eq_getElem (by rw [Array.length_toList]; omega)]
  rfl)
 refine ⟨setCells w ⟨b, p, none⟩ vs 0, O', ?_, ?_, ?_, k⟩
 ·have hvsz : v.cells.size = sz := by rw [← hl, ← hvs]; simp
  simp only [execOp, hs.sim.ev hx, hs.sim.ev hy, Instr.storeAt, Instr.sureAddr, Sem.run_bind, Sem.run_pure, Result.andThen_ok, storeVar, run_sizeOf, hvsz, ne_eq, not_true, if_false, hvs, hrun]
 ·refine hs.old.trans ⟨⟨(setCells_os vs w 0).1, (setCells_os vs w 0).2.1, (setCells_os vs w 0).2.2, by rw [setCells_size]; exact Nat.le_refl _, fun i hi => setCells_heap vs w 0 i (by show i ≠ b; omega)⟩⟩
 ·refine hs.own.upd hu hs.old.size (by rw [setCells_size]; exact Nat.le_refl _) (fun i _ hi => setCells_heap vs w 0 i (fun e => hi (by rw [e]; simp [It.S, Value.ownBlock]))) ?_ (fun i hi => Or.inl hi)
  have hblk := setCells_blk (b := b) (j := p) (t := e) vs cur.toList w 0 hg'
  simp only [Nat.add_zero] at hblk
  subst hc
  refine ⟨by rw [lay_length]; exact hxl, .inr ⟨b, c, _, rfl, Nat.zero_le _, hblk, hmc, hcm, ?_, ?_⟩⟩
  ·rw [List.size_toArray, lay_length, Array.length_toList]; exact hsz
  ·rw [List.toList_toArray, lay_take, hcur]
end
section
variable {P : Program} {n : Nat} {wr : World} {fr : Fr} {O : List It} {ty : TypeId} {pos : String} {af : Array Edge} {dst : Option Tmp} {g : Option (Nat × Bool)} {Kp : Value → List It → Prop}
theorem Pu_indexS {t : TypeId} {x ix : Operand} {s : ByteArray} {kk : IntKind} {i : Int} [hS : StringT P t] (hx : ev fr x = some (.string s)) (hi : ev fr ix = some (.int kk i)) (h0 : 0 ≤ i) (h1 : i < s.size) : Pu P n wr fr O (.index t x ix) ty (.int .u8 (s.data.toList.getD i.toNat 0).toNat) :=
 fun a w hs _ _ _ _ => by
  have h := run_index_string (P := P) (w := w) t s kk i hS.h
  rw [dif_pos ⟨h0, h1⟩] at h
  have hlt : i.toNat < s.data.toList.length := by
   have : s.data.size = s.size := rfl
   rw [Array.length_toList, this]
   omega
  have e : s.data.toList.getD i.toNat 0 = s[i.toNat]'(by omega) := by
   rw [List.getD_eq_getElem?_getD, List.getElem?_eq_getElem hlt]
   rfl
  simp only [execOp, hs.sim.ev hx, hs.sim.ev hi, Sem.run_bind, h, Result.andThen_ok, e]
  rfl
theorem Pu_sliceL {t e sz bytes : Nat} {x y : Operand} {A : Option Addr} {len cap : Nat} {l : Int} [hE : ElemZ P t e sz bytes] (hx : ev fr x = some (.slice A len cap)) (hy : ev fr y = some (.int .i64 l)) (h0 : 0 ≤ l) (h1 : l ≤ len) (h2 : l < cap) :
  Pu P n wr fr O (.slice t x (some y) none none) ty (.slice (A.map (·.add (l.toNat * sz))) (len - l.toNat) (cap - l.toNat)) := fun a w hs _ _ _ _ => by
 obtain ⟨i, z, ht, hi, hz, hsz, hby, hzs, hpos⟩ := ElemZ.parts hE.h
 have hne : ¬ (cap = l.toNat) := by omega
 simp [execOp, hs.sim.ev hx, hs.sim.ev hy, Instr.sliceAt, Instr.slice, run_underlying ht, Instr.sliceBounds, run_sliceBound, h0, h1, sizeOf, typeInfo, hi, hne, hsz]
end
section
variable {P : Program} {n : Nat} {wr : World} {fr : Fr} {O : List It} {ty : TypeId} {pos : String} {af : Array Edge} {dst : Option Tmp} {g : Option (Nat × Bool)} {Kp : Value → List It → Prop}
theorem row_storeCells {e size m c p : Nat} {A : Option Addr} {xs xs' vs : List Value} {O' : List It} {a : Act} {w : World} (hs : St n wr fr O a w)
  (hu : Upd O (.row (.slice A m c) e size m xs) (.row (.slice A m c) e size m xs') O') (h1 : vs.all Value.oneCell' = true) (hp : p + vs.length ≤ xs.length) (h0 : 0 < vs.length) (hc : lay xs p vs = xs') :
  ∃ w', (storeCells ((adr A).add p) vs 0).run P w = .ok () w' ∧ Bel wr.heap.size wr w' ∧ Holds wr.heap.size O' w' := by
 have hsat := hs.own.sat _ hu.mem
 obtain ⟨hxl, hnn | ⟨b, cap, cur, hval, hb0, hg, hmc, hcm, hsz, hcur⟩⟩ := id hsat
 ·obtain ⟨_, rfl⟩ := hnn
  simp at hxl
  subst hxl
  simp only [List.length_nil] at hp
  omega
 injection hval with hA _ hcc
 subst hA hcc
 have hb := hs.own.inb _ hu.mem b (by simp [It.S, Value.ownBlock])
 have hxc : xs.length ≤ cur.size := by rw [← hcur, List.length_take, Array.length_toList]; omega
 have hg' : w.heap[b]? = some (.cells cur.toList.toArray e (0, 0)) := by rw [Array.toArray_toList]; exact hg
 have had : (adr (some (⟨b, 0, none⟩ : Addr))).add p = ⟨b, p, none⟩ := by
  rw [show adr (some (⟨b, 0, none⟩ : Addr)) = ⟨b, 0, none⟩ from rfl, add_mk, Nat.zero_add]
 rw [had]
 have hcell : ∀ i, w.cell? ⟨b, i, none⟩ = cur.toList[i]? := fun i => by simp [World.cell?, hg]
 have hfz : ∀ i, w.frozen? ⟨b, i, none⟩ = false := fun i => by simp [World.frozen?, hg]
 have hrun := run_storeCells (P := P) (ad := ⟨b, p, none⟩) vs w 0 (fun u hu => List.all_eq_true.1 h1 u hu) (fun i hi => by
  rw [add_mk, hcell, hfz]
  refine ⟨?_, rfl⟩
  rw [List.getElem?_eq_getElem (by rw [Array.length_toList]; omega)]
  rfl)
 refine ⟨setCells w ⟨b, p, none⟩ vs 0, hrun, ?_, ?_⟩
 ·refine hs.old.trans ⟨⟨(setCells_os vs w 0).1, (setCells_os vs w 0).2.1, (setCells_os vs w 0).2.2, by rw [setCells_size]; exact Nat.le_refl _, fun i hi => setCells_heap vs w 0 i (by show i ≠ b; omega)⟩⟩
 ·refine hs.own.upd hu hs.old.size (by rw [setCells_size]; exact Nat.le_refl _) (fun i _ hi => setCells_heap vs w 0 i (fun e => hi (by rw [e]; simp [It.S, Value.ownBlock]))) ?_ (fun i hi => Or.inl hi)
  have hblk := setCells_blk (b := b) (j := p) (t := e) vs cur.toList w 0 hg'
  simp only [Nat.add_zero] at hblk
  subst hc
  refine ⟨by rw [lay_length]; exact hxl, .inr ⟨b, c, _, rfl, Nat.zero_le _, hblk, hmc, hcm, ?_, ?_⟩⟩
  ·rw [List.size_toArray, lay_length, Array.length_toList]; exact hsz
  ·rw [List.toList_toArray, lay_take, hcur]
theorem Stp_clearR {t e sz bytes p k m c cp : Nat} {x : Operand} {ad : Addr} {xs : List Value} {z : Value} {O' : List It} [hE : ElemZ P t e sz bytes] [hz : ZeroV P e z] (hx : ev fr x = some (.slice (some (ad.add p)) k cp))
  (hu : Upd O (.row (.slice (some ad) m c) e sz m xs) (.row (.slice (some ad) m c) e sz m (lay xs p (Builtin.zeroCells z.cells k).toList)) O') (h1 : (Builtin.zeroCells z.cells k).toList.all Value.oneCell' = true) (hk : 0 < k) (hp : p + k * sz ≤ xs.length)
  (kk : Kp (.tuple #[]) O') : Stp P n wr fr O ⟨dst, .call ⟨.builtin .clear, #[x], #[t]⟩, ty, pos, af, g⟩ Kp := by
 refine Stp_val fun a w hs => ?_
 obtain ⟨i, z', ht, hi, hz', hsz, hby, hzs, hpos⟩ := ElemZ.parts hE.h
 have hzz : z' = z := by
  have h := hz.h
  unfold zeroV at h
  rw [hi] at h
  exact Option.some.inj (hz'.symm.trans h)
 subst hzz
 have hlen : (Builtin.zeroCells z'.cells k).toList.length = k * sz := by rw [Array.length_toList, size_zeroCells, hzs]
 obtain ⟨w', hr, h2, h3⟩ := row_storeCells (P := P) hs hu h1 (by rw [hlen]; exact hp) (by rw [hlen]; exact Nat.mul_pos hk hpos) rfl
 refine ⟨.tuple #[], w', O', ?_, h2, h3, kk⟩
 obtain ⟨k, rfl⟩ : ∃ k', k = k' + 1 := ⟨k - 1, by omega⟩
 have hr' : (storeCells (ad.add p) (Builtin.zeroCells z'.cells (k + 1)).toList 0).run P w = .ok () w' := hr
 simp [execOp, resolve, invoke, builtin, Builtin.clear_, hs.sim.ev hx, run_underlying ht, run_zeroV, hr']
theorem RL_shrink {ops : Array Oper} {l0 : List Oper} {K : Fr → List It → Prop} {e size m c : Nat} {A : Option Addr} {xs : List Value} {O' : List It} (k : Nat) (hk : k ≤ m) (hu : Upd O (.row (.slice A m c) e size m xs) (.row (.slice A k c) e size k (xs.take (k * size))) O')
  (h : RL P n wr ops l0 K fr O') : RL P n wr ops l0 K fr O := fun a w hs => h a w ⟨hs.sim, hs.old, by
 refine hs.own.upd hu hs.old.size (Nat.le_refl _) (fun _ _ _ => rfl) ?_ (fun i hi => ?_)
 ·have hsat := hs.own.sat _ hu.mem
  obtain ⟨hxl, hnn | ⟨b, cap, cur, hval, hb0, hg, hmc, hcm, hsz, hcur⟩⟩ := hsat
  ·obtain ⟨hv, rfl⟩ := hnn
   obtain rfl : k = 0 := by omega
   injection hv with h1 _ h3
   subst h1 h3
   exact ⟨by simp, .inl ⟨rfl, rfl⟩⟩
  ·injection hval with hA _ hcc
   subst hA hcc
   refine ⟨?_, .inr ⟨b, c, cur, rfl, Nat.zero_le _, hg, by omega, hcm, hsz, ?_⟩⟩
   ·have hle : k * size ≤ m * size := Nat.mul_le_mul_right size hk
    rw [List.length_take, hxl]
    omega
   ·have hle : k * size ≤ m * size := Nat.mul_le_mul_right size hk
    rw [← hcur, List.take_take, Nat.min_eq_left hle]
 ·left
  simp only [It.S, Value.ownBlock] at hi ⊢
  cases A with
  | none => exact hi
  | some a => exact hi⟩
end
theorem wp_mono2 {P : Program} {o : Oper} {a : Act} {w : World} {K K' : Act → World → Prop} {Q Q' : Exit → Act → World → Prop} (h : ∀ a w, K a w → K' a w) (hq : ∀ e a w, Q e a w → Q' e a w) (hh : o.wp P a w K Q) : o.wp P a w K' Q' := by
 unfold Oper.wp at *
 generalize (execOp a.eval o).run P w = r at *
 cases r with
 | ok n w' =>
  cases n <;> simp only [Oper.upon] at hh ⊢ <;>
   first
    | exact h _ _ hh
    | exact Calls.mono hh (fun e w'' he => by cases e <;> first | exact h _ _ he | exact hq _ _ _ he | exact (fun ⟨a, w, h⟩ => ⟨a, w, hq _ _ _ h⟩ : LetsOut Q → LetsOut Q') he)
    | exact Rows.mono hh (fun _ _ he => h _ _ he)
 | halt x w' => cases x <;> simp only [Oper.upon] at hh ⊢ <;> first | exact hq _ _ _ hh | exact hh
theorem wpList_mono {P : Program} {ops : Array Oper} {Q Q' : Exit → Act → World → Prop} (hq : ∀ e a w, Q e a w → Q' e a w) : ∀ (l : List Oper) (a : Act) (w : World), wpList P ops Q l a w → wpList P ops Q' l a w
 | [], a, w, h => hq _ _ _ h
 | o :: l, a, w, h => by
  unfold wpList at h ⊢
  split
  ·rename_i hw
   rw [if_pos hw] at h
   exact h.imp (wp_mono2 (wpList_mono hq l) hq) (fun ⟨h1, a, w, h2⟩ => ⟨h1, a, w, hq _ _ _ h2⟩)
  ·rename_i hw
   rw [if_neg hw] at h
   exact wpList_mono hq l _ _ h
section
variable {P : Program} {n : Nat} {wr : World} {ops : Array Oper} {fr : Fr} {O : List It} {K : Fr → List It → Prop} {ty : TypeId}
theorem RL_post {l : List Oper} (I : Fr → List It → Prop) (h1 : RL P n wr ops l I fr O) (h2 : ∀ fr' O', I fr' O' → K fr' O') : RL P n wr ops l K fr O :=
 fun a w hs => wpList_mono (fun _ _ _ ⟨h3, fr', O', h4, h5⟩ => ⟨h3, fr', O', h4, h2 fr' O' h5⟩) l a w (h1 a w hs)
theorem Pu_conv8 {t t' : TypeId} {x : Operand} {kk : IntKind} {i : Int} {sz : Nat} {ag : Bool} [Ty P t sz ag] [IntT P t' .u8] (hx : ev fr x = some (.int kk i)) (h0 : 0 ≤ i) (h1 : i ≤ 255) : Pu P n wr fr O (.convert t t' x) ty (.int .u8 i) := by
 have := Pu_convI (P := P) (n := n) (wr := wr) (O := O) (ty := ty) (t := t) (t' := t') hx
 rwa [show IntKind.u8.wrap i = i from IntWalk.u8_in i ⟨h0, h1⟩] at this
end
theorem Pu_loadRN {P : Program} {n : Nat} {wr : World} {fr : Fr} {O : List It} {ty : TypeId} {t sz e size p m c : Nat} {x : Operand} {A : Option Addr} {xs vs : List Value} {R : List It} [Ty P t sz true] (hx : ev fr x = some (.pointer (some ((adr A).add p))))
  (hp : Pick (.row (.slice A m c) e size m xs) O R) (hv : ∀ j v, vs[j]? = some v → xs[p + j]? = some v) (hl : vs.length = sz) : Pu P n wr fr O (.load t x) ty (.agg vs.toArray) :=
 Pu_loadN hx hl fun w _ hO j v hj => by
  rw [add_of_add]
  exact (row_cell (hO.of hp) (hv j v hj)).2
theorem Pu_indexAddrH {P : Program} {n : Nat} {wr : World} {fr : Fr} {O : List It} {ty : TypeId} {t e sz bytes : Nat} {x ix : Operand} {A : Option Addr} {len cap : Nat} {kk : IntKind} {i : Int} [hE : ElemT P t e sz bytes] (hx : ev fr x = some (.slice A len cap)) (hi : ev fr ix = some (.int kk i))
  (h0 : 0 ≤ i) (h1 : i < len) (hA : ∀ w, Bel wr.heap.size wr w → Holds wr.heap.size O w → A ≠ none) : Pu P n wr fr O (.indexAddr t x ix) ty (.pointer (some ((adr A).add (i.toNat * sz)))) :=
 fun a w hs => Pu_indexAddr hx hi h0 h1 (hA w hs.old hs.own) a w hs
section
variable {P : Program} {n : Nat} {wr : World} {fr : Fr} {O : List It} {ty : TypeId} {pos : String} {af : Array Edge} {dst : Option Tmp} {g : Option (Nat × Bool)} {Kp : Value → List It → Prop}
theorem Stp_callVIn {f : FuncId} {gx : Operand} {xs : List Operand} {ts : Array TypeId} {us vs cs : List Value} {O2 : List It} {R : Value → List It → Prop} [Body P f] (hg : ev fr gx = some (.func (.func f) us.toArray cs.toArray)) (hx : evsO fr xs = some vs) (h : DoesIn P f (us ++ vs ++ cs) wr O2 R) (hO : SubO O2 O) (k : ∀ v O', R v O' → Kp v O') :
  Stp P n wr fr O ⟨dst, .call ⟨.value gx, xs.toArray, ts⟩, ty, pos, af, g⟩ Kp := by
 intro a w hs Kn Q hk
 have hrun : (execOp a.eval ⟨dst, .call ⟨.value gx, xs.toArray, ts⟩, ty, pos, af, g⟩).run P w = .ok (.enter f (us ++ vs ++ cs).toArray) w := by
  have := hs.sim.evsO hx
  simp [execOp, resolve, hs.sim.ev hg, Deferred.ofValue, invoke, run_callFunc, this]
 unfold Oper.wp
 rw [hrun, Oper.upon_enter]
 refine (h w hs.old (hs.own.sub hO)).mono ?_
 rintro e w' ⟨v, O', rfl, hB, hH, hR⟩
 exact hk v _ w' hB hH (k v O' hR)
end
theorem Pu_minI {P : Program} {n : Nat} {wr : World} {fr : Fr} {O : List It} {ty : TypeId} {x y : Operand} {ts : Array TypeId} {k : IntKind} {i j : Int} (hx : ev fr x = some (.int k i)) (hy : ev fr y = some (.int k j)) : Pu P n wr fr O (.call ⟨.builtin .min, #[x, y], ts⟩) ty (.int k (if j < i then j else i)) :=
 fun a w hs _ _ _ _ => by simp [execOp, resolve, invoke, builtin, Builtin.min_, Builtin.min2, hs.sim.ev hx, hs.sim.ev hy]
section
variable {P : Program} {n : Nat} {wr : World} {fr : Fr} {O : List It} {ty : TypeId}
theorem Pu_andW {t t' : TypeId} {x y : Operand} {kk : IntKind} {i j : Int} (hx : ev fr x = some (.int kk i)) (hy : ev fr y = some (.int kk j)) : Pu P n wr fr O (.binOp .and t x y t') ty (.int kk (kk.wrap (BitVec.ofInt kk.bits i &&& BitVec.ofInt kk.bits j).toNat)) :=
 fun a w hs _ _ _ _ => by simp [execOp, hs.sim.ev hx, hs.sim.ev hy, eqGuard, binOp, Op.intBits]
end
theorem Does.monoO {P : Program} {f : FuncId} {args : List Value} {w : World} {R R' : Value → List It → Prop} (h : Does P f args w R) (hr : ∀ v O, R v O → ∃ O', R' v O' ∧ ∀ base w', Holds base O w' → Holds base O' w') : Does P f args w R' :=
 Calls.mono h fun _ _ ⟨v, O, h1, h2, h3, h4⟩ => by
  obtain ⟨O', h5, h6⟩ := hr v O h4
  exact ⟨v, O', h1, h2, h6 _ _ h3, h5⟩
section
variable {P : Program} {n : Nat} {wr : World} {fr : Fr} {O : List It} {ty : TypeId}
theorem Pu_add8 {t t' : TypeId} {x y : Operand} {i j : Int} (hx : ev fr x = some (.int .u8 i)) (hy : ev fr y = some (.int .u8 j)) (h : 0 ≤ i + j ∧ i + j ≤ 255) : Pu P n wr fr O (.binOp .add t x y t') ty (.int .u8 (i + j)) := by
 have := Pu_addW (P := P) (n := n) (wr := wr) (O := O) (ty := ty) (t := t) (t' := t') hx hy
 rwa [IntWalk.u8_in _ h] at this
end
section
variable {P : Program} {n : Nat} {wr : World} {fr : Fr} {O : List It} {ty : TypeId} {pos : String} {af : Array Edge} {dst : Option Tmp} {g : Option (Nat × Bool)} {Kp : Value → List It → Prop}
end
theorem Pu_fieldAddrA {P : Program} {n : Nat} {wr : World} {fr : Fr} {O : List It} {ty : TypeId} {s f off sz p : Nat} {ag : Bool} {x : Operand} {A : Option Addr} [FieldAt P s f off sz ag] (hx : ev fr x = some (.pointer (some ((adr A).add p)))) : Pu P n wr fr O (.fieldAddr s x f) ty (.pointer (some ((adr A).add (p + off)))) := by
 have h := Pu_fieldAddr (P := P) (n := n) (wr := wr) (O := O) (ty := ty) (s := s) (f := f) hx
 rwa [add_of_add] at h
section
variable {P : Program} {n : Nat} {wr : World} {fr : Fr} {O : List It} {ty : TypeId} {pos : String} {af : Array Edge} {dst : Option Tmp} {g : Option (Nat × Bool)} {Kp : Value → List It → Prop}
theorem Pu_loadRF {t sz e size p q m c : Nat} {x : Operand} {A : Option Addr} {xs : List Value} {v : Value} {R : List It} [Ty P t sz false] (hx : ev fr x = some (.pointer (some (((adr A).add p).add q))))
  (hp : Pick (.row (.slice A m c) e size m xs) O R) (hv : xs[p + q]? = some v) : Pu P n wr fr O (.load t x) ty v :=
 Pu_loadR (by rw [← add_of_add]; exact hx) hp hv
theorem Stp_storeRF {t sz e size m c p q : Nat} {ag : Bool} {x y : Operand} {A : Option Addr} {xs xs' vs : List Value} {v : Value} {O' : List It} [hT : Ty P t sz ag] (hx : ev fr x = some (.pointer (some (((adr A).add p).add q)))) (hy : ev fr y = some v)
  (hu : Upd O (.row (.slice A m c) e size m xs) (.row (.slice A m c) e size m xs') O') (hvs : v.cells.toList = vs) (hl : vs.length = sz) (h1 : vs.all Value.oneCell' = true) (hp : p + q + sz ≤ xs.length) (h0 : 0 < sz) (hc : lay xs (p + q) vs = xs')
  (k : Kp undef O') : Stp P n wr fr O ⟨dst, .store t x y, ty, pos, af, g⟩ Kp := Stp_storeR (by rw [← add_of_add]; exact hx) hy hu hvs hl h1 hp h0 hc k
end
end Go.Wk
namespace Go.Proofs.YtonjepladadmhaaGreatDoor
open Go Go.RowKit Go.Wk
def fnV (f : Nat) : Value := .func (.func f) #[] #[]
def kindCells : List Value := [.bool false, .bool true, fnV 288, .bool true, .bool false, fnV 289, .bool true, .bool true, fnV 291, .bool true, .bool true, fnV 293]
def condCells : List Value := [fnV 299, .int .i64 3, fnV 301, .int .i64 12, fnV 302, .int .i64 3, fnV 304, .int .i64 3, fnV 306, .int .i64 14, fnV 307, .int .i64 15]
structure Glob (w : World) : Prop where
 bef : CellsAt w ⟨2, 0, none⟩ (beforeL.map fun n => .int .i64 n)
 kin : CellsAt w ⟨1, 3, none⟩ kindCells
 con : CellsAt w ⟨4, 0, none⟩ condCells
theorem Glob.up {w w' : World} (h : Glob w) (hb : Bel w.heap.size w w') : Glob w' :=
 ⟨h.bef.up hb (Nat.le_refl _), h.kin.up hb (Nat.le_refl _), h.con.up hb (Nat.le_refl _)⟩
end Go.Proofs.YtonjepladadmhaaGreatDoor
namespace Go.Wk
open Go Go.RowKit
theorem split_eq (a b : Int) (hb : 0 < b) : (a.tmod b < 0 → a.tdiv b - 1 = a / b ∧ a.tmod b + b = a % b) ∧ (¬ a.tmod b < 0 → a.tdiv b = a / b ∧ a.tmod b = a % b) := by
 have h1 := Int.mul_tdiv_add_tmod a b
 have h2 := Int.tmod_lt_of_pos a hb
 have h3 := Int.lt_tmod_of_pos a hb
 have key : ∀ q r : Int, b * q + r = a → 0 ≤ r → r < b → q = a / b ∧ r = a % b := fun q r h0 h4 h5 => by
  have := (Int.ediv_emod_unique (a := a) (r := r) (q := q) hb).2 ⟨by omega, h4, h5⟩
  exact ⟨this.1.symm, this.2.symm⟩
 constructor
 ·intro h
  exact key _ _ (by rw [Int.mul_sub]; omega) (by omega) (by omega)
 ·intro h
  exact key _ _ h1 (by omega) h2
theorem tmod_zero (a b : Int) : a.tmod b = 0 ↔ a % b = 0 := by rw [← Int.dvd_iff_tmod_eq_zero, ← Int.dvd_iff_emod_eq_zero]
theorem tdiv_bd (a b : Int) : -(a.natAbs : Int) ≤ a.tdiv b ∧ a.tdiv b ≤ a.natAbs := by
 have h1 := Int.natAbs_tdiv_le_natAbs a b
 omega
section
variable {P : Program} {n : Nat} {wr : World} {fr : Fr} {O : List It} {ty : TypeId}
theorem Pu_quoT {t t' : TypeId} {x y : Operand} {i j : Int} (hx : ev fr x = some (.int .i64 i)) (hy : ev fr y = some (.int .i64 j)) (hj : j ≠ 0) (hn : i.natAbs ≤ 9223372036854775807) : Pu P n wr fr O (.binOp .quo t x y t') ty (.int .i64 (i.tdiv j)) := by
 have := Pu_quo (P := P) (n := n) (wr := wr) (O := O) (ty := ty) (t := t) (t' := t') hx hy hj
 have hb := tdiv_bd i j
 rwa [wrap64_id (by omega)] at this
theorem Pu_maxJ {x y : Operand} {ts : Array TypeId} {k : IntKind} {i j : Int} (hx : ev fr x = some (.int k i)) (hy : ev fr y = some (.int k j)) : Pu P n wr fr O (.call ⟨.builtin .max, #[x, y], ts⟩) ty (.int k (if i < j then j else i)) :=
 fun a w hs _ _ _ _ => by simp [execOp, resolve, invoke, builtin, Builtin.max_, Builtin.max2, hs.sim.ev hx, hs.sim.ev hy]
theorem Pu_indexArr {t len e sz : Nat} {ag : Bool} {x ix : Operand} {ad : Addr} {kk : IntKind} {i : Int} [hA : ArrT P t len e sz ag] (hx : ev fr x = some (.pointer (some ad))) (hi : ev fr ix = some (.int kk i)) (h0 : 0 ≤ i) (h1 : i < len) :
  Pu P n wr fr O (.indexAddr t x ix) ty (.pointer (some (ad.add (i.toNat * sz)))) :=
 fun a w hs _ _ _ _ => by
  have h := hA.h
  unfold arrChk at h
  split at h
  ·rename_i len' e' hu
   split at h
   ·rename_i sz' ag' ht
    simp only [Option.some.injEq, Prod.mk.injEq] at h
    obtain ⟨rfl, rfl, rfl, rfl⟩ := h
    obtain ⟨inf, dd, hinf, hsz, _, _⟩ := Ty.parts ht
    simp [execOp, hs.sim.ev hx, hs.sim.ev hi, Instr.indexAt, asIntOf, run_underlying hu, Instr.sureAddr, h0, h1, sizeOf, run_typeInfo hinf, hsz]
   ·cases h
  ·cases h
end
section
variable {P : Program} {n : Nat} {wr : World} {ops : Array Oper} {rest : List Oper} {K : Fr → List It → Prop} {fr : Fr} {O : List It} {ty : TypeId} {pos : String} {af : Array Edge}
theorem RL_und {d' : Nat} {op : Op} {j : Nat} {b : Bool} {oj : Oper} {d : Nat} (hj : ops[j]? = some oj) (hd : oj.dst = some d) (hb : look fr d = some undef) (hdn : Nat.ble (d' + 1) n = true)
  (k : RL P n wr ops rest K ((d', undef) :: fr) O) : RL P n wr ops (⟨some d', op, ty, pos, af, some (j, b)⟩ :: rest) K fr O := by
 intro a w hs
 have := k (a.put (some d') undef) w ⟨hs.sim.put hdn undef, hs.old, hs.own⟩
 have hw : Region.wanted (⟨some d', op, ty, pos, af, some (j, b)⟩ : Oper) (yielded ops a.tmps) = false := by
  have hy : yielded ops a.tmps j = none := by simp [yielded, hj, hd, hs.sim.at_ d _ hb, undef]
  simp only [Region.wanted, hy]
  cases b <;> rfl
 simp only [wpList, hw]
 exact this
end
def yN (r : Nat) : Nat := (r - r / 1460 + r / 36524 - r / 146096) / 365
def okYN (r : Nat) : Bool := Nat.ble (yN r) 399 && Nat.ble (yN r * 365 + yN r / 4 - yN r / 100) r && Nat.ble (r - (yN r * 365 + yN r / 4 - yN r / 100)) 366 && (Nat.blt r ((yN r + 1) * 365 + (yN r + 1) / 4 - (yN r + 1) / 100) || Nat.beq (yN r) 399)
def allYN : Nat → Nat → Bool
 | 0, _ => true
 | k + 1, r => okYN r && allYN k (r + 1)
theorem allYN_get : ∀ (k r i : Nat), allYN k r = true → i < k → okYN (r + i) = true
 | 0, _, _, _, h => by omega
 | k + 1, r, i, h, hi => by
  rw [allYN, Bool.and_eq_true] at h
  cases i with
  | zero => exact h.1
  | succ i =>
   have := allYN_get k (r + 1) i h.2 (by omega)
   rwa [show r + 1 + i = r + (i + 1) by omega] at this
theorem allYN_all : ∀ c, c < 1461 → allYN (if c = 1460 then 97 else 100) (100 * c) = true := by decide +kernel
theorem yearN_nat (r : Nat) : yearN (r : Int) = (yN r : Nat) := by
 unfold yearN yN
 omega
theorem yearN_all (k : Nat) (h1 : k < 146097) : okYN k = true := by
 have h := allYN_get _ (100 * (k / 100)) (k % 100) (allYN_all _ (by omega)) (by split <;> omega)
 rwa [show 100 * (k / 100) + k % 100 = k by omega] at h
theorem yearN_bd (r : Int) (h0 : 0 ≤ r) (h1 : r < 146097) : 0 ≤ yearN r ∧ yearN r ≤ 399 ∧ 0 ≤ r - (yearN r * 365 + yearN r / 4 - yearN r / 100) ∧ r - (yearN r * 365 + yearN r / 4 - yearN r / 100) ≤ 366 := by
 obtain ⟨k, rfl⟩ := Int.eq_ofNat_of_zero_le h0
 have h := yearN_all k (by omega)
 simp only [okYN, Bool.and_eq_true, Nat.ble_eq] at h
 rw [yearN_nat]
 omega
end Go.Wk
