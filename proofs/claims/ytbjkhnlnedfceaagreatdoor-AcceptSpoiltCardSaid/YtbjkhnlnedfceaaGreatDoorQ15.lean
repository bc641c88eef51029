/- Calls that write what the caller owns; stores into rows. Rules for arrays behind pointers, quotients rounded to zero. One step of a walk that stops at blocks; printed by genwalk.py, my own program. Engine: maps made with a size, delete, a copy of a map, maps that were there before the call. -/
import Derived.Test.YtbjkhnlnedfceaaGreatDoorQ14
import Derived.Orders
import Derived.Laws.Externs
set_option maxHeartbeats 4000000
set_option linter.unusedVariables false
set_option linter.unusedSimpArgs false
namespace Go.Wk
open Go Go.RowKit
def DoesIn (P : Program) (f : FuncId) (args : List Value) (wr : World) (O : List It) (R : Value → List It → Prop) : Prop :=
 ∀ w, Bel wr.heap.size wr w → Holds wr.heap.size O w → Calls P f args.toArray w fun e w' => ∃ v O', e = .returned v ∧ Bel wr.heap.size wr w' ∧ Holds wr.heap.size O' w' ∧ R v O'
theorem DoesIn_of_W {P : Program} {f : FuncId} {fn : Func} {c : Code} {args : List Value} {wr : World} {O : List It} {R : Value → List It → Prop} {n : Nat} {rs : List ResultVar} (hf : P.funcs[f]? = some fn) (hb : fn.body = some c) (hn : fn.ntmps = n) (hr : fn.results = rs.toArray)
  (ha : Nat.ble args.length n = true) (h : W P n wr c (retQ P wr rs R) (argsFr 0 args) O) : DoesIn P f args wr O R := by
 intro w hB hH
 refine calls_of_wp hf hb ?_
 have hst : St n wr (argsFr 0 args) O { tmps := args.toArray ++ Array.replicate (fn.ntmps - args.toArray.size) undef, defers := [] } w := by
  have ha' : args.length ≤ n := Nat.le_of_ble_eq_true ha
  refine ⟨⟨rfl, by simp; omega, fun t v hv => ?_⟩, hB, hH⟩
  have := (look_argsFr args 0 t v hv).2
  simp only [Nat.sub_zero] at this
  have hlt : t < args.length := (List.getElem?_eq_some_iff.1 this).1
  rw [Array.getElem?_append_left (by simpa using hlt)]
  simpa using this
 refine wp_mono (h _ w hst) ?_
 rintro e a w' ⟨fr, O1, hs, hq⟩
 have fin : (∃ vs O', ResVs P wr fr O1 rs vs ∧ SubO O' O1 ∧ R (tupV vs) O') → a.defers = [] ∧ ∃ v, (results fn a.tmps).run P w' = .ok v w' ∧ ∃ v' O, Ending.returned v = .returned v' ∧ Bel wr.heap.size wr w' ∧ Holds wr.heap.size O w' ∧ R v' O := by
  rintro ⟨vs, O', h1, h2, h3⟩
  refine ⟨hs.sim.defers, (tupV vs), ?_, _, O', rfl, hs.old, hs.own.sub h2, h3⟩
  unfold results
  rw [hr, List.mapM_toArray]
  simp only [Sem.run_bind, Sem.run_map]
  rw [run_results (P := P) hs _ (fun _ => rfl) (fun _ _ => rfl) rs vs h1]
  simp only [Result.andThen_ok, Sem.run_pure]
  congr 1
  clear h1 h3
  match vs with
  | [] => rfl
  | [v] => rfl
  | v :: u :: r => simp; rfl
 cases e with
 | ret => exact fin hq
 | normal => exact fin hq
 | _ => exact hq.elim
section
variable {P : Program} {n : Nat} {wr : World} {fr : Fr} {O : List It} {ty : TypeId} {pos : String} {af : Array Edge} {dst : Option Tmp} {g : Option (Nat × Bool)} {Kp : Value → List It → Prop}
theorem Stp_callIn {f : FuncId} {xs : List Operand} {ts : Array TypeId} {vs : List Value} {O2 : List It} {R : Value → List It → Prop} [Body P f] (hx : evsO fr xs = some vs) (h : DoesIn P f vs wr O2 R) (hO : SubO O2 O) (k : ∀ v O', R v O' → Kp v O') :
  Stp P n wr fr O ⟨dst, .call ⟨.value (.func f), xs.toArray, ts⟩, ty, pos, af, g⟩ Kp := by
 intro a w hs Kn Q hk
 have hrun : (execOp a.eval ⟨dst, .call ⟨.value (.func f), xs.toArray, ts⟩, ty, pos, af, g⟩).run P w = .ok (.enter f vs.toArray) w := by
  have := hs.sim.evsO hx
  simp [execOp, resolve, Act.eval, Deferred.ofValue, invoke, run_callFunc, this]
 unfold Oper.wp
 rw [hrun, Oper.upon_enter]
 refine (h w hs.old (hs.own.sub hO)).mono ?_
 rintro e w' ⟨v, O', rfl, hB, hH, hR⟩
 exact hk v _ w' hB hH (k v O' hR)
theorem lay_take (N : Nat) : ∀ (vs cs : List Value) (j : Nat), (lay cs j vs).take N = lay (cs.take N) j vs
 | [], _, _ => rfl
 | v :: r, cs, j => by rw [lay, lay, lay_take N r, List.take_set]
theorem Stp_storeR {t sz e size m c p : Nat} {ag : Bool} {x y : Operand} {A : Option Addr} {xs xs' vs : List Value} {v : Value} {O' : List It} [hT : Ty P t sz ag] (hx : ev fr x = some (.pointer (some ((adr A).add p)))) (hy : ev fr y = some v)
  (hu : Upd O (.row (.slice A m c) e size m xs) (.row (.slice A m c) e size m xs') O') (hvs : v.cells.toList = vs) (hl : vs.length = sz) (h1 : vs.all Value.oneCell' = true) (hp : p + sz ≤ xs.length) (h0 : 0 < sz) (hc : lay xs p vs = xs')
  (k : Kp undef O') : Stp P n wr fr O ⟨dst, .store t x y, ty, pos, af, g⟩ Kp := by
 refine Stp_skip fun a w hs => ?_
 have hsat := hs.own.sat _ hu.mem
 obtain ⟨hxl, hnn | ⟨b, cap, cur, hval, hb0, hg, hmc, hcm, hsz, hcur⟩⟩ := id hsat
 ·obtain ⟨_, rfl⟩ := hnn
  simp at hxl
  rw [hxl] at hp
  simp at hp
  omega
 injection hval with hA _ hcc
 subst hA hcc
 have hb := hs.own.inb _ hu.mem b (by simp [It.S, Value.ownBlock])
 have hxc : xs.length ≤ cur.size := by rw [← hcur, List.length_take, Array.length_toList]; omega
 have hg' : w.heap[b]? = some (.cells cur.toList.toArray e (0, 0)) := by rw [Array.toArray_toList]; exact hg
 have had : (adr (some (⟨b, 0, none⟩ : Addr))).add p = ⟨b, p, none⟩ := by
  rw [show adr (some (⟨b, 0, none⟩ : Addr)) = ⟨b, 0, none⟩ from rfl, add_mk, Nat.zero_add]
 rw [had] at hx
 have hcell : ∀ i, w.cell? ⟨b, i, none⟩ = cur.toList[i]? := fun i => by simp [World.cell?, hg]
 have hfz : ∀ i, w.frozen? ⟨b, i, none⟩ = false := fun i => by simp [World.frozen?, hg]
 have hrun := run_storeCells (P := P) (ad := ⟨b, p, none⟩) vs w 0 (fun u hu => List.all_eq_true.1 h1 u hu) (fun i hi => by
  rw [add_mk, hcell, hfz]
  refine ⟨?_, rfl⟩
  rw [List.getElem?_eq_getElem (by rw [Array.length_toList]; omega)]
  rfl)
 refine ⟨setCells w ⟨b, p, none⟩ vs 0, O', ?_, ?_, ?_, k⟩
 ·have hvsz : v.cells.size = sz := by rw [← hl, ← hvs]; simp
  simp only [execOp, hs.sim.ev hx, hs.sim.ev hy, Instr.storeAt, Instr.sureAddr, Sem.run_bind, Sem.run_pure, Result.andThen_ok, storeVar, run_sizeOf, hvsz, ne_eq, not_true, if_false, hvs, hrun]
 ·refine hs.old.trans ⟨⟨(setCells_os vs w 0).1, (setCells_os vs w 0).2.1, (setCells_os vs w 0).2.2, by rw [setCells_size]; exact Nat.le_refl _, fun i hi => setCells_heap vs w 0 i (by show i ≠ b; omega)⟩⟩
 ·refine hs.own.upd hu hs.old.size (by rw [setCells_size]; exact Nat.le_refl _) (fun i _ hi => setCells_heap vs w 0 i (fun e => hi (by rw [e]; simp [It.S, Value.ownBlock]))) ?_ (fun i hi => Or.inl hi)
  have hblk := setCells_blk (b := b) (j := p) (t := e) vs cur.toList w 0 hg'
  simp only [Nat.add_zero] at hblk
  subst hc
  refine ⟨by rw [lay_length]; exact hxl, .inr ⟨b, c, _, rfl, Nat.zero_le _, hblk, hmc, hcm, ?_, ?_⟩⟩
  ·rw [List.size_toArray, lay_length, Array.length_toList]; exact hsz
  ·rw [List.toList_toArray, lay_take, hcur]
end
section
variable {P : Program} {n : Nat} {wr : World} {fr : Fr} {O : List It} {ty : TypeId} {pos : String} {af : Array Edge} {dst : Option Tmp} {g : Option (Nat × Bool)} {Kp : Value → List It → Prop}
theorem Pu_indexS {t : TypeId} {x ix : Operand} {s : ByteArray} {kk : IntKind} {i : Int} [hS : StringT P t] (hx : ev fr x = some (.string s)) (hi : ev fr ix = some (.int kk i)) (h0 : 0 ≤ i) (h1 : i < s.size) : Pu P n wr fr O (.index t x ix) ty (.int .u8 (s.data.toList.getD i.toNat 0).toNat) :=
 fun a w hs _ _ _ _ => by
  have h := run_index_string (P := P) (w := w) t s kk i hS.h
  rw [dif_pos ⟨h0, h1⟩] at h
  have hlt : i.toNat < s.data.toList.length := by
   have : s.data.size = s.size := rfl
   rw [Array.length_toList, this]
   omega
  have e : s.data.toList.getD i.toNat 0 = s[i.toNat]'(by omega) := by
   rw [List.getD_eq_getElem?_getD, List.getElem?_eq_getElem hlt]
   rfl
  simp only [execOp, hs.sim.ev hx, hs.sim.ev hi, Sem.run_bind, h, Result.andThen_ok, e]
  rfl
theorem Pu_sliceL {t e sz bytes : Nat} {x y : Operand} {A : Option Addr} {len cap : Nat} {l : Int} [hE : ElemZ P t e sz bytes] (hx : ev fr x = some (.slice A len cap)) (hy : ev fr y = some (.int .i64 l)) (h0 : 0 ≤ l) (h1 : l ≤ len) (h2 : l < cap) :
  Pu P n wr fr O (.slice t x (some y) none none) ty (.slice (A.map (·.add (l.toNat * sz))) (len - l.toNat) (cap - l.toNat)) := fun a w hs _ _ _ _ => by
 obtain ⟨i, z, ht, hi, hz, hsz, hby, hzs, hpos⟩ := ElemZ.parts hE.h
 have hne : ¬ (cap = l.toNat) := by omega
 simp [execOp, hs.sim.ev hx, hs.sim.ev hy, Instr.sliceAt, Instr.slice, run_underlying ht, Instr.sliceBounds, run_sliceBound, h0, h1, sizeOf, typeInfo, hi, hne, hsz]
end
section
variable {P : Program} {n : Nat} {wr : World} {fr : Fr} {O : List It} {ty : TypeId} {pos : String} {af : Array Edge} {dst : Option Tmp} {g : Option (Nat × Bool)} {Kp : Value → List It → Prop}
theorem row_storeCells {e size m c p : Nat} {A : Option Addr} {xs xs' vs : List Value} {O' : List It} {a : Act} {w : World} (hs : St n wr fr O a w)
  (hu : Upd O (.row (.slice A m c) e size m xs) (.row (.slice A m c) e size m xs') O') (h1 : vs.all Value.oneCell' = true) (hp : p + vs.length ≤ xs.length) (h0 : 0 < vs.length) (hc : lay xs p vs = xs') :
  ∃ w', (storeCells ((adr A).add p) vs 0).run P w = .ok () w' ∧ Bel wr.heap.size wr w' ∧ Holds wr.heap.size O' w' := by
 have hsat := hs.own.sat _ hu.mem
 obtain ⟨hxl, hnn | ⟨b, cap, cur, hval, hb0, hg, hmc, hcm, hsz, hcur⟩⟩ := id hsat
 ·obtain ⟨_, rfl⟩ := hnn
  simp at hxl
  subst hxl
  simp only [List.length_nil] at hp
  omega
 injection hval with hA _ hcc
 subst hA hcc
 have hb := hs.own.inb _ hu.mem b (by simp [It.S, Value.ownBlock])
 have hxc : xs.length ≤ cur.size := by rw [← hcur, List.length_take, Array.length_toList]; omega
 have hg' : w.heap[b]? = some (.cells cur.toList.toArray e (0, 0)) := by rw [Array.toArray_toList]; exact hg
 have had : (adr (some (⟨b, 0, none⟩ : Addr))).add p = ⟨b, p, none⟩ := by
  rw [show adr (some (⟨b, 0, none⟩ : Addr)) = ⟨b, 0, none⟩ from rfl, add_mk, Nat.zero_add]
 rw [had]
 have hcell : ∀ i, w.cell? ⟨b, i, none⟩ = cur.toList[i]? := fun i => by simp [World.cell?, hg]
 have hfz : ∀ i, w.frozen? ⟨b, i, none⟩ = false := fun i => by simp [World.frozen?, hg]
 have hrun := run_storeCells (P := P) (ad := ⟨b, p, none⟩) vs w 0 (fun u hu => List.all_eq_true.1 h1 u hu) (fun i hi => by
  rw [add_mk, hcell, hfz]
  refine ⟨?_, rfl⟩
  rw [List.getElem?_eq_getElem (by rw [Array.length_toList]; omega)]
  rfl)
 refine ⟨setCells w ⟨b, p, none⟩ vs 0, hrun, ?_, ?_⟩
 ·refine hs.old.trans ⟨⟨(setCells_os vs w 0).1, (setCells_os vs w 0).2.1, (setCells_os vs w 0).2.2, by rw [setCells_size]; exact Nat.le_refl _, fun i hi => setCells_heap vs w 0 i (by show i ≠ b; omega)⟩⟩
 ·refine hs.own.upd hu hs.old.size (by rw [setCells_size]; exact Nat.le_refl _) (fun i _ hi => setCells_heap vs w 0 i (fun e => hi (by rw [e]; simp [It.S, Value.ownBlock]))) ?_ (fun i hi => Or.inl hi)
  have hblk := setCells_blk (b := b) (j := p) (t := e) vs cur.toList w 0 hg'
  simp only [Nat.add_zero] at hblk
  subst hc
  refine ⟨by rw [lay_length]; exact hxl, .inr ⟨b, c, _, rfl, Nat.zero_le _, hblk, hmc, hcm, ?_, ?_⟩⟩
  ·rw [List.size_toArray, lay_length, Array.length_toList]; exact hsz
  ·rw [List.toList_toArray, lay_take, hcur]
theorem Stp_clearR {t e sz bytes p k m c cp : Nat} {x : Operand} {ad : Addr} {xs : List Value} {z : Value} {O' : List It} [hE : ElemZ P t e sz bytes] [hz : ZeroV P e z] (hx : ev fr x = some (.slice (some (ad.add p)) k cp))
  (hu : Upd O (.row (.slice (some ad) m c) e sz m xs) (.row (.slice (some ad) m c) e sz m (lay xs p (Builtin.zeroCells z.cells k).toList)) O') (h1 : (Builtin.zeroCells z.cells k).toList.all Value.oneCell' = true) (hk : 0 < k) (hp : p + k * sz ≤ xs.length)
  (kk : Kp (.tuple #[]) O') : Stp P n wr fr O ⟨dst, .call ⟨.builtin .clear, #[x], #[t]⟩, ty, pos, af, g⟩ Kp := by
 refine Stp_val fun a w hs => ?_
 obtain ⟨i, z', ht, hi, hz', hsz, hby, hzs, hpos⟩ := ElemZ.parts hE.h
 have hzz : z' = z := by
  have h := hz.h
  unfold zeroV at h
  rw [hi] at h
  exact Option.some.inj (hz'.symm.trans h)
 subst hzz
 have hlen : (Builtin.zeroCells z'.cells k).toList.length = k * sz := by rw [Array.length_toList, size_zeroCells, hzs]
 obtain ⟨w', hr, h2, h3⟩ := row_storeCells (P := P) hs hu h1 (by rw [hlen]; exact hp) (by rw [hlen]; exact Nat.mul_pos hk hpos) rfl
 refine ⟨.tuple #[], w', O', ?_, h2, h3, kk⟩
 obtain ⟨k, rfl⟩ : ∃ k', k = k' + 1 := ⟨k - 1, by omega⟩
 have hr' : (storeCells (ad.add p) (Builtin.zeroCells z'.cells (k + 1)).toList 0).run P w = .ok () w' := hr
 simp [execOp, resolve, invoke, builtin, Builtin.clear_, hs.sim.ev hx, run_underlying ht, run_zeroV, hr']
theorem RL_shrink {ops : Array Oper} {l0 : List Oper} {K : Fr → List It → Prop} {e size m c : Nat} {A : Option Addr} {xs : List Value} {O' : List It} (k : Nat) (hk : k ≤ m) (hu : Upd O (.row (.slice A m c) e size m xs) (.row (.slice A k c) e size k (xs.take (k * size))) O')
  (h : RL P n wr ops l0 K fr O') : RL P n wr ops l0 K fr O := fun a w hs => h a w ⟨hs.sim, hs.old, by
 refine hs.own.upd hu hs.old.size (Nat.le_refl _) (fun _ _ _ => rfl) ?_ (fun i hi => ?_)
 ·have hsat := hs.own.sat _ hu.mem
  obtain ⟨hxl, hnn | ⟨b, cap, cur, hval, hb0, hg, hmc, hcm, hsz, hcur⟩⟩ := hsat
  ·obtain ⟨hv, rfl⟩ := hnn
   obtain rfl : k = 0 := by omega
   injection hv with h1 _ h3
   subst h1 h3
   exact ⟨by simp, .inl ⟨rfl, rfl⟩⟩
  ·injection hval with hA _ hcc
   subst hA hcc
   refine ⟨?_, .inr ⟨b, c, cur, rfl, Nat.zero_le _, hg, by omega, hcm, hsz, ?_⟩⟩
   ·have hle : k * size ≤ m * size := Nat.mul_le_mul_right size hk
    rw [List.length_take, hxl]
    omega
   ·have hle : k * size ≤ m * size := Nat.mul_le_mul_right size hk
    rw [← hcur, List.take_take, Nat.min_eq_left hle]
 ·left
  simp only [It.S, Value.ownBlock] at hi ⊢
  cases A with
  | none => exact hi
  | some a => exact hi⟩
theorem Pu_loadR2 {t sz e size p q m c : Nat} {x : Operand} {ad : Addr} {xs : List Value} {v : Value} {R : List It} [Ty P t sz false] (hx : ev fr x = some (.pointer (some ((adr (some (ad.add q))).add p))))
  (hp : Pick (.row (.slice (some ad) m c) e size m xs) O R) (hv : xs[q + p]? = some v) : Pu P n wr fr O (.load t x) ty v :=
 Pu_load1 hx fun w _ hO => by
  rw [show adr (some (ad.add q)) = ad.add q from rfl, add_of_add]
  exact (row_cell (hO.of hp) hv).2
end
theorem wp_mono2 {P : Program} {o : Oper} {a : Act} {w : World} {K K' : Act → World → Prop} {Q Q' : Exit → Act → World → Prop} (h : ∀ a w, K a w → K' a w) (hq : ∀ e a w, Q e a w → Q' e a w) (hh : o.wp P a w K Q) : o.wp P a w K' Q' := by
 unfold Oper.wp at *
 generalize (execOp a.eval o).run P w = r at *
 cases r with
 | ok n w' =>
  cases n <;> simp only [Oper.upon] at hh ⊢ <;>
   first
    | exact h _ _ hh
    | exact Calls.mono hh (fun e w'' he => by cases e <;> first | exact h _ _ he | exact hq _ _ _ he | exact (fun ⟨a, w, h⟩ => ⟨a, w, hq _ _ _ h⟩ : LetsOut Q → LetsOut Q') he)
    | exact Rows.mono hh (fun _ _ he => h _ _ he)
 | halt x w' => cases x <;> simp only [Oper.upon] at hh ⊢ <;> first | exact hq _ _ _ hh | exact hh
theorem wpList_mono {P : Program} {ops : Array Oper} {Q Q' : Exit → Act → World → Prop} (hq : ∀ e a w, Q e a w → Q' e a w) : ∀ (l : List Oper) (a : Act) (w : World), wpList P ops Q l a w → wpList P ops Q' l a w
 | [], a, w, h => hq _ _ _ h
 | o :: l, a, w, h => by
  unfold wpList at h ⊢
  split
  ·rename_i hw
   rw [if_pos hw] at h
   exact h.imp (wp_mono2 (wpList_mono hq l) hq) (fun ⟨h1, a, w, h2⟩ => ⟨h1, a, w, hq _ _ _ h2⟩)
  ·rename_i hw
   rw [if_neg hw] at h
   exact wpList_mono hq l _ _ h
section
variable {P : Program} {n : Nat} {wr : World} {ops : Array Oper} {fr : Fr} {O : List It} {K : Fr → List It → Prop} {ty : TypeId}
theorem RL_post {l : List Oper} (I : Fr → List It → Prop) (h1 : RL P n wr ops l I fr O) (h2 : ∀ fr' O', I fr' O' → K fr' O') : RL P n wr ops l K fr O :=
 fun a w hs => wpList_mono (fun _ _ _ ⟨h3, fr', O', h4, h5⟩ => ⟨h3, fr', O', h4, h2 fr' O' h5⟩) l a w (h1 a w hs)
theorem Pu_conv8 {t t' : TypeId} {x : Operand} {kk : IntKind} {i : Int} {sz : Nat} {ag : Bool} [Ty P t sz ag] [IntT P t' .u8] (hx : ev fr x = some (.int kk i)) (h0 : 0 ≤ i) (h1 : i ≤ 255) : Pu P n wr fr O (.convert t t' x) ty (.int .u8 i) := by
 have := Pu_convI (P := P) (n := n) (wr := wr) (O := O) (ty := ty) (t := t) (t' := t') hx
 rwa [show IntKind.u8.wrap i = i from IntWalk.u8_in i ⟨h0, h1⟩] at this
end
theorem Pu_loadRN {P : Program} {n : Nat} {wr : World} {fr : Fr} {O : List It} {ty : TypeId} {t sz e size p m c : Nat} {x : Operand} {A : Option Addr} {xs vs : List Value} {R : List It} [Ty P t sz true] (hx : ev fr x = some (.pointer (some ((adr A).add p))))
  (hp : Pick (.row (.slice A m c) e size m xs) O R) (hv : ∀ j v, vs[j]? = some v → xs[p + j]? = some v) (hl : vs.length = sz) : Pu P n wr fr O (.load t x) ty (.agg vs.toArray) :=
 Pu_loadN hx hl fun w _ hO j v hj => by
  rw [add_of_add]
  exact (row_cell (hO.of hp) (hv j v hj)).2
theorem Pu_indexAddrH {P : Program} {n : Nat} {wr : World} {fr : Fr} {O : List It} {ty : TypeId} {t e sz bytes : Nat} {x ix : Operand} {A : Option Addr} {len cap : Nat} {kk : IntKind} {i : Int} [hE : ElemT P t e sz bytes] (hx : ev fr x = some (.slice A len cap)) (hi : ev fr ix = some (.int kk i))
  (h0 : 0 ≤ i) (h1 : i < len) (hA : ∀ w, Bel wr.heap.size wr w → Holds wr.heap.size O w → A ≠ none) : Pu P n wr fr O (.indexAddr t x ix) ty (.pointer (some ((adr A).add (i.toNat * sz)))) :=
 fun a w hs => Pu_indexAddr hx hi h0 h1 (hA w hs.old hs.own) a w hs
section
variable {P : Program} {n : Nat} {wr : World} {fr : Fr} {O : List It} {ty : TypeId} {pos : String} {af : Array Edge} {dst : Option Tmp} {g : Option (Nat × Bool)} {Kp : Value → List It → Prop}
theorem Stp_callVIn {f : FuncId} {gx : Operand} {xs : List Operand} {ts : Array TypeId} {us vs cs : List Value} {O2 : List It} {R : Value → List It → Prop} [Body P f] (hg : ev fr gx = some (.func (.func f) us.toArray cs.toArray)) (hx : evsO fr xs = some vs) (h : DoesIn P f (us ++ vs ++ cs) wr O2 R) (hO : SubO O2 O) (k : ∀ v O', R v O' → Kp v O') :
  Stp P n wr fr O ⟨dst, .call ⟨.value gx, xs.toArray, ts⟩, ty, pos, af, g⟩ Kp := by
 intro a w hs Kn Q hk
 have hrun : (execOp a.eval ⟨dst, .call ⟨.value gx, xs.toArray, ts⟩, ty, pos, af, g⟩).run P w = .ok (.enter f (us ++ vs ++ cs).toArray) w := by
  have := hs.sim.evsO hx
  simp [execOp, resolve, hs.sim.ev hg, Deferred.ofValue, invoke, run_callFunc, this]
 unfold Oper.wp
 rw [hrun, Oper.upon_enter]
 refine (h w hs.old (hs.own.sub hO)).mono ?_
 rintro e w' ⟨v, O', rfl, hB, hH, hR⟩
 exact hk v _ w' hB hH (k v O' hR)
end
theorem Pu_minI {P : Program} {n : Nat} {wr : World} {fr : Fr} {O : List It} {ty : TypeId} {x y : Operand} {ts : Array TypeId} {k : IntKind} {i j : Int} (hx : ev fr x = some (.int k i)) (hy : ev fr y = some (.int k j)) : Pu P n wr fr O (.call ⟨.builtin .min, #[x, y], ts⟩) ty (.int k (if j < i then j else i)) :=
 fun a w hs _ _ _ _ => by simp [execOp, resolve, invoke, builtin, Builtin.min_, Builtin.min2, hs.sim.ev hx, hs.sim.ev hy]
section
variable {P : Program} {n : Nat} {wr : World} {fr : Fr} {O : List It} {ty : TypeId}
theorem Pu_shrW {t t' : TypeId} {x y : Operand} {kk yk : IntKind} {i j : Int} (hx : ev fr x = some (.int kk i)) (hy : ev fr y = some (.int yk j)) (h0 : 0 ≤ j) : Pu P n wr fr O (.binOp .shr t x y t') ty (.int kk (i.fdiv (2 ^ min j.toNat kk.bits))) :=
 fun a w hs _ _ _ _ => by simp [execOp, hs.sim.ev hx, hs.sim.ev hy, eqGuard, binOp, Op.shift, Int.not_lt.2 h0]
theorem Pu_andW {t t' : TypeId} {x y : Operand} {kk : IntKind} {i j : Int} (hx : ev fr x = some (.int kk i)) (hy : ev fr y = some (.int kk j)) : Pu P n wr fr O (.binOp .and t x y t') ty (.int kk (kk.wrap (BitVec.ofInt kk.bits i &&& BitVec.ofInt kk.bits j).toNat)) :=
 fun a w hs _ _ _ _ => by simp [execOp, hs.sim.ev hx, hs.sim.ev hy, eqGuard, binOp, Op.intBits]
end
theorem Does.monoO {P : Program} {f : FuncId} {args : List Value} {w : World} {R R' : Value → List It → Prop} (h : Does P f args w R) (hr : ∀ v O, R v O → ∃ O', R' v O' ∧ ∀ base w', Holds base O w' → Holds base O' w') : Does P f args w R' :=
 Calls.mono h fun _ _ ⟨v, O, h1, h2, h3, h4⟩ => by
  obtain ⟨O', h5, h6⟩ := hr v O h4
  exact ⟨v, O', h1, h2, h6 _ _ h3, h5⟩
section
variable {P : Program} {n : Nat} {wr : World} {fr : Fr} {O : List It} {ty : TypeId}
theorem Pu_add8 {t t' : TypeId} {x y : Operand} {i j : Int} (hx : ev fr x = some (.int .u8 i)) (hy : ev fr y = some (.int .u8 j)) (h : 0 ≤ i + j ∧ i + j ≤ 255) : Pu P n wr fr O (.binOp .add t x y t') ty (.int .u8 (i + j)) := by
 have := Pu_addW (P := P) (n := n) (wr := wr) (O := O) (ty := ty) (t := t) (t' := t') hx hy
 rwa [IntWalk.u8_in _ h] at this
end
section
variable {P : Program} {n : Nat} {wr : World} {fr : Fr} {O : List It} {ty : TypeId} {pos : String} {af : Array Edge} {dst : Option Tmp} {g : Option (Nat × Bool)} {Kp : Value → List It → Prop}
end
theorem Pu_sliceLH {P : Program} {n : Nat} {wr : World} {fr : Fr} {O : List It} {ty : TypeId} {t e sz bytes : Nat} {x y z : Operand} {A A' : Option Addr} {len cap m' c' : Nat} {l h : Int} [hE : ElemZ P t e sz bytes] (hx : ev fr x = some (.slice A len cap)) (hy : ev fr y = some (.int .i64 l)) (hz : ev fr z = some (.int .i64 h)) (h0 : 0 ≤ l) (h1 : l ≤ h) (h2 : h ≤ cap) (h3 : l < cap)
  (e1 : A.map (·.add (l.toNat * sz)) = A') (e2 : h.toNat - l.toNat = m') (e3 : cap - l.toNat = c') :
  Pu P n wr fr O (.slice t x (some y) (some z) none) ty (.slice A' m' c') := fun a w hs _ _ _ _ => by
 obtain ⟨i, z, ht, hi, hz', hsz, hby, hzs, hpos⟩ := ElemZ.parts hE.h
 have hne : ¬ (cap = l.toNat) := by omega
 have h4 : 0 ≤ h := by omega
 subst e1 e2 e3
 have hb : (Instr.sliceBound (.int .i64 l) h.toNat .sliceB).run P w = .ok l.toNat w := run_sliceBound _ _ _ _ _ h0 (by omega)
 simp [execOp, hs.sim.ev hx, hs.sim.ev hy, hs.sim.ev hz, Instr.sliceAt, Instr.slice, run_underlying ht, Instr.sliceBounds, run_sliceBound, h2, h4, hb, sizeOf, typeInfo, hi, hne, hsz]
theorem Pu_fieldAddrA {P : Program} {n : Nat} {wr : World} {fr : Fr} {O : List It} {ty : TypeId} {s f off sz p : Nat} {ag : Bool} {x : Operand} {A : Option Addr} [FieldAt P s f off sz ag] (hx : ev fr x = some (.pointer (some ((adr A).add p)))) : Pu P n wr fr O (.fieldAddr s x f) ty (.pointer (some ((adr A).add (p + off)))) := by
 have h := Pu_fieldAddr (P := P) (n := n) (wr := wr) (O := O) (ty := ty) (s := s) (f := f) hx
 rwa [add_of_add] at h
section
variable {P : Program} {n : Nat} {wr : World} {fr : Fr} {O : List It} {ty : TypeId} {pos : String} {af : Array Edge} {dst : Option Tmp} {g : Option (Nat × Bool)} {Kp : Value → List It → Prop}
theorem Pu_loadRF {t sz e size p q m c : Nat} {x : Operand} {A : Option Addr} {xs : List Value} {v : Value} {R : List It} [Ty P t sz false] (hx : ev fr x = some (.pointer (some (((adr A).add p).add q))))
  (hp : Pick (.row (.slice A m c) e size m xs) O R) (hv : xs[p + q]? = some v) : Pu P n wr fr O (.load t x) ty v :=
 Pu_loadR (by rw [← add_of_add]; exact hx) hp hv
theorem Stp_storeRF {t sz e size m c p q : Nat} {ag : Bool} {x y : Operand} {A : Option Addr} {xs xs' vs : List Value} {v : Value} {O' : List It} [hT : Ty P t sz ag] (hx : ev fr x = some (.pointer (some (((adr A).add p).add q)))) (hy : ev fr y = some v)
  (hu : Upd O (.row (.slice A m c) e size m xs) (.row (.slice A m c) e size m xs') O') (hvs : v.cells.toList = vs) (hl : vs.length = sz) (h1 : vs.all Value.oneCell' = true) (hp : p + q + sz ≤ xs.length) (h0 : 0 < sz) (hc : lay xs (p + q) vs = xs')
  (k : Kp undef O') : Stp P n wr fr O ⟨dst, .store t x y, ty, pos, af, g⟩ Kp := Stp_storeR (by rw [← add_of_add]; exact hx) hy hu hvs hl h1 hp h0 hc k
end
theorem split_eq (a b : Int) (hb : 0 < b) : (a.tmod b < 0 → a.tdiv b - 1 = a / b ∧ a.tmod b + b = a % b) ∧ (¬ a.tmod b < 0 → a.tdiv b = a / b ∧ a.tmod b = a % b) := by
 have h1 := Int.mul_tdiv_add_tmod a b
 have h2 := Int.tmod_lt_of_pos a hb
 have h3 := Int.lt_tmod_of_pos a hb
 have key : ∀ q r : Int, b * q + r = a → 0 ≤ r → r < b → q = a / b ∧ r = a % b := fun q r h0 h4 h5 => by
  have := (Int.ediv_emod_unique (a := a) (r := r) (q := q) hb).2 ⟨by omega, h4, h5⟩
  exact ⟨this.1.symm, this.2.symm⟩
 constructor
 ·intro h
  exact key _ _ (by rw [Int.mul_sub]; omega) (by omega) (by omega)
 ·intro h
  exact key _ _ h1 (by omega) h2
theorem tmod_zero (a b : Int) : a.tmod b = 0 ↔ a % b = 0 := by rw [← Int.dvd_iff_tmod_eq_zero, ← Int.dvd_iff_emod_eq_zero]
theorem tdiv_bd (a b : Int) : -(a.natAbs : Int) ≤ a.tdiv b ∧ a.tdiv b ≤ a.natAbs := by
 have h1 := Int.natAbs_tdiv_le_natAbs a b
 omega
section
variable {P : Program} {n : Nat} {wr : World} {fr : Fr} {O : List It} {ty : TypeId}
theorem Pu_quoT {t t' : TypeId} {x y : Operand} {i j : Int} (hx : ev fr x = some (.int .i64 i)) (hy : ev fr y = some (.int .i64 j)) (hj : j ≠ 0) (hn : i.natAbs ≤ 9223372036854775807) : Pu P n wr fr O (.binOp .quo t x y t') ty (.int .i64 (i.tdiv j)) := by
 have := Pu_quo (P := P) (n := n) (wr := wr) (O := O) (ty := ty) (t := t) (t' := t') hx hy hj
 have hb := tdiv_bd i j
 rwa [wrap64_id (by omega)] at this
theorem Pu_maxJ {x y : Operand} {ts : Array TypeId} {k : IntKind} {i j : Int} (hx : ev fr x = some (.int k i)) (hy : ev fr y = some (.int k j)) : Pu P n wr fr O (.call ⟨.builtin .max, #[x, y], ts⟩) ty (.int k (if i < j then j else i)) :=
 fun a w hs _ _ _ _ => by simp [execOp, resolve, invoke, builtin, Builtin.max_, Builtin.max2, hs.sim.ev hx, hs.sim.ev hy]
theorem Pu_indexArr {t len e sz : Nat} {ag : Bool} {x ix : Operand} {ad : Addr} {kk : IntKind} {i : Int} [hA : ArrT P t len e sz ag] (hx : ev fr x = some (.pointer (some ad))) (hi : ev fr ix = some (.int kk i)) (h0 : 0 ≤ i) (h1 : i < len) :
  Pu P n wr fr O (.indexAddr t x ix) ty (.pointer (some (ad.add (i.toNat * sz)))) :=
 fun a w hs _ _ _ _ => by
  have h := hA.h
  unfold arrChk at h
  split at h
  ·rename_i len' e' hu
   split at h
   ·rename_i sz' ag' ht
    simp only [Option.some.injEq, Prod.mk.injEq] at h
    obtain ⟨rfl, rfl, rfl, rfl⟩ := h
    obtain ⟨inf, dd, hinf, hsz, _, _⟩ := Ty.parts ht
    simp [execOp, hs.sim.ev hx, hs.sim.ev hi, Instr.indexAt, asIntOf, run_underlying hu, Instr.sureAddr, h0, h1, sizeOf, run_typeInfo hinf, hsz]
   ·cases h
  ·cases h
end
section
variable {P : Program} {n : Nat} {wr : World} {ops : Array Oper} {rest : List Oper} {K : Fr → List It → Prop} {fr : Fr} {O : List It} {ty : TypeId} {pos : String} {af : Array Edge}
theorem RL_und {d' : Nat} {op : Op} {j : Nat} {b : Bool} {oj : Oper} {d : Nat} (hj : ops[j]? = some oj) (hd : oj.dst = some d) (hb : look fr d = some undef) (hdn : Nat.ble (d' + 1) n = true)
  (k : RL P n wr ops rest K ((d', undef) :: fr) O) : RL P n wr ops (⟨some d', op, ty, pos, af, some (j, b)⟩ :: rest) K fr O := by
 intro a w hs
 have := k (a.put (some d') undef) w ⟨hs.sim.put hdn undef, hs.old, hs.own⟩
 have hw : Region.wanted (⟨some d', op, ty, pos, af, some (j, b)⟩ : Oper) (yielded ops a.tmps) = false := by
  have hy : yielded ops a.tmps j = none := by simp [yielded, hj, hd, hs.sim.at_ d _ hb, undef]
  simp only [Region.wanted, hy]
  cases b <;> rfl
 simp only [wpList, hw]
 exact this
end
section
variable {P : Program} {n : Nat} {wr : World} {fr : Fr} {O : List It} {ty : TypeId} {pos : String} {af : Array Edge} {dst : Option Tmp} {g : Option (Nat × Bool)} {Kp : Value → List It → Prop}
theorem Stp_makeMapN {t kt et : Nat} {x : Operand} {kk : IntKind} {i : Int} [hM : MapT P t kt et] (hx : ev fr x = some (.int kk i)) (k : ∀ b, Kp (.map (some b)) (.mp b [] :: O)) : Stp P n wr fr O ⟨dst, .makeMap t (some x), ty, pos, af, g⟩ Kp :=
 Stp_val fun a w hs => by
  have hB : Bel w.heap.size w (w.alloc (.map #[] 0)) := (Bel.refl _ _).alloc (Nat.le_refl _) _
  have hu := MapT.parts hM.h
  refine ⟨.map (some w.heap.size), w.alloc (.map #[] 0), _, ?_, hs.old.trans (hB.mono hs.old.size), hs.own.grow (O' := [.mp w.heap.size []]) hB hs.old.size ⟨fun i hi => ?_, fun i hi b hb => ?_, List.pairwise_singleton _ _⟩, k _⟩
  ·simp [execOp, hs.sim.ev hx, Instr.makeMap, run_underlying hu, asInt, asIntOf, newObj, Sem.run]
  ·rw [List.mem_singleton.1 hi]
   exact ⟨#[], 0, heap_alloc_new w _, rfl⟩
  ·rw [List.mem_singleton.1 hi] at hb
   simp only [It.S] at hb
   subst hb
   exact ⟨Nat.le_refl _, by simp⟩
theorem toList_eraseIn (es : Array MapEntry) (j : Nat) : (es.eraseIdxIfInBounds j).toList = es.toList.eraseIdx j := by
 unfold Array.eraseIdxIfInBounds
 split
 ·simp
 ·rw [List.eraseIdx_of_length_le (by simp; omega)]
theorem Stp_delete {t t2 kt et b : Nat} {x ix : Operand} {m : List (ByteArray × Value)} {k : ByteArray} {O' : List It} [hM : MapT P t kt et] [StringT P kt] (hx : ev fr x = some (.map (some b))) (hi : ev fr ix = some (.string k))
  (hu : Upd O (.mp b m) (.mp b (mdel m k)) O') (kk : Kp (.tuple #[]) O') : Stp P n wr fr O ⟨dst, .call ⟨.builtin .delete, #[x, ix], #[t, t2]⟩, ty, pos, af, g⟩ Kp :=
 Stp_val fun a w hs => by
  have ht := MapT.parts hM.h
  obtain ⟨es, c, h1, h2⟩ := hs.own.sat _ hu.mem
  have hf := mfind_del k m es.toList 0 h2
  cases hfi : mfind m k 0 with
  | none =>
   rw [hfi] at hf
   have hst := hs.setMap (es' := es) (c' := c) hu (by unfold entriesOf; rw [hf]; exact h2)
   refine ⟨.tuple #[], _, O', ?_, hst.1, hst.2, kk⟩
   simp only [execOp, resolve, invoke, builtin, Builtin.delete_, hs.sim.ev hx, hs.sim.ev hi]
   simp [hs.sim.ev hx, hs.sim.ev hi, Builtin.delete_, run_underlying ht, run_getObj h1, run_checkKey _ k 9999, run_findKey k m es.toList w h2, hfi, setObj, Sem.run, h1]
  | some p =>
   obtain ⟨j, u⟩ := p
   rw [hfi] at hf
   obtain ⟨_, hf2⟩ := hf
   rw [Nat.sub_zero] at hf2
   have hst := hs.setMap (es' := es.eraseIdxIfInBounds j) (c' := c) hu (by unfold entriesOf; rw [toList_eraseIn]; exact hf2)
   refine ⟨.tuple #[], _, O', ?_, hst.1, hst.2, kk⟩
   simp only [execOp, resolve, invoke, builtin, Builtin.delete_, hs.sim.ev hx, hs.sim.ev hi]
   simp [hs.sim.ev hx, hs.sim.ev hi, Builtin.delete_, run_underlying ht, run_getObj h1, run_checkKey _ k 9999, run_findKey k m es.toList w h2, hfi, setObj, Sem.run, h1]
def MpAt (w : World) (b : Nat) (m : List (ByteArray × Value)) : Prop := (It.mp b m).sat w
theorem MpAt.up {w w' : World} {b : Nat} {m : List (ByteArray × Value)} {B : Nat} (h : MpAt w b m) (hb : Bel B w w') (hB : w.heap.size ≤ B) : MpAt w' b m := by
 refine It.sat_congr h fun k hk => ?_
 obtain rfl : k = b := hk
 obtain ⟨es, c, h1, _⟩ := h
 exact hb.block k (Nat.lt_of_lt_of_le (Array.getElem?_eq_some_iff.1 h1).1 hB)
theorem Pu_lookupOld {t kt et b : Nat} {x ix : Operand} {m : List (ByteArray × Value)} {k : ByteArray} {z v : Value} [hM : MapT P t kt et] [StringT P kt] [ZeroV P et z] (hx : ev fr x = some (.map (some b))) (hi : ev fr ix = some (.string k))
  (hp : MpAt wr b m) (hv : (mget m k).getD z = v) : Pu P n wr fr O (.lookup t x ix false) ty v := hv ▸ Pu_lookupO (kt := kt) (et := et) hx hi (fun _ hw _ => hp.up hw (Nat.le_refl _))
theorem Pu_lookupOkOld {t kt et b : Nat} {x ix : Operand} {m : List (ByteArray × Value)} {k : ByteArray} {z v : Value} {c : Bool} [hM : MapT P t kt et] [StringT P kt] [ZeroV P et z] (hx : ev fr x = some (.map (some b))) (hi : ev fr ix = some (.string k))
  (hp : MpAt wr b m) (hv : (mget m k).getD z = v) (hc : (mget m k).isSome = c) : Pu P n wr fr O (.lookup t x ix true) ty (.tuple [v, .bool c].toArray) :=
 fun a w hs _ _ _ _ => by
  have := run_lookup (P := P) (t := t) (kt := kt) (et := et) (k := k) (z := z) (hp.up hs.old (Nat.le_refl _)) true
  simp only [execOp, hs.sim.ev hx, hs.sim.ev hi, Sem.run_bind, this, Result.andThen_ok, Sem.run_pure]
  rw [← hv, ← hc]
  rfl
theorem Pu_eqNilMap {t t' kt et : Nat} {x : Operand} {p : Option Nat} [hM : MapT P t kt et] (hx : ev fr x = some (.map p)) : Pu P n wr fr O (.binOp .eql t x (.const (.map none)) t') ty (.bool p.isNone) :=
 fun a w hs _ _ _ _ => by
  have hu := MapT.parts hM.h
  have h : (binOp .eql t (.map p) (.map none)).run P w = .ok (.bool p.isNone) w := by
   simp only [binOp]
   have : ∀ d, (Op.equalIn (d + 1) t (.map p) (.map none)).run P w = .ok p.isNone w := fun d => by cases p <;> simp [Op.equalIn, run_underlying hu]
   rw [show Op.equal t (.map p) (.map none) = Op.equalIn (9999 + 1) t (.map p) (.map none) from rfl]
   simp only [Sem.run_bind, this 9999, Result.andThen_ok, Sem.run_pure]
  have hc : a.eval (.const (.map none)) = .map none := rfl
  simp [execOp, hs.sim.ev hx, hc, eqGuard, h]
theorem Pu_ifaceMap {t kt et : Nat} {x : Operand} {v : Value} [hM : MapT P t kt et] (hx : ev fr x = some v) : Pu P n wr fr O (.makeInterface t x) ty (.iface t v) :=
 fun a w hs _ _ _ _ => by
  have hu := MapT.parts hM.h
  simp [execOp, hs.sim.ev hx, Instr.makeInterface, run_underlying hu]
theorem Pu_assertMap {t xt kt et : Nat} {x : Operand} {v : Value} [hM : MapT P t kt et] (hx : ev fr x = some (.iface t v)) : Pu P n wr fr O (.typeAssert x xt t false) ty v :=
 fun a w hs _ _ _ _ => by
  have hu := MapT.parts hM.h
  simp [execOp, hs.sim.ev hx, Instr.typeAssert, run_underlying hu]
def isClone (P : Program) (f : FuncId) : Prop := ∀ (args : Array Value) (w : World), (callFunc f args).run P w = ((Extern.MapsClone.clone args).run P w).andThen fun v w' => .ok (.value v) w'
theorem Stp_mapsClone {f t b : Nat} {x : Operand} {ts : Array TypeId} {m : List (ByteArray × Value)} (hf : isClone P f) (hx : ev fr x = some (.iface t (.map (some b)))) (hp : ∀ w, Bel wr.heap.size wr w → Holds wr.heap.size O w → MpAt w b m)
  (kk : ∀ b2, Kp (.iface t (.map (some b2))) (.mp b2 m :: O)) : Stp P n wr fr O ⟨dst, .call ⟨.value (.func f), #[x], ts⟩, ty, pos, af, g⟩ Kp :=
 Stp_val fun a w hs => by
  obtain ⟨es, c, h1, h2⟩ := hp w hs.old hs.own
  have hB : Bel w.heap.size w (w.alloc (.map es c)) := (Bel.refl _ _).alloc (Nat.le_refl _) _
  have hrun : (Extern.MapsClone.clone #[.iface t (.map (some b))]).run P w = .ok (.iface t (.map (some w.heap.size))) (w.alloc (.map es c)) := by
   have e : Extern.MapsClone.clone #[.iface t (.map (some b))] = (getObj b >>= fun o => match o with
     | .map entries clock => (newObj (.map entries clock) >>= fun n => pure (.iface t (.map (some n))))
     | _ => stuck "maps.clone: a map expected") := rfl
   rw [e]
   simp [run_getObj h1, newObj, Sem.run]
  refine ⟨.iface t (.map (some w.heap.size)), w.alloc (.map es c), _, ?_, hs.old.trans (hB.mono hs.old.size), hs.own.grow (O' := [.mp w.heap.size m]) hB hs.old.size ⟨fun i hi => ?_, fun i hi b hb => ?_, List.pairwise_singleton _ _⟩, kk _⟩
  ·have hev := hs.sim.ev hx
   have he : a.eval (.func f) = .func (.func f) #[] #[] := rfl
   have hc := hf #[.iface t (.map (some b))] w
   rw [hrun, Result.andThen_ok] at hc
   simp [execOp, resolve, he, Deferred.ofValue, invoke, hc, hev]
  ·rw [List.mem_singleton.1 hi]
   exact ⟨es, c, heap_alloc_new w _, h2⟩
  ·rw [List.mem_singleton.1 hi] at hb
   simp only [It.S] at hb
   subst hb
   exact ⟨Nat.le_refl _, by simp⟩
end
def Nd (m : List (ByteArray × Value)) : Prop := (m.map (·.1)).Nodup
theorem mget_none_mem (k : ByteArray) : ∀ m : List (ByteArray × Value), mget m k = none ↔ k ∉ m.map (·.1)
 | [] => by simp [mget]
 | (x, v) :: r => by
  simp only [mget, List.map_cons, List.mem_cons, not_or]
  by_cases h : k = x
  ·simp [h]
  ·simp [h, mget_none_mem k r]
theorem mset_keys_in (k : ByteArray) (v : Value) : ∀ m : List (ByteArray × Value), k ∈ m.map (·.1) → (mset m k v).map (·.1) = m.map (·.1)
 | [], h => by simp at h
 | (x, u) :: r, h => by
  simp only [mset]
  by_cases hk : k = x
  ·simp [hk]
  ·rw [if_neg hk]
   simp only [List.map_cons, List.mem_cons, hk, false_or] at h ⊢
   rw [mset_keys_in k v r h]
theorem mset_keys_out (k : ByteArray) (v : Value) : ∀ m : List (ByteArray × Value), k ∉ m.map (·.1) → (mset m k v).map (·.1) = m.map (·.1) ++ [k]
 | [], _ => by simp [mset]
 | (x, u) :: r, h => by
  simp only [List.map_cons, List.mem_cons, not_or] at h
  simp only [mset, if_neg h.1, List.map_cons, mset_keys_out k v r h.2, List.cons_append]
theorem Nd.set {m : List (ByteArray × Value)} (h : Nd m) (k : ByteArray) (v : Value) : Nd (mset m k v) := by
 unfold Nd at h ⊢
 by_cases hk : k ∈ m.map (·.1)
 ·rw [mset_keys_in k v m hk]; exact h
 ·rw [mset_keys_out k v m hk, List.nodup_append]
  exact ⟨h, by simp, fun a ha b hb => by simp only [List.mem_singleton] at hb; subst hb; exact fun e => hk (e ▸ ha)⟩
theorem mdel_sub (k : ByteArray) : ∀ m : List (ByteArray × Value), (mdel m k).Sublist m
 | [] => List.Sublist.slnil
 | (x, u) :: r => by
  simp only [mdel]
  split
  ·exact List.sublist_cons_self _ _
  ·exact (mdel_sub k r).cons_cons _
theorem Nd.del {m : List (ByteArray × Value)} (h : Nd m) (k : ByteArray) : Nd (mdel m k) := List.Nodup.sublist ((mdel_sub k m).map _) h
theorem mget_mdel (k x : ByteArray) : ∀ {m : List (ByteArray × Value)}, Nd m → mget (mdel m k) x = if x = k then none else mget m x
 | [], _ => by simp [mdel, mget]
 | (y, u) :: r, h => by
  unfold Nd at h
  simp only [List.map_cons, List.nodup_cons] at h
  simp only [mdel]
  by_cases hk : k = y
  ·subst hk
   rw [if_pos rfl]
   by_cases hx : x = k
   ·subst hx
    rw [if_pos rfl]
    exact (mget_none_mem x r).2 h.1
   ·rw [if_neg hx, mget, if_neg hx]
  ·rw [if_neg hk]
   simp only [mget]
   by_cases hx : x = y
   ·subst hx
    rw [if_pos rfl, if_pos rfl, if_neg (fun e => hk e.symm)]
   ·rw [if_neg hx, if_neg hx, mget_mdel k x h.2]
theorem mdel_len (k : ByteArray) : ∀ {m : List (ByteArray × Value)}, (mget m k).isSome = true → (mdel m k).length + 1 = m.length
 | [], h => by simp [mget] at h
 | (y, u) :: r, h => by
  simp only [mget] at h
  simp only [mdel]
  by_cases hk : k = y
  ·simp [hk]
  ·rw [if_neg hk] at h ⊢
   simp [mdel_len k h]
theorem mset_len (k : ByteArray) (v : Value) : ∀ m : List (ByteArray × Value), (mset m k v).length ≤ m.length + 1
 | [] => by simp [mset]
 | (y, u) :: r => by
  simp only [mset]
  split
  ·simp
  ·simp [mset_len k v r]
end Go.Wk
