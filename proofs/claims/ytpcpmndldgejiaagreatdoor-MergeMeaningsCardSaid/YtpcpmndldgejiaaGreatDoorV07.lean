/- Parts of the proof. -/
import Derived.Test.YtpcpmndldgejiaaGreatDoorV06
import Derived.Orders
import Derived.Test.YtpcpmndldgejiaaGreatDoorV01
set_option maxHeartbeats 4000000
set_option linter.unusedVariables false
set_option linter.unusedSimpArgs false
namespace Go.Wk
open Go Go.RowKit
def Zam (P : Program) (f : FuncId) (args : List Value) (wr : World) (O : List It) (R : Value → List It → Prop) : Prop :=
 ∀ w, Bel wr.heap.size wr w → Holds wr.heap.size O w → Calls P f args.toArray w fun e w' => ∃ v O', e = .returned v ∧ Bel wr.heap.size wr w' ∧ Holds wr.heap.size O' w' ∧ R v O'
theorem ZaY {P : Program} {f : FuncId} {fn : Func} {c : Code} {args : List Value} {wr : World} {O : List It} {R : Value → List It → Prop} {n : Nat} {rs : List ResultVar} (hf : P.funcs[f]? = some fn) (hb : fn.body = some c) (hn : fn.ntmps = n) (hr : fn.results = rs.toArray)
  (ha : Nat.ble args.length n = true) (h : W P n wr c (retQ P wr rs R) (argsFr 0 args) O) : Zam P f args wr O R := by
 intro w hB hH
 refine calls_of_wp hf hb ?_
 have hst : St n wr (argsFr 0 args) O { tmps := args.toArray ++ Array.replicate (fn.ntmps - args.toArray.size) undef, defers := [] } w := by
  have ha' : args.length ≤ n := Nat.le_of_ble_eq_true ha
  refine ⟨⟨rfl, by simp; omega, fun t v hv => ?_⟩, hB, hH⟩
  have := (Zc3 args 0 t v hv).2
  simp only [Nat.sub_zero] at this
  have hlt : t < args.length := (List.getElem?_eq_some_iff.1 this).1
  rw [Array.getElem?_append_left (by simpa using hlt)]
  simpa using this
 refine wp_mono (h _ w hst) ?_
 rintro e a w' ⟨fr, O1, hs, hq⟩
 have fin : (∃ vs O', ResVs P wr fr O1 rs vs ∧ SubO O' O1 ∧ R (tupV vs) O') → a.defers = [] ∧ ∃ v, (results fn a.tmps).run P w' = .ok v w' ∧ ∃ v' O, Ending.returned v = .returned v' ∧ Bel wr.heap.size wr w' ∧ Holds wr.heap.size O w' ∧ R v' O := by
  rintro ⟨vs, O', h1, h2, h3⟩
  refine ⟨hs.sim.defers, (tupV vs), ?_, _, O', rfl, hs.old, hs.own.sub h2, h3⟩
  unfold results
  rw [hr, List.mapM_toArray]
  simp only [Sem.run_bind, Sem.run_map]
  rw [Zcl (P := P) hs _ (fun _ => rfl) (fun _ _ => rfl) rs vs h1]
  simp only [Result.andThen_ok, Sem.run_pure]
  congr 1
  clear h1 h3
  match vs with
  | [] => rfl
  | [v] => rfl
  | v :: u :: r => simp; rfl
 cases e with
 | ret => exact fin hq
 | normal => exact fin hq
 | _ => exact hq.elim
section
variable {P : Program} {n : Nat} {wr : World} {fr : Fr} {O : List It} {ty : TypeId} {pos : String} {af : Array Edge} {dst : Option Tmp} {g : Option (Nat × Bool)} {Kp : Value → List It → Prop}
theorem Zbt {f : FuncId} {xs : List Operand} {ts : Array TypeId} {vs : List Value} {O2 : List It} {R : Value → List It → Prop} [Body P f] (hx : evsO fr xs = some vs) (h : Zam P f vs wr O2 R) (hO : SubO O2 O) (k : ∀ v O', R v O' → Kp v O') :
  Stp P n wr fr O ⟨dst, .call ⟨.value (.func f), xs.toArray, ts⟩, ty, pos, af, g⟩ Kp := by
 intro a w hs Kn Q hk
 have hrun : (execOp a.eval ⟨dst, .call ⟨.value (.func f), xs.toArray, ts⟩, ty, pos, af, g⟩).run P w = .ok (.enter f vs.toArray) w := by
  have := hs.sim.evsO hx
  simp [execOp, resolve, Act.eval, Deferred.ofValue, invoke, ZbY, this]
 unfold Oper.wp
 rw [hrun, Oper.upon_enter]
 refine (h w hs.old (hs.own.sub hO)).mono ?_
 rintro e w' ⟨v, O', rfl, hB, hH, hR⟩
 exact hk v _ w' hB hH (k v O' hR)
theorem lay_take (N : Nat) : ∀ (vs cs : List Value) (j : Nat), (lay cs j vs).take N = lay (cs.take N) j vs
 | [], _, _ => rfl
 | v :: r, cs, j => by rw [lay, lay, lay_take N r, List.take_set]
theorem Zcq {t sz e size m c p : Nat} {ag : Bool} {x y : Operand} {A : Option Addr} {xs xs' vs : List Value} {v : Value} {O' : List It} [hT : Ty P t sz ag] (hx : ev fr x = some (.pointer (some ((adr A).add p)))) (hy : ev fr y = some v)
  (hu : Upd O (.row (.slice A m c) e size m xs) (.row (.slice A m c) e size m xs') O') (hvs : v.cells.toList = vs) (hl : vs.length = sz) (h1 : vs.all Value.oneCell' = true) (hp : p + sz ≤ xs.length) (h0 : 0 < sz) (hc : lay xs p vs = xs')
  (k : Kp undef O') : Stp P n wr fr O ⟨dst, .store t x y, ty, pos, af, g⟩ Kp := by
 refine Stp_skip fun a w hs => ?_
 have hsat := hs.own.sat _ hu.mem
 obtain ⟨hxl, hnn | ⟨b, cap, cur, hval, hb0, hg, hmc, hcm, hsz, hcur⟩⟩ := id hsat
 ·obtain ⟨_, rfl⟩ := hnn
  simp at hxl
  rw [hxl] at hp
  simp at hp
  omega
 injection hval with hA _ hcc
 subst hA hcc
 have hb := hs.own.inb _ hu.mem b (by simp [It.S, Value.ownBlock])
 have hxc : xs.length ≤ cur.size := by rw [← hcur, List.length_take, Array.length_toList]; omega
 have hg' : w.heap[b]? = some (.cells cur.toList.toArray e (0, 0)) := by rw [Array.toArray_toList]; exact hg
 have had : (adr (some (⟨b, 0, none⟩ : Addr))).add p = ⟨b, p, none⟩ := by
  rw [show adr (some (⟨b, 0, none⟩ : Addr)) = ⟨b, 0, none⟩ from rfl, Zcc, Nat.zero_add]
 rw [had] at hx
 have hcell : ∀ i, w.cell? ⟨b, i, none⟩ = cur.toList[i]? := fun i => by simp [World.cell?, hg]
 have hfz : ∀ i, w.frozen? ⟨b, i, none⟩ = false := fun i => by simp [World.frozen?, hg]
 have hrun := Zcs (P := P) (ad := ⟨b, p, none⟩) vs w 0 (fun u hu => List.all_eq_true.1 h1 u hu) (fun i hi => by
  rw [Zcc, hcell, hfz]
  refine ⟨?_, rfl⟩
  rw [List.getElem?_eq_getElem (by rw [Array.length_toList]; omega)]
  rfl)
 refine ⟨Zbc w ⟨b, p, none⟩ vs 0, O', ?_, ?_, ?_, k⟩
 ·have hvsz : v.cells.size = sz := by rw [← hl, ← hvs]; simp
  simp only [execOp, hs.sim.ev hx, hs.sim.ev hy, Instr.storeAt, Instr.sureAddr, Sem.run_bind, Sem.run_pure, Result.andThen_ok, storeVar, ZcQ, hvsz, ne_eq, not_true, if_false, hvs, hrun]
 ·refine hs.old.trans ⟨⟨(Zbe vs w 0).1, (Zbe vs w 0).2.1, (Zbe vs w 0).2.2, by rw [Zbl]; exact Nat.le_refl _, fun i hi => Zbm vs w 0 i (by show i ≠ b; omega)⟩⟩
 ·refine hs.own.upd hu hs.old.size (by rw [Zbl]; exact Nat.le_refl _) (fun i _ hi => Zbm vs w 0 i (fun e => hi (by rw [e]; simp [It.S, Value.ownBlock]))) ?_ (fun i hi => Or.inl hi)
  have hblk := Zdg (b := b) (j := p) (t := e) vs cur.toList w 0 hg'
  simp only [Nat.add_zero] at hblk
  subst hc
  refine ⟨by rw [lay_length]; exact hxl, .inr ⟨b, c, _, rfl, Nat.zero_le _, hblk, hmc, hcm, ?_, ?_⟩⟩
  ·rw [List.size_toArray, lay_length, Array.length_toList]; exact hsz
  ·rw [List.toList_toArray, lay_take, hcur]
end
section
variable {P : Program} {n : Nat} {wr : World} {fr : Fr} {O : List It} {ty : TypeId} {pos : String} {af : Array Edge} {dst : Option Tmp} {g : Option (Nat × Bool)} {Kp : Value → List It → Prop}
theorem Pu_indexS {t : TypeId} {x ix : Operand} {s : ByteArray} {kk : IntKind} {i : Int} [hS : StringT P t] (hx : ev fr x = some (.string s)) (hi : ev fr ix = some (.int kk i)) (h0 : 0 ≤ i) (h1 : i < s.size) : Pu P n wr fr O (.index t x ix) ty (.int .u8 (s.data.toList.getD i.toNat 0).toNat) :=
 fun a w hs _ _ _ _ => by
  have h := run_index_string (P := P) (w := w) t s kk i hS.h
  rw [dif_pos ⟨h0, h1⟩] at h
  have hlt : i.toNat < s.data.toList.length := by
   have : s.data.size = s.size := rfl
   rw [Array.length_toList, this]
   omega
  have e : s.data.toList.getD i.toNat 0 = s[i.toNat]'(by omega) := by
   rw [List.getD_eq_getElem?_getD, List.getElem?_eq_getElem hlt]
   rfl
  simp only [execOp, hs.sim.ev hx, hs.sim.ev hi, Sem.run_bind, h, Result.andThen_ok, e]
  rfl
theorem Pu_sliceL {t e sz bytes : Nat} {x y : Operand} {A : Option Addr} {len cap : Nat} {l : Int} [hE : ElemZ P t e sz bytes] (hx : ev fr x = some (.slice A len cap)) (hy : ev fr y = some (.int .i64 l)) (h0 : 0 ≤ l) (h1 : l ≤ len) (h2 : l < cap) :
  Pu P n wr fr O (.slice t x (some y) none none) ty (.slice (A.map (·.add (l.toNat * sz))) (len - l.toNat) (cap - l.toNat)) := fun a w hs _ _ _ _ => by
 obtain ⟨i, z, ht, hi, hz, hsz, hby, hzs, hpos⟩ := ElemZ.parts hE.h
 have hne : ¬ (cap = l.toNat) := by omega
 simp [execOp, hs.sim.ev hx, hs.sim.ev hy, Instr.sliceAt, Instr.slice, run_underlying ht, Instr.sliceBounds, run_sliceBound, h0, h1, sizeOf, typeInfo, hi, hne, hsz]
end
section
variable {P : Program} {n : Nat} {wr : World} {fr : Fr} {O : List It} {ty : TypeId} {pos : String} {af : Array Edge} {dst : Option Tmp} {g : Option (Nat × Bool)} {Kp : Value → List It → Prop}
theorem row_storeCells {e size m c p : Nat} {A : Option Addr} {xs xs' vs : List Value} {O' : List It} {a : Act} {w : World} (hs : St n wr fr O a w)
  (hu : Upd O (.row (.slice A m c) e size m xs) (.row (.slice A m c) e size m xs') O') (h1 : vs.all Value.oneCell' = true) (hp : p + vs.length ≤ xs.length) (h0 : 0 < vs.length) (hc : lay xs p vs = xs') :
  ∃ w', (storeCells ((adr A).add p) vs 0).run P w = .ok () w' ∧ Bel wr.heap.size wr w' ∧ Holds wr.heap.size O' w' := by
 have hsat := hs.own.sat _ hu.mem
 obtain ⟨hxl, hnn | ⟨b, cap, cur, hval, hb0, hg, hmc, hcm, hsz, hcur⟩⟩ := id hsat
 ·obtain ⟨_, rfl⟩ := hnn
  simp at hxl
  subst hxl
  simp only [List.length_nil] at hp
  omega
 injection hval with hA _ hcc
 subst hA hcc
 have hb := hs.own.inb _ hu.mem b (by simp [It.S, Value.ownBlock])
 have hxc : xs.length ≤ cur.size := by rw [← hcur, List.length_take, Array.length_toList]; omega
 have hg' : w.heap[b]? = some (.cells cur.toList.toArray e (0, 0)) := by rw [Array.toArray_toList]; exact hg
 have had : (adr (some (⟨b, 0, none⟩ : Addr))).add p = ⟨b, p, none⟩ := by
  rw [show adr (some (⟨b, 0, none⟩ : Addr)) = ⟨b, 0, none⟩ from rfl, Zcc, Nat.zero_add]
 rw [had]
 have hcell : ∀ i, w.cell? ⟨b, i, none⟩ = cur.toList[i]? := fun i => by simp [World.cell?, hg]
 have hfz : ∀ i, w.frozen? ⟨b, i, none⟩ = false := fun i => by simp [World.frozen?, hg]
 have hrun := Zcs (P := P) (ad := ⟨b, p, none⟩) vs w 0 (fun u hu => List.all_eq_true.1 h1 u hu) (fun i hi => by
  rw [Zcc, hcell, hfz]
  refine ⟨?_, rfl⟩
  rw [List.getElem?_eq_getElem (by rw [Array.length_toList]; omega)]
  rfl)
 refine ⟨Zbc w ⟨b, p, none⟩ vs 0, hrun, ?_, ?_⟩
 ·refine hs.old.trans ⟨⟨(Zbe vs w 0).1, (Zbe vs w 0).2.1, (Zbe vs w 0).2.2, by rw [Zbl]; exact Nat.le_refl _, fun i hi => Zbm vs w 0 i (by show i ≠ b; omega)⟩⟩
 ·refine hs.own.upd hu hs.old.size (by rw [Zbl]; exact Nat.le_refl _) (fun i _ hi => Zbm vs w 0 i (fun e => hi (by rw [e]; simp [It.S, Value.ownBlock]))) ?_ (fun i hi => Or.inl hi)
  have hblk := Zdg (b := b) (j := p) (t := e) vs cur.toList w 0 hg'
  simp only [Nat.add_zero] at hblk
  subst hc
  refine ⟨by rw [lay_length]; exact hxl, .inr ⟨b, c, _, rfl, Nat.zero_le _, hblk, hmc, hcm, ?_, ?_⟩⟩
  ·rw [List.size_toArray, lay_length, Array.length_toList]; exact hsz
  ·rw [List.toList_toArray, lay_take, hcur]
theorem Stp_clearR {t e sz bytes p k m c cp : Nat} {x : Operand} {ad : Addr} {xs : List Value} {z : Value} {O' : List It} [hE : ElemZ P t e sz bytes] [hz : ZeroV P e z] (hx : ev fr x = some (.slice (some (ad.add p)) k cp))
  (hu : Upd O (.row (.slice (some ad) m c) e sz m xs) (.row (.slice (some ad) m c) e sz m (lay xs p (Builtin.zeroCells z.cells k).toList)) O') (h1 : (Builtin.zeroCells z.cells k).toList.all Value.oneCell' = true) (hk : 0 < k) (hp : p + k * sz ≤ xs.length)
  (kk : Kp (.tuple #[]) O') : Stp P n wr fr O ⟨dst, .call ⟨.builtin .clear, #[x], #[t]⟩, ty, pos, af, g⟩ Kp := by
 refine ZbB fun a w hs => ?_
 obtain ⟨i, z', ht, hi, hz', hsz, hby, hzs, hpos⟩ := ElemZ.parts hE.h
 have hzz : z' = z := by
  have h := hz.h
  unfold zeroV at h
  rw [hi] at h
  exact Option.some.inj (hz'.symm.trans h)
 subst hzz
 have hlen : (Builtin.zeroCells z'.cells k).toList.length = k * sz := by rw [Array.length_toList, size_zeroCells, hzs]
 obtain ⟨w', hr, h2, h3⟩ := row_storeCells (P := P) hs hu h1 (by rw [hlen]; exact hp) (by rw [hlen]; exact Nat.mul_pos hk hpos) rfl
 refine ⟨.tuple #[], w', O', ?_, h2, h3, kk⟩
 obtain ⟨k, rfl⟩ : ∃ k', k = k' + 1 := ⟨k - 1, by omega⟩
 have hr' : (storeCells (ad.add p) (Builtin.zeroCells z'.cells (k + 1)).toList 0).run P w = .ok () w' := hr
 simp [execOp, resolve, invoke, builtin, Builtin.clear_, hs.sim.ev hx, run_underlying ht, run_zeroV, hr']
theorem RL_shrink {ops : Array Oper} {l0 : List Oper} {K : Fr → List It → Prop} {e size m c : Nat} {A : Option Addr} {xs : List Value} {O' : List It} (k : Nat) (hk : k ≤ m) (hu : Upd O (.row (.slice A m c) e size m xs) (.row (.slice A k c) e size k (xs.take (k * size))) O')
  (h : RL P n wr ops l0 K fr O') : RL P n wr ops l0 K fr O := fun a w hs => h a w ⟨hs.sim, hs.old, by
 refine hs.own.upd hu hs.old.size (Nat.le_refl _) (fun _ _ _ => rfl) ?_ (fun i hi => ?_)
 ·have hsat := hs.own.sat _ hu.mem
  obtain ⟨hxl, hnn | ⟨b, cap, cur, hval, hb0, hg, hmc, hcm, hsz, hcur⟩⟩ := hsat
  ·obtain ⟨hv, rfl⟩ := hnn
   obtain rfl : k = 0 := by omega
   injection hv with h1 _ h3
   subst h1 h3
   exact ⟨by simp, .inl ⟨rfl, rfl⟩⟩
  ·injection hval with hA _ hcc
   subst hA hcc
   refine ⟨?_, .inr ⟨b, c, cur, rfl, Nat.zero_le _, hg, by omega, hcm, hsz, ?_⟩⟩
   ·have hle : k * size ≤ m * size := Nat.mul_le_mul_right size hk
    rw [List.length_take, hxl]
    omega
   ·have hle : k * size ≤ m * size := Nat.mul_le_mul_right size hk
    rw [← hcur, List.take_take, Nat.min_eq_left hle]
 ·left
  simp only [It.S, Value.ownBlock] at hi ⊢
  cases A with
  | none => exact hi
  | some a => exact hi⟩
end
theorem wp_mono2 {P : Program} {o : Oper} {a : Act} {w : World} {K K' : Act → World → Prop} {Q Q' : Exit → Act → World → Prop} (h : ∀ a w, K a w → K' a w) (hq : ∀ e a w, Q e a w → Q' e a w) (hh : o.wp P a w K Q) : o.wp P a w K' Q' := by
 unfold Oper.wp at *
 generalize (execOp a.eval o).run P w = r at *
 cases r with
 | ok n w' =>
  cases n <;> simp only [Oper.upon] at hh ⊢ <;>
   first
    | exact h _ _ hh
    | exact Calls.mono hh (fun e w'' he => by cases e <;> first | exact h _ _ he | exact hq _ _ _ he | exact (fun ⟨a, w, h⟩ => ⟨a, w, hq _ _ _ h⟩ : LetsOut Q → LetsOut Q') he)
    | exact Rows.mono hh (fun _ _ he => h _ _ he)
 | halt x w' => cases x <;> simp only [Oper.upon] at hh ⊢ <;> first | exact hq _ _ _ hh | exact hh
theorem wpList_mono {P : Program} {ops : Array Oper} {Q Q' : Exit → Act → World → Prop} (hq : ∀ e a w, Q e a w → Q' e a w) : ∀ (l : List Oper) (a : Act) (w : World), wpList P ops Q l a w → wpList P ops Q' l a w
 | [], a, w, h => hq _ _ _ h
 | o :: l, a, w, h => by
  unfold wpList at h ⊢
  split
  ·rename_i hw
   rw [if_pos hw] at h
   exact h.imp (wp_mono2 (wpList_mono hq l) hq) (fun ⟨h1, a, w, h2⟩ => ⟨h1, a, w, hq _ _ _ h2⟩)
  ·rename_i hw
   rw [if_neg hw] at h
   exact wpList_mono hq l _ _ h
section
variable {P : Program} {n : Nat} {wr : World} {ops : Array Oper} {fr : Fr} {O : List It} {K : Fr → List It → Prop} {ty : TypeId}
theorem RL_post {l : List Oper} (I : Fr → List It → Prop) (h1 : RL P n wr ops l I fr O) (h2 : ∀ fr' O', I fr' O' → K fr' O') : RL P n wr ops l K fr O :=
 fun a w hs => wpList_mono (fun _ _ _ ⟨h3, fr', O', h4, h5⟩ => ⟨h3, fr', O', h4, h2 fr' O' h5⟩) l a w (h1 a w hs)
theorem Pu_conv8 {t t' : TypeId} {x : Operand} {kk : IntKind} {i : Int} {sz : Nat} {ag : Bool} [Ty P t sz ag] [IntT P t' .u8] (hx : ev fr x = some (.int kk i)) (h0 : 0 ≤ i) (h1 : i ≤ 255) : Pu P n wr fr O (.convert t t' x) ty (.int .u8 i) := by
 have := Pu_convI (P := P) (n := n) (wr := wr) (O := O) (ty := ty) (t := t) (t' := t') hx
 rwa [show IntKind.u8.wrap i = i from IntWalk.u8_in i ⟨h0, h1⟩] at this
end
theorem ZdJ {P : Program} {n : Nat} {wr : World} {fr : Fr} {O : List It} {ty : TypeId} {t sz e size p m c : Nat} {x : Operand} {A : Option Addr} {xs vs : List Value} {R : List It} [Ty P t sz true] (hx : ev fr x = some (.pointer (some ((adr A).add p))))
  (hp : Pick (.row (.slice A m c) e size m xs) O R) (hv : ∀ j v, vs[j]? = some v → xs[p + j]? = some v) (hl : vs.length = sz) : Pu P n wr fr O (.load t x) ty (.agg vs.toArray) :=
 Zd7 hx hl fun w _ hO j v hj => by
  rw [Zba]
  exact (ZbP (hO.of hp) (hv j v hj)).2
theorem ZaB {P : Program} {n : Nat} {wr : World} {fr : Fr} {O : List It} {ty : TypeId} {t e sz bytes : Nat} {x ix : Operand} {A : Option Addr} {len cap : Nat} {kk : IntKind} {i : Int} [hE : ElemT P t e sz bytes] (hx : ev fr x = some (.slice A len cap)) (hi : ev fr ix = some (.int kk i))
  (h0 : 0 ≤ i) (h1 : i < len) (hA : ∀ w, Bel wr.heap.size wr w → Holds wr.heap.size O w → A ≠ none) : Pu P n wr fr O (.indexAddr t x ix) ty (.pointer (some ((adr A).add (i.toNat * sz)))) :=
 fun a w hs => Pu_indexAddr hx hi h0 h1 (hA w hs.old hs.own) a w hs
section
variable {P : Program} {n : Nat} {wr : World} {fr : Fr} {O : List It} {ty : TypeId} {pos : String} {af : Array Edge} {dst : Option Tmp} {g : Option (Nat × Bool)} {Kp : Value → List It → Prop}
theorem Zd5 {f : FuncId} {gx : Operand} {xs : List Operand} {ts : Array TypeId} {us vs cs : List Value} {O2 : List It} {R : Value → List It → Prop} [Body P f] (hg : ev fr gx = some (.func (.func f) us.toArray cs.toArray)) (hx : evsO fr xs = some vs) (h : Zam P f (us ++ vs ++ cs) wr O2 R) (hO : SubO O2 O) (k : ∀ v O', R v O' → Kp v O') :
  Stp P n wr fr O ⟨dst, .call ⟨.value gx, xs.toArray, ts⟩, ty, pos, af, g⟩ Kp := by
 intro a w hs Kn Q hk
 have hrun : (execOp a.eval ⟨dst, .call ⟨.value gx, xs.toArray, ts⟩, ty, pos, af, g⟩).run P w = .ok (.enter f (us ++ vs ++ cs).toArray) w := by
  have := hs.sim.evsO hx
  simp [execOp, resolve, hs.sim.ev hg, Deferred.ofValue, invoke, ZbY, this]
 unfold Oper.wp
 rw [hrun, Oper.upon_enter]
 refine (h w hs.old (hs.own.sub hO)).mono ?_
 rintro e w' ⟨v, O', rfl, hB, hH, hR⟩
 exact hk v _ w' hB hH (k v O' hR)
end
theorem ZeJ {P : Program} {n : Nat} {wr : World} {fr : Fr} {O : List It} {ty : TypeId} {x y : Operand} {ts : Array TypeId} {k : IntKind} {i j : Int} (hx : ev fr x = some (.int k i)) (hy : ev fr y = some (.int k j)) : Pu P n wr fr O (.call ⟨.builtin .min, #[x, y], ts⟩) ty (.int k (if j < i then j else i)) :=
 fun a w hs _ _ _ _ => by simp [execOp, resolve, invoke, builtin, Builtin.min_, Builtin.min2, hs.sim.ev hx, hs.sim.ev hy]
section
variable {P : Program} {n : Nat} {wr : World} {fr : Fr} {O : List It} {ty : TypeId}
theorem Pu_andW {t t' : TypeId} {x y : Operand} {kk : IntKind} {i j : Int} (hx : ev fr x = some (.int kk i)) (hy : ev fr y = some (.int kk j)) : Pu P n wr fr O (.binOp .and t x y t') ty (.int kk (kk.wrap (BitVec.ofInt kk.bits i &&& BitVec.ofInt kk.bits j).toNat)) :=
 fun a w hs _ _ _ _ => by simp [execOp, hs.sim.ev hx, hs.sim.ev hy, eqGuard, binOp, Op.intBits]
end
theorem Does.monoO {P : Program} {f : FuncId} {args : List Value} {w : World} {R R' : Value → List It → Prop} (h : Does P f args w R) (hr : ∀ v O, R v O → ∃ O', R' v O' ∧ ∀ base w', Holds base O w' → Holds base O' w') : Does P f args w R' :=
 Calls.mono h fun _ _ ⟨v, O, h1, h2, h3, h4⟩ => by
  obtain ⟨O', h5, h6⟩ := hr v O h4
  exact ⟨v, O', h1, h2, h6 _ _ h3, h5⟩
section
variable {P : Program} {n : Nat} {wr : World} {fr : Fr} {O : List It} {ty : TypeId}
theorem Pu_add8 {t t' : TypeId} {x y : Operand} {i j : Int} (hx : ev fr x = some (.int .u8 i)) (hy : ev fr y = some (.int .u8 j)) (h : 0 ≤ i + j ∧ i + j ≤ 255) : Pu P n wr fr O (.binOp .add t x y t') ty (.int .u8 (i + j)) := by
 have := Pu_addW (P := P) (n := n) (wr := wr) (O := O) (ty := ty) (t := t) (t' := t') hx hy
 rwa [IntWalk.u8_in _ h] at this
end
section
variable {P : Program} {n : Nat} {wr : World} {fr : Fr} {O : List It} {ty : TypeId} {pos : String} {af : Array Edge} {dst : Option Tmp} {g : Option (Nat × Bool)} {Kp : Value → List It → Prop}
end
theorem Zbo {P : Program} {n : Nat} {wr : World} {fr : Fr} {O : List It} {ty : TypeId} {s f off sz p : Nat} {ag : Bool} {x : Operand} {A : Option Addr} [FieldAt P s f off sz ag] (hx : ev fr x = some (.pointer (some ((adr A).add p)))) : Pu P n wr fr O (.fieldAddr s x f) ty (.pointer (some ((adr A).add (p + off)))) := by
 have h := Pu_fieldAddr (P := P) (n := n) (wr := wr) (O := O) (ty := ty) (s := s) (f := f) hx
 rwa [Zba] at h
section
variable {P : Program} {n : Nat} {wr : World} {fr : Fr} {O : List It} {ty : TypeId} {pos : String} {af : Array Edge} {dst : Option Tmp} {g : Option (Nat × Bool)} {Kp : Value → List It → Prop}
theorem Pu_loadRF {t sz e size p q m c : Nat} {x : Operand} {A : Option Addr} {xs : List Value} {v : Value} {R : List It} [Ty P t sz false] (hx : ev fr x = some (.pointer (some (((adr A).add p).add q))))
  (hp : Pick (.row (.slice A m c) e size m xs) O R) (hv : xs[p + q]? = some v) : Pu P n wr fr O (.load t x) ty v :=
 ZbR (by rw [← Zba]; exact hx) hp hv
end
end Go.Wk
namespace Go.Proofs.YtpcpmndldgejiaaGreatDoor
open Go Go.RowKit Go.Wk
attribute [local irreducible] W RL Does Zat Zak retQ Calls Pu Stp RD Qy Ay
structure Fits (a : Zaf) : Prop where
 r : a.rules.length ≤ 1000000
 z : a.zones.length ≤ 1000000
 l : a.links.length ≤ 1000000
 s : a.shifts.length ≤ 1000000
 e : ∀ z ∈ a.zones, z.eras.length ≤ 1000000
structure ZE where
 z : ZaN
 A : Option Addr
 c : Nat
def ZE.enc (q : ZE) : List Value := [.string q.z.name, .slice q.A q.z.eras.length q.c]
theorem ZE.len (x : ZE) : x.enc.length = 2 := rfl
theorem oneZ (x : ZE) : x.enc.all Value.oneCell' = true := rfl
def ZaH (Zs : List ZE) (w : World) : Prop := ∀ q ∈ Zs, RdSl w q.A q.c DEra.enc 13 q.z.eras
theorem ZaH.snoc {Zs : List ZE} {q : ZE} {w : World} (h : ZaH Zs w) (hq : RdSl w q.A q.c DEra.enc 13 q.z.eras) : ZaH (Zs ++ [q]) w := fun x hx => by
 rcases List.mem_append.1 hx with hx | hx
 ·exact h x hx
 ·rw [List.mem_singleton.1 hx]; exact hq
theorem ZaH.append {Zs Zs' : List ZE} {w : World} (h : ZaH Zs w) (h' : ZaH Zs' w) : ZaH (Zs ++ Zs') w := fun x hx => by
 rcases List.mem_append.1 hx with hx | hx
 ·exact h x hx
 ·exact h' x hx
theorem zones_rd {w : World} {A : Option Addr} {c : Nat} {Zs : List ZE} (h : RdSl w A c ZE.enc 2 Zs) (he : ZaH Zs w) : RdZ w A (Zs.map ZE.z) := fun k z hz => by
 rw [List.getElem?_map] at hz
 cases hq : Zs[k]? with
 | none => rw [hq] at hz; cases hz
 | some q =>
  rw [hq] at hz
  injection hz with hz
  subst hz
  exact ⟨(h.rd k q hq).1, q.enc, ⟨q.A, q.c, he q (List.mem_of_getElem? hq), rfl⟩, (h.rd k q hq).2⟩
abbrev rowR (A : Option Addr) (c : Nat) (l : List Zaa) : It := .row (.slice A l.length c) 118 11 l.length (l.flatMap Zaa.enc)
abbrev rowZ (A : Option Addr) (c : Nat) (l : List ZE) : It := .row (.slice A l.length c) 54 2 l.length (l.flatMap ZE.enc)
abbrev rowL (A : Option Addr) (c : Nat) (l : List ZaC) : It := .row (.slice A l.length c) 56 2 l.length (l.flatMap ZaC.enc)
abbrev rowS (A : Option Addr) (c : Nat) (l : List ByteArray) : It := .row (.slice A l.length c) 9 1 l.length (l.flatMap Zau)
def NewSrc (s : Zaf) (v : Value) (O : List It) : Prop :=
 ∃ Ar cr Az cz Al cl As cs Zs S, v = srcV Ar Az Al As cr cz cl cs s ∧ Zs.map ZE.z = s.zones ∧ O = [rowR Ar cr s.rules, rowZ Az cz Zs, rowL Al cl s.links, rowS As cs s.shifts, .fact S (ZaH Zs)]
theorem src_rd {w : World} {Ar Az Al As : Option Addr} {cr cz cl cs : Nat} {Zs : List ZE} {S : Nat → Prop} {s : Zaf} (hz : Zs.map ZE.z = s.zones) (h1 : (rowR Ar cr s.rules).sat w) (h2 : (rowZ Az cz Zs).sat w) (h3 : (rowL Al cl s.links).sat w) (h4 : (rowS As cs s.shifts).sat w) (h5 : (It.fact S (ZaH Zs)).sat w) :
  Zao w Ar Az Al As cr cz cl cs s := by
 have h := Za3 ZE.len h2
 have hl : s.zones.length = Zs.length := by rw [← hz, List.length_map]
 exact ⟨Za3 Zaa.len h1, by rw [hl]; exact h.le, h.cap, hz ▸ zones_rd h (ZaQ h5), Za3 ZaC.len h3, Za3 Zau.len h4⟩
end Go.Proofs.YtpcpmndldgejiaaGreatDoor
namespace Go.Proofs.YtpcpmndldgejiaaGreatDoor
open Go Go.RowKit Go.Wk
abbrev ZaV (q : ZE) : It := .row (.slice q.A q.z.eras.length q.c) 74 13 q.z.eras.length (q.z.eras.flatMap DEra.enc)
def NewSrcR (s : Zaf) (v : Value) (O : List It) : Prop :=
 ∃ Ar cr Az cz Al cl As cs Zs, v = srcV Ar Az Al As cr cz cl cs s ∧ Zs.map ZE.z = s.zones ∧ O = rowR Ar cr s.rules :: rowZ Az cz Zs :: rowL Al cl s.links :: rowS As cs s.shifts :: Zs.map ZaV
theorem newSrc_of {s : Zaf} {v : Value} {O : List It} (h : NewSrcR s v O) : ∃ O', NewSrc s v O' ∧ ∀ base w', Holds base O w' → Holds base O' w' := by
 obtain ⟨Ar, cr, Az, cz, Al, cl, As, cs, Zs, rfl, hz, rfl⟩ := h
 refine ⟨_, ⟨Ar, cr, Az, cz, Al, cl, As, cs, Zs, foot (Zs.map ZaV), rfl, hz, rfl⟩, fun base w' hH => ?_⟩
 have h1 : Holds base (Zs.map ZaV ++ [rowR Ar cr s.rules, rowZ Az cz Zs, rowL Al cl s.links, rowS As cs s.shifts]) w' := hH.perm (List.perm_append_comm (l₁ := [rowR Ar cr s.rules, rowZ Az cz Zs, rowL Al cl s.links, rowS As cs s.shifts]))
 have h2 := h1.fact (p := ZaH Zs) (fun w2 hi q hq => Za3 DEra.len (hi (ZaV q) (List.mem_map.2 ⟨q, hq, rfl⟩)))
 exact h2.perm (List.perm_append_comm (l₁ := [_]) (l₂ := [rowR Ar cr s.rules, rowZ Az cz Zs, rowL Al cl s.links, rowS As cs s.shifts]))
theorem SubO.permT {l A B O : List It} (h : SubO (l ++ A) O) (hp : A.Perm B) : SubO (l ++ B) O := by
 obtain ⟨R, hR⟩ := h.perm
 exact SubO.ofPerm (R := R) (hR.trans ((hp.append_left l).append_right R))
section
variable {P : Program} {n : Nat} {wr : World} {fr : Fr} {O : List It} {ops : Array Oper} {K : Fr → List It → Prop}
theorem RL_tail {ls : List Oper} {l T old : List It} (h : RL P n wr ops ls K fr (l ++ (old ++ T))) : RL P n wr ops ls K fr ((l ++ T) ++ old) := fun a w hs => h a w ⟨hs.sim, hs.old, hs.own.perm (by rw [List.append_assoc]; exact List.perm_append_comm.append_left l)⟩
end
attribute [local irreducible] W RL Does Zat Zak retQ Calls Pu Stp RD Qy Ay
structure CG where
 k : Nat
 Az : Option Addr
 cz : Nat
 m : Nat
 xs : List Value
 Zs : List ZE
 Ae : Option Addr
 ce : Nat
 me : Nat
 xe : List Value
 S : Nat → Prop
 p : World → Prop
structure QG where
 k : Nat
 Az : Option Addr
 cz : Nat
 m : Nat
 xs : List Value
 Zr : List ZE
theorem copyQ_spec (Ar Az Al As : Option Addr) (cr cz cl cs : Nat) (a : Zaf) (w : World) (hA : Zao w Ar Az Al As cr cz cl cs a) (hn : Fits a) :
  Does Tryz.prog 36 [srcV Ar Az Al As cr cz cl cs a] w (NewSrcR a) := by
 obtain ⟨hnr, hnz, hnl, hns, hne⟩ := hn
 refine Zab Tryz.func36 rfl rfl rfl rfl ?_
 repeat (first | refine walk ?_ | (refine jn ?_; (try intro F); (first | (apply ZbW; rfl; rfl; (intro A' c'; (focus repeat' constructor)); (intro w' hw _; exact (hA.r.up hw).rd.raw Zaa.len (by decide)); exact ZaF Zaa.len _; exact Zby oneR _; (simp only [maxLen]; omega); omega; intro Ar' cr' hr1 hr2 hr3) | (apply ZbW; rfl; rfl; (intro A' c'; (focus repeat' constructor)); (intro w' hw _; exact (hA.l.up hw).rd.raw ZaC.len (by decide)); exact ZaF ZaC.len _; exact Zby oneL _; (simp only [maxLen]; omega); omega; intro Al' cl' hl1 hl2 hl3) | (apply ZbW; rfl; rfl; (intro A' c'; (focus repeat' constructor)); (intro w' hw _; exact (hA.s.up hw).rd.raw Zau.len (by decide)); exact ZaF Zau.len _; exact Zby oneS _; (simp only [maxLen]; omega); omega; intro As' cs' hs1 hs2 hs3) | (refine bx ?_; intro bk) | (refine stA ?_) | (apply Zae; exact PuA)); refine fin ?_) | (apply RD_W; rfl; intro bk))
 refine Zcd 54 2 ?_
 refine W_loop (fun g : QG => [(4, .int .i64 g.k), (1, _), (2, _), (3, _)]) (fun g => .row (.slice g.Az g.m g.cz) 54 2 g.m g.xs :: .blk bk [.slice Ar' a.rules.length cr', .slice g.Az g.m g.cz, .slice Al' a.links.length cl', .slice As' a.shifts.length cs'] 34 :: rowS As' cs' a.shifts :: rowL Al' cl' a.links :: rowR Ar' cr' a.rules :: .blk _ _ _ :: .blk _ _ _ :: g.Zr.map ZaV)
  (fun g => g.k ≤ a.zones.length ∧ g.m = g.Zr.length ∧ g.xs = g.Zr.reverse.flatMap ZE.enc ∧ g.Zr.reverse.map ZE.z = a.zones.take g.k)
  (fun g => a.zones.length - g.k) ⟨0, none, 0, 0, [], []⟩ ⟨rfl, rfl, rfl, rfl, trivial⟩ STA ⟨by simp, rfl, rfl, by simp⟩ ?_
 rintro ⟨k, Az', cz', m, xs, Zr⟩ ⟨hk, hm, hx, hz⟩
 dsimp only at hk hm hx hz ⊢
 generalize hT : Zr.map ZaV = T
 repeat (first | refine walk ?_ | (refine jn ?_; (try intro F); (first | (refine bx ?_; intro bk) | (refine stA ?_) | (apply Zae; exact PuA)); refine fin ?_) | (apply RD_W; rfl; intro bk))
 refine Zag rfl (fun hc => ?_) (fun hc => ?_)
 ·simp only [decide_eq_true_eq, Int.ofNat_lt] at hc
  obtain ⟨hna, cs1, ⟨Ae, ce, hE, rfl⟩, hca⟩ := hA.z k _ (List.getElem?_eq_getElem hc)
  have hnb := hna
  have hcb := hca
  have ht := List.take_append_getElem hc
  have hl := hne _ (List.getElem_mem hc)
  have hzl : Zr.length = k := by rw [← List.length_reverse, ← List.length_map (f := ZE.z), hz, List.length_take]; omega
  generalize a.zones[k] = z at *
  refine Zcd 74 13 ?_
  repeat (first | (apply RL_pu; rfl; exact PuI) | (apply RD_Q; rfl; rfl; decide +kernel; rfl; rfl; exact QyI) | refine walk1 ?_ | (refine jn ?_; (try intro F); (first | (apply Zaq; rfl; rfl; (intro A' c'; (focus repeat' constructor)); (intro w' _ hO; exact Za1 (hO.of (by repeat' constructor))); rfl; rfl; (simp only [maxLen]; omega); omega; intro A' c' hc1 hc2 hc3) | (apply ZbW; rfl; rfl; (intro A' c'; (focus repeat' constructor)); (intro w' hw _; exact (hE.up hw).rd.raw DEra.len (by decide)); exact ZaF DEra.len _; exact Zby oneE _; (simp only [maxLen]; omega); omega; intro Ae2 ce2 he1 he2 he3) | (refine bx ?_; intro bk) | (refine stA ?_) | (apply Zae; first | exact PuI | exact PuA)); first | refine ⟨_, EndsA, QFI, ?_⟩ | refine fin ?_) | (apply RD_W; rfl; intro bk))
  subst hT
  exact ⟨⟨k + 1, A', c', m + 1, xs ++ ZE.enc ⟨z, Ae2, ce2⟩, ⟨z, Ae2, ce2⟩ :: Zr⟩, OA, ⟨OA, by simp [hm], by simp [hx], by rw [List.reverse_cons, List.map_append, hz]; exact ht⟩, SFA, STA⟩
 simp only [decide_eq_false_iff_not, Int.ofNat_lt] at hc
 rw [List.take_of_length_le (by omega)] at hz
 subst hT
 refine W_perm _ (SubO.permT (l := [_, _, _, _, _, _, _]) (.refl _) ((List.reverse_perm Zr).symm.map ZaV)) ?_
 rw [← List.length_reverse] at hm
 generalize Zr.reverse = Zs at *
 repeat (first | refine walk ?_ | (refine jn ?_; (try intro F); (first | (refine bx ?_; intro bk) | (refine stA ?_) | (apply Zae; exact PuA)); refine fin ?_) | (apply RD_W; rfl; intro bk))
 subst hm hx
 have hl : Zs.length = a.zones.length := by rw [← hz, List.length_map]
 exact ret_1 _ (rowR Ar' cr' a.rules :: rowZ Az' cz' Zs :: rowL Al' cl' a.links :: rowS As' cs' a.shifts :: Zs.map ZaV) (.cellB rfl (by repeat' constructor) rfl rfl) STA ⟨Ar', cr', Az', cz', Al', cl', As', cs', Zs, by rw [srcV, ← hl]; rfl, hz, rfl⟩
end Go.Proofs.YtpcpmndldgejiaaGreatDoor
namespace Go.Proofs.YtpcpmndldgejiaaGreatDoor
open Go Go.RowKit Go.Wk
def atB (l : List Int) (i n : Int) : Int := if l.length = 0 then 0 else l.getD (i % (l.length : Int)).toNat 0 % n
theorem Zas (l : List Int) (i n : Int) (hn : 0 < n) : 0 ≤ atB l i n ∧ atB l i n < n := by
 unfold atB
 split
 ·exact ⟨Int.le_refl 0, hn⟩
 ·exact ⟨Int.emod_nonneg _ (by omega), Int.emod_lt_of_pos _ hn⟩
def Zed (l : List Int) (i : Int) : ZeN := ⟨atB l i 49 * 1800, atB l (i + 1) 3⟩
def dayB (l : List Int) (i : Int) : List DDay := [⟨2, atB l i 7, 0⟩, ⟨3, atB l i 7, 1 + 7 * atB l (i + 1) 4⟩, ⟨1, 0, 1 + atB l (i + 1) 28⟩]
def dayOf (l : List Int) (i : Int) : DDay := (dayB l i).getD (atB l (i + 2) 3).toNat ⟨0, 0, 0⟩
def letA : List ByteArray := [⟨#[83]⟩, ⟨#[68]⟩, ⟨#[68, 84]⟩]
def letB : List ByteArray := [⟨#[]⟩, ⟨#[83]⟩]
def ruleA (l : List Int) (i a b save : Int) : Zaa := ⟨ByteArray.empty, a, b, 2 + atB l i 3, dayOf l (i + 3), Zed l (i + 6), save, letA.getD (atB l (i + 8) 3).toNat ByteArray.empty⟩
def ruleB (l : List Int) (i a b save : Int) : Zaa := ⟨ByteArray.empty, a, b, 8 + atB l (i + 1) 3, dayOf l (i + 9), Zed l (i + 12), save, letB.getD (atB l (i + 14) 2).toNat ByteArray.empty⟩
def pairB (l : List Int) (i a b save : Int) : List Zaa := if atB l (i + 2) 4 = 0 then [ruleA l i a b 0, ruleB l i a b save] else [ruleA l i a b save, ruleB l i a b 0]
theorem Zc0 (l : List Int) (i a b save : Int) : (pairB l i a b save).length = 2 := by
 unfold pairB
 split <;> rfl
def saves17 : List Int := [3600, 3600, 1800, 7200, -3600]
def ZbA (l : List Int) : Int := saves17.getD (atB l 0 5).toNat 0
def one17 (l : List Int) (f : Int) : Zaa := ⟨⟨#[]⟩, f, f, 6, ⟨1, 0, 1 + atB l 3 28⟩, Zed l 4, 0, ⟨#[83]⟩⟩
def m1 (l : List Int) : List Zaa × Int := if atB l 2 3 = 0 then ([one17 l (1900 + atB l 1 80)], 1900 + atB l 1 80 + 1) else ([], 1900 + atB l 1 80)
def m2 (l : List Int) (o : List Zaa) (f : Int) : List Zaa × Int := if atB l 5 2 = 0 then (o ++ pairB l 7 f (f + atB l 6 12) (ZbA l), f + atB l 6 12 + 1 + atB l 8 5) else (o, f)
def to17 (l : List Int) (f : Int) : Int := if 0 < atB l 10 3 then 1048576 else f + atB l 9 6
def m3 (l : List Int) (o : List Zaa) (f : Int) : List Zaa := o ++ pairB l 11 f (to17 l f) (ZbA l)
def ZcE (x : ByteArray) (r : Zaa) : Zaa := { r with name := x }
def ZbJ (l : List Int) (x : ByteArray) : List Zaa := (m3 l (m2 l (m1 l).1 (m1 l).2).1 (m2 l (m1 l).1 (m1 l).2).2).map (ZcE x)
theorem m1_rng (l : List Int) : (m1 l).1.length ≤ 1 ∧ 1900 ≤ (m1 l).2 ∧ (m1 l).2 ≤ 1980 := by
 have h1 := Zas l 1 80 (by decide)
 unfold m1
 split <;> refine ⟨by simp, ?_, ?_⟩ <;> dsimp only <;> omega
theorem m2_rng (l : List Int) (o : List Zaa) (f : Int) (ho : o.length ≤ 1) (h1 : 1900 ≤ f) (h2 : f ≤ 1980) : (m2 l o f).1.length ≤ 3 ∧ 1900 ≤ (m2 l o f).2 ∧ (m2 l o f).2 ≤ 2000 := by
 have h3 := Zas l 6 12 (by decide)
 have h4 := Zas l 8 5 (by decide)
 unfold m2
 split <;> refine ⟨?_, ?_, ?_⟩ <;> dsimp only <;> first | omega | (rw [List.length_append, Zc0]; omega)
def noTil : Za6 := ⟨false, 0, 0, ⟨0, 0, 0⟩, ⟨0, 0⟩⟩
theorem made17_len (l : List Int) (x : ByteArray) : (ZbJ l x).length ≤ 5 := by
 obtain ⟨q1, q2, q3⟩ := m1_rng l
 obtain ⟨q4, q5, q6⟩ := m2_rng l (m1 l).1 (m1 l).2 q1 q2 q3
 rw [ZbJ, List.length_map, m3, List.length_append, Zc0]
 omega
attribute [local irreducible] W RL Does Zat Zak retQ Calls Pu Stp RD Qy Ay Zam
def Zdc (n : Int) : List Value := [.int .u8 n]
theorem Zbj (A : Option Addr) (c : Nat) (l : List Int) (i n : Int) (w : World) (hA : RdSl w A c Zdc 1 l) (hr : ∀ x ∈ l, inR .u8 x) (hi : 0 ≤ i) (hn : 0 < n) :
  Does Tryz.prog 66 [.slice A l.length c, .int .i64 i, .int .i64 n] w (fun v O => v = .int .i64 (atB l i n) ∧ O = []) := by
 have hs1 := hA.le
 have hs2 := hA.cap
 unfold maxLen at hs2
 refine Zab Tryz.func66 rfl rfl rfl rfl ?_
 repeat (first | refine walk ?_)
 refine Zag rfl (fun h => ?_) (fun h => ?_)
 ·repeat (first | refine walk ?_)
  exact ret_1 _ [] (.tmp rfl) .nil ⟨by simp at h; simp [atB, h], rfl⟩
 have h0 : l.length ≠ 0 := by simpa using h
 have hp : (0 : Int) < l.length := by omega
 have hm0 := Int.emod_nonneg i (b := (l.length : Int)) (by omega)
 have hm1 := Int.emod_lt_of_pos i hp
 have hk : (i % (l.length : Int)).toNat < l.length := by omega
 obtain ⟨hna, hca⟩ := hA.rd _ _ (List.getElem?_eq_getElem hk)
 have hv := hr _ (List.getElem_mem hk)
 have e : atB l i n = l[(i % (l.length : Int)).toNat] % n := by
  rw [atB, if_neg h0, List.getD_eq_getElem?_getD, List.getElem?_eq_getElem hk]
  rfl
 rw [e]
 generalize l[(i % (l.length : Int)).toNat] = r at *
 rw [inR_u8] at hv
 repeat (first | (apply RL_pu; rfl; exact PuI) | refine walk1 ?_)
 exact rtA
theorem clock_spec (A : Option Addr) (c : Nat) (l : List Int) (i : Int) (w : World) (hA : RdSl w A c Zdc 1 l) (hr : ∀ x ∈ l, inR .u8 x) (hi : 0 ≤ i) (hi2 : i ≤ 1000) :
  Does Tryz.prog 67 [.slice A l.length c, .int .i64 i] w (fun v O => v = .agg #[.int .i64 (Zed l i).sec, .int .i64 (Zed l i).base] ∧ O = []) := by
 have h1 := Zas l i 49 (by decide)
 have h2 := Zas l (i + 1) 3 (by decide)
 refine Zab Tryz.func67 rfl rfl rfl rfl ?_
 repeat (first | (apply RL_pu; rfl; (apply ZeI; rfl; rfl; omega)) | (refine js ?_; (first | (refine Zad (fun w' hw => Zbj A c l (i) 49 w' (hA.up hw) hr (by omega) (by omega)) ?_) | (refine Zad (fun w' hw => Zbj A c l (i + 1) 3 w' (hA.up hw) hr (by omega) (by omega)) ?_) | (refine bx ?_; intro bk))) | refine walk1 ?_)
 exact ret_1 _ [] (.cellB rfl (by repeat' constructor) rfl rfl) .nil ⟨rfl, rfl⟩
theorem DDay.len3 (d : DDay) : d.enc.length = 3 := rfl
theorem PuDraft171 {G : Prop} (h : G := by (first | (apply Pu_loadO1; rfl; exact hp 0 _ rfl) | (apply ZeI; rfl; rfl; omega))) : G := h
theorem QyDraft171 {G : Prop} (h : G := by first | (apply Qy_y; rfl; exact PuDraft171) | exact QyA) : G := h
theorem QFDraft171 {G : Prop} (h : G := by repeat (first | exact QF.nil | (apply QF.mk; rfl; rfl; decide +kernel; exact QyDraft171))) : G := h
theorem PuDraft172 {G : Prop} (h : G := by (apply Zd7 (cs := (dayOf l i).enc); rfl; rfl; (intro w' _ hO; exact ((litRd (c := 3) (l := dayB l i) (t := 68) DDay.len3 (Nat.le_refl 3) (by decide) (hO.of (A := .blk bk ((dayB l i).flatMap DDay.enc) _) (by repeat' constructor))).rd _ _ hget).2))) : G := h
theorem QyDraft172 {G : Prop} (h : G := by first | (apply Qy_y; rfl; exact PuDraft172) | exact QyA) : G := h
theorem QFDraft172 {G : Prop} (h : G := by repeat (first | exact QF.nil | (apply QF.mk; rfl; rfl; decide +kernel; exact QyDraft172))) : G := h
theorem day17_spec (A : Option Addr) (c : Nat) (l : List Int) (i : Int) (ad : Addr) (w : World) (hA : RdSl w A c Zdc 1 l) (hr : ∀ x ∈ l, inR .u8 x) (hi : 0 ≤ i) (hi2 : i ≤ 1000) (hp : Zap w ad [.slice A l.length c]) :
  Does Tryz.prog 108 [.int .i64 i, .pointer (some ad)] w (fun v O => v = .agg #[.int .i64 (dayOf l i).kind, .int .i64 (dayOf l i).week, .int .i64 (dayOf l i).day] ∧ O = []) := by
 have h1 := Zas l i 7 (by decide)
 have h2 := Zas l (i + 1) 4 (by decide)
 have h3 := Zas l (i + 1) 28 (by decide)
 have h4 := Zas l (i + 2) 3 (by decide)
 refine Zab Tryz.func108 rfl rfl rfl rfl ?_
 repeat (first | (apply RL_pu; rfl; exact PuDraft171) | (apply RD_Q; rfl; rfl; decide +kernel; rfl; rfl; exact QyDraft171) | refine walk1 ?_ | (refine jg ?_; (try intro F); (first | (refine Zad (fun w' hw => Zbj A c l (i) 7 w' (hA.up hw) hr (by omega) (by omega)) ?_) | (refine Zad (fun w' hw => Zbj A c l (i + 1) 4 w' (hA.up hw) hr (by omega) (by omega)) ?_) | (refine Zad (fun w' hw => Zbj A c l (i + 1) 28 w' (hA.up hw) hr (by omega) (by omega)) ?_) | (refine Zad (fun w' hw => Zbj A c l (i + 2) 3 w' (hA.up hw) hr (by omega) (by omega)) ?_) | (refine bx ?_; intro bk) | (refine stA ?_)); first | refine ⟨_, EndsA, QFDraft171, ?_⟩ | refine fin ?_) | (refine jn ?_; (try intro F); (first | (refine bx ?_; intro bk) | (refine stA ?_) | (apply Zae; first | exact PuDraft171 | exact PuA)); first | refine ⟨_, EndsA, QFDraft171, ?_⟩ | refine fin ?_) | (apply RD_W; rfl; intro bk))
 have hget : (dayB l i)[(atB l (i + 2) 3).toNat]? = some (dayOf l i) := by
  have hk : (atB l (i + 2) 3).toNat < (dayB l i).length := by simp only [dayB, List.length_cons, List.length_nil]; omega
  rw [dayOf, List.getD_eq_getElem?_getD, List.getElem?_eq_getElem hk]
  rfl
 repeat (first | (apply RL_pu; rfl; exact PuDraft172) | (apply RD_Q; rfl; rfl; decide +kernel; rfl; rfl; exact QyDraft172) | refine walk1 ?_ | (refine jn ?_; (try intro F); (first | (refine bx ?_; intro bk) | (refine stA ?_) | (apply Zae; first | exact PuDraft172 | exact PuA)); first | refine ⟨_, EndsA, QFDraft172, ?_⟩ | refine fin ?_) | (apply RD_W; rfl; intro bk))
 exact ret_1 _ [] (.cellB rfl (by repeat' constructor) rfl rfl) .nil ⟨rfl, rfl⟩
end Go.Proofs.YtpcpmndldgejiaaGreatDoor
namespace Go.Proofs.YtpcpmndldgejiaaGreatDoor
open Go Go.RowKit Go.Wk
attribute [local irreducible] W RL Does Zat Zak retQ Calls Pu Stp RD Qy Ay Zam atB dayOf Zed
theorem blkCells {w : World} {b : Nat} {cs : List Value} {t : TypeId} (h : (It.blk b cs t).sat w) : Zap w ⟨b, 0, none⟩ cs := fun j v hj => (Za1 h j v hj).2
set_option maxHeartbeats 8000000 in
theorem pair17_spec (A : Option Addr) (c : Nat) (l : List Int) (i a b save : Int) (w : World) (hA : RdSl w A c Zdc 1 l) (hr : ∀ x ∈ l, inR .u8 x) (hi : 0 ≤ i) (hi2 : i ≤ 900) :
  Does Tryz.prog 68 [.slice A l.length c, .int .i64 i, .int .i64 a, .int .i64 b, .int .i64 save] w (fun v O => ∃ k, v = .slice (some ⟨k, 0, none⟩) 2 2 ∧ O = [.blk k ((pairB l i a b save).flatMap Zaa.enc) 118]) := by
 have r1 := Zas l i 3 (by decide)
 have r2 := Zas l (i + 1) 3 (by decide)
 have r3 := Zas l (i + 8) 3 (by decide)
 have r4 := Zas l (i + 14) 2 (by decide)
 have r5 := Zas l (i + 2) 4 (by decide)
 refine Zab Tryz.func68 rfl rfl rfl rfl ?_
 repeat (first | refine walk0 ?_ | (refine jn ?_; (try intro F); (first | (refine bx ?_; intro bk) | (refine stA ?_) | (apply Zae; exact PuA)); refine fin ?_) | (apply RD_W; rfl; intro bk))
 generalize bk = b5
 refine Zb1 (fun fr' O' => ∃ b1, Sub [(0, .slice A l.length c), (1, .int .i64 i), (2, .int .i64 a), (3, .int .i64 b), (4, .int .i64 save), (5, .pointer (some ⟨b5, 0, none⟩)), (11, .func (.func 108) #[] #[.pointer (some ⟨b5, 0, none⟩)]), (12, .pointer (some ⟨b1, 0, none⟩))] fr' ∧ SubO [.blk b1 (ruleA l i a b save).enc 118, .blk b5 [.slice A l.length c] 103] O') ?_ ?_
 ·repeat (first | refine walk ?_ | (refine jg ?_; (try intro F); (first | (refine Zad (fun w' hw => Zbj A c l (i) 3 w' (hA.up hw) hr (by omega) (by omega)) ?_) | (refine Zad (fun w' hw => Zbj A c l (i + 8) 3 w' (hA.up hw) hr (by omega) (by omega)) ?_) | (refine Zad (fun w' hw => clock_spec A c l (i + 6) w' (hA.up hw) hr (by omega) (by omega)) ?_) | (apply ZaA (f := 108) (us := []) (cs := [.pointer (some ⟨b5, 0, none⟩)]) (vs := [.int .i64 (i + 3)]) (h := fun w' hw hO => day17_spec A c l (i + 3) ⟨b5, 0, none⟩ w' (hA.up hw) hr (by omega) (by omega) (blkCells (hO.of (A := .blk b5 _ _) (by repeat' constructor)))); rfl; rfl; rintro v O' ⟨rfl, rfl⟩) | (refine bx ?_; intro bk) | (refine stA ?_)); refine fin ?_) | (refine jn ?_; (try intro F); (first | (refine bx ?_; intro bk) | (refine stA ?_) | (apply Zae; exact PuA)); refine fin ?_) | (apply RD_W; rfl; intro bk))
  exact ⟨rfl, _, SFA, SOA⟩
 rintro fr' O' ⟨b1, hf, hO⟩
 apply thenQ_n
 refine ZbV hf hO ?_
 repeat (first | refine walk0 ?_ | (refine jn ?_; (try intro F); (first | (refine bx ?_; intro bk) | (refine stA ?_) | (apply Zae; exact PuA)); refine fin ?_) | (apply RD_W; rfl; intro bk))
 refine Zb1 (fun fr' O' => ∃ b2, Sub [(0, .slice A l.length c), (1, .int .i64 i), (2, .int .i64 a), (3, .int .i64 b), (4, .int .i64 save), (5, .pointer (some ⟨b5, 0, none⟩)), (11, .func (.func 108) #[] #[.pointer (some ⟨b5, 0, none⟩)]), (12, .pointer (some ⟨b1, 0, none⟩)), (13, .pointer (some ⟨b2, 0, none⟩))] fr' ∧ SubO [.blk b2 (ruleB l i a b 0).enc 118, .blk b1 (ruleA l i a b save).enc 118, .blk b5 [.slice A l.length c] 103] O') ?_ ?_
 ·repeat (first | refine walk ?_ | (refine jg ?_; (try intro F); (first | (refine Zad (fun w' hw => Zbj A c l (i + 1) 3 w' (hA.up hw) hr (by omega) (by omega)) ?_) | (refine Zad (fun w' hw => Zbj A c l (i + 14) 2 w' (hA.up hw) hr (by omega) (by omega)) ?_) | (refine Zad (fun w' hw => clock_spec A c l (i + 12) w' (hA.up hw) hr (by omega) (by omega)) ?_) | (apply ZaA (f := 108) (us := []) (cs := [.pointer (some ⟨b5, 0, none⟩)]) (vs := [.int .i64 (i + 9)]) (h := fun w' hw hO => day17_spec A c l (i + 9) ⟨b5, 0, none⟩ w' (hA.up hw) hr (by omega) (by omega) (blkCells (hO.of (A := .blk b5 _ _) (by repeat' constructor)))); rfl; rfl; rintro v O' ⟨rfl, rfl⟩) | (refine bx ?_; intro bk) | (refine stA ?_)); refine fin ?_) | (refine jn ?_; (try intro F); (first | (refine bx ?_; intro bk) | (refine stA ?_) | (apply Zae; exact PuA)); refine fin ?_) | (apply RD_W; rfl; intro bk))
  exact ⟨rfl, _, SFA, SOA⟩
 rintro fr' O' ⟨b2, hf, hO⟩
 apply thenQ_n
 refine ZbV hf hO ?_
 repeat (first | refine walk ?_ | (refine jg ?_; (try intro F); (first | (refine Zad (fun w' hw => Zbj A c l (i + 2) 4 w' (hA.up hw) hr (by omega) (by omega)) ?_) | (refine bx ?_; intro bk) | (refine stA ?_)); refine fin ?_) | (refine jn ?_; (try intro F); (first | (refine bx ?_; intro bk) | (refine stA ?_) | (apply Zae; exact PuA)); refine fin ?_) | (apply RD_W; rfl; intro bk))
 generalize hra : ruleA l i a b save = ra
 generalize hrb : ruleB l i a b 0 = rb
 refine ZbV (fr' := [(65, .bool (decide (atB l (i + 2) 4 = 0))), (12, .pointer (some ⟨b1, 0, none⟩)), (13, .pointer (some ⟨b2, 0, none⟩))]) SFA (show SubO [.blk b2 [.string rb.name, .int .i64 rb.from_, .int .i64 rb.to, .int .i64 rb.month, .int .i64 rb.day.kind, .int .i64 rb.day.week, .int .i64 rb.day.day, .int .i64 rb.at_.sec, .int .i64 rb.at_.base, .int .i64 rb.save, .string rb.letter] 118, .blk b1 [.string ra.name, .int .i64 ra.from_, .int .i64 ra.to, .int .i64 ra.month, .int .i64 ra.day.kind, .int .i64 ra.day.week, .int .i64 ra.day.day, .int .i64 ra.at_.sec, .int .i64 ra.at_.base, .int .i64 ra.save, .string ra.letter] 118] _ from SOA) ?_
 refine Zag rfl (fun h => ?_) (fun h => ?_)
 ·have e : pairB l i a b save = [⟨ra.name, ra.from_, ra.to, ra.month, ra.day, ra.at_, rb.save, ra.letter⟩, ⟨rb.name, rb.from_, rb.to, rb.month, rb.day, rb.at_, ra.save, rb.letter⟩] := by
   rw [pairB, if_pos (by simpa using h), ← hra, ← hrb]
   rfl
  rw [e]
  repeat (first | refine walk ?_ | (refine jn ?_; (try intro F); (first | (refine bx ?_; intro bk) | (refine stA ?_) | (apply Zae; exact PuA)); refine fin ?_) | (apply RD_W; rfl; intro bk))
  exact ret_1 _ [.blk bk (List.flatMap Zaa.enc [⟨ra.name, ra.from_, ra.to, ra.month, ra.day, ra.at_, rb.save, ra.letter⟩, ⟨rb.name, rb.from_, rb.to, rb.month, rb.day, rb.at_, ra.save, rb.letter⟩]) 118] (.tmp rfl) SOA ⟨_, rfl, rfl⟩
 have e : pairB l i a b save = [ra, rb] := by rw [pairB, if_neg (by simpa using h), ← hra, ← hrb]
 rw [e]
 repeat (first | refine walk ?_ | (refine jn ?_; (try intro F); (first | (refine bx ?_; intro bk) | (refine stA ?_) | (apply Zae; exact PuA)); refine fin ?_) | (apply RD_W; rfl; intro bk))
 exact ret_1 _ [.blk bk (List.flatMap Zaa.enc [ra, rb]) 118] (.tmp rfl) SOA ⟨_, rfl, rfl⟩
end Go.Proofs.YtpcpmndldgejiaaGreatDoor
