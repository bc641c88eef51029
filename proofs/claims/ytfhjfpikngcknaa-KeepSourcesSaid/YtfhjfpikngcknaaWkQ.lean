/- Calls that write what the caller owns; stores into rows. -/
import Derived.Test.YtfhjfpikngcknaaWkO
namespace Go.Wk
open Go Go.RowKit
/-- A call in the caller's memory: what the caller owns may be written. -/
def DoesIn (P : Program) (f : FuncId) (args : List Value) (wr : World) (O : List It) (R : Value → List It → Prop) : Prop :=
  ∀ w, Below wr.heap.size wr w → Holds wr.heap.size O w → Calls P f args.toArray w fun e w' => ∃ v O', e = .returned v ∧ Below wr.heap.size wr w' ∧ Holds wr.heap.size O' w' ∧ R v O'
theorem DoesIn_of_W {P : Program} {f : FuncId} {fn : Func} {c : Code} {args : List Value} {wr : World} {O : List It} {R : Value → List It → Prop} {n : Nat} {rs : List ResultVar} (hf : P.funcs[f]? = some fn) (hb : fn.body = some c) (hn : fn.ntmps = n) (hr : fn.results = rs.toArray)
    (ha : Nat.ble args.length n = true) (h : W P n wr c (retQ P wr rs R) (argsFr 0 args) O) : DoesIn P f args wr O R := by
  intro w hB hH
  refine calls_of_wp hf hb ?_
  have hst : St n wr (argsFr 0 args) O { tmps := args.toArray ++ Array.replicate (fn.ntmps - args.toArray.size) undef, defers := [] } w := by
    have ha' : args.length ≤ n := Nat.le_of_ble_eq_true ha
    refine ⟨⟨rfl, by simp; omega, fun t v hv => ?_⟩, hB, hH⟩
    have := (look_argsFr args 0 t v hv).2
    simp only [Nat.sub_zero] at this
    have hlt : t < args.length := (List.getElem?_eq_some_iff.1 this).1
    rw [Array.getElem?_append_left (by simpa using hlt)]
    simpa using this
  refine wp_mono (h _ w hst) ?_
  rintro e a w' ⟨fr, O1, hs, hq⟩
  have fin : (∃ vs O', ResVs P wr fr O1 rs vs ∧ SubO O' O1 ∧ R (tupV vs) O') → a.defers = [] ∧ ∃ v, (results fn a.tmps).run P w' = .ok v w' ∧ ∃ v' O, Ending.returned v = .returned v' ∧ Below wr.heap.size wr w' ∧ Holds wr.heap.size O w' ∧ R v' O := by
    rintro ⟨vs, O', h1, h2, h3⟩
    refine ⟨hs.sim.defers, (tupV vs), ?_, _, O', rfl, hs.old, hs.own.sub h2, h3⟩
    unfold results
    rw [hr, List.mapM_toArray]
    simp only [Sem.run_bind, Sem.run_map]
    rw [run_results (P := P) hs _ (fun _ => rfl) (fun _ _ => rfl) rs vs h1]
    simp only [Result.andThen_ok, Sem.run_pure]
    congr 1
    clear h1 h3
    match vs with
    | [] => rfl
    | [v] => rfl
    | v :: u :: r => simp; rfl
  cases e with
  | ret => exact fin hq
  | normal => exact fin hq
  | _ => exact hq.elim
section
variable {P : Program} {n : Nat} {wr : World} {fr : Fr} {O : List It} {ty : TypeId} {pos : String} {af : Array Edge} {dst : Option Tmp} {g : Option (Nat × Bool)} {Kp : Value → List It → Prop}
theorem Stp_callIn {f : FuncId} {xs : List Operand} {ts : Array TypeId} {vs : List Value} {O2 : List It} {R : Value → List It → Prop} [Body P f] (hx : evsO fr xs = some vs) (h : DoesIn P f vs wr O2 R) (hO : SubO O2 O) (k : ∀ v O', R v O' → Kp v O') :
    Stp P n wr fr O ⟨dst, .call ⟨.value (.func f), xs.toArray, ts⟩, ty, pos, af, g⟩ Kp := by
  intro a w hs Kn Q hk
  have hrun : (execOp a.eval ⟨dst, .call ⟨.value (.func f), xs.toArray, ts⟩, ty, pos, af, g⟩).run P w = .ok (.enter f vs.toArray) w := by
    have := hs.sim.evsO hx
    simp [execOp, resolve, Act.eval, Deferred.ofValue, invoke, run_callFunc, this]
  unfold Oper.wp
  rw [hrun, Oper.upon_enter]
  refine (h w hs.old (hs.own.sub hO)).mono ?_
  rintro e w' ⟨v, O', rfl, hB, hH, hR⟩
  exact hk v _ w' hB hH (k v O' hR)
theorem lay_take (N : Nat) : ∀ (vs cs : List Value) (j : Nat), (lay cs j vs).take N = lay (cs.take N) j vs
  | [], _, _ => rfl
  | v :: r, cs, j => by rw [lay, lay, lay_take N r, List.take_set]
/-- Cells of a row of the call's own are written. -/
theorem Stp_storeR {t sz e size m c p : Nat} {ag : Bool} {x y : Operand} {A : Option Addr} {xs xs' vs : List Value} {v : Value} {O' : List It} [hT : Ty P t sz ag] (hx : ev fr x = some (.pointer (some ((adr A).add p)))) (hy : ev fr y = some v)
    (hu : Upd O (.row (.slice A m c) e size m xs) (.row (.slice A m c) e size m xs') O') (hvs : v.cells.toList = vs) (hl : vs.length = sz) (h1 : vs.all Value.oneCell' = true) (hp : p + sz ≤ xs.length) (h0 : 0 < sz) (hc : lay xs p vs = xs')
    (k : Kp undef O') : Stp P n wr fr O ⟨dst, .store t x y, ty, pos, af, g⟩ Kp := by
  refine Stp_skip fun a w hs => ?_
  have hsat := hs.own.sat _ hu.mem
  obtain ⟨hxl, hnn | ⟨b, cap, cur, hval, hb0, hg, hmc, hcm, hsz, hcur⟩⟩ := id hsat
  · obtain ⟨_, rfl⟩ := hnn
    simp at hxl
    rw [hxl] at hp
    simp at hp
    omega
  injection hval with hA _ hcc
  subst hA hcc
  have hb := hs.own.inb _ hu.mem b (by simp [It.S, Value.ownBlock])
  have hxc : xs.length ≤ cur.size := by rw [← hcur, List.length_take, Array.length_toList]; omega
  have hg' : w.heap[b]? = some (.cells cur.toList.toArray e (0, 0)) := by rw [Array.toArray_toList]; exact hg
  have had : (adr (some (⟨b, 0, none⟩ : Addr))).add p = ⟨b, p, none⟩ := by
    rw [show adr (some (⟨b, 0, none⟩ : Addr)) = ⟨b, 0, none⟩ from rfl, add_mk, Nat.zero_add]
  rw [had] at hx
  have hcell : ∀ i, w.cell? ⟨b, i, none⟩ = cur.toList[i]? := fun i => by simp [World.cell?, hg]
  have hfz : ∀ i, w.frozen? ⟨b, i, none⟩ = false := fun i => by simp [World.frozen?, hg]
  have hrun := run_storeCells (P := P) (ad := ⟨b, p, none⟩) vs w 0 (fun u hu => List.all_eq_true.1 h1 u hu) (fun i hi => by
    rw [add_mk, hcell, hfz]
    refine ⟨?_, rfl⟩
    rw [List.getElem?_eq_getElem (by rw [Array.length_toList]; omega)]
    rfl)
  refine ⟨setCells w ⟨b, p, none⟩ vs 0, O', ?_, ?_, ?_, k⟩
  · have hvsz : v.cells.size = sz := by rw [← hl, ← hvs]; simp
    simp only [execOp, hs.sim.ev hx, hs.sim.ev hy, Instr.storeAt, Instr.sureAddr, Sem.run_bind, Sem.run_pure, Result.andThen_ok, storeVar, run_sizeOf, hvsz, ne_eq, not_true, if_false, hvs, hrun]
  · refine hs.old.trans ⟨(setCells_os vs w 0).1, (setCells_os vs w 0).2.1, (setCells_os vs w 0).2.2, by rw [setCells_size]; exact Nat.le_refl _, fun i hi => setCells_heap vs w 0 i (by show i ≠ b; omega)⟩
  · refine hs.own.upd hu hs.old.size (by rw [setCells_size]; exact Nat.le_refl _) (fun i _ hi => setCells_heap vs w 0 i (fun e => hi (by rw [e]; simp [It.S, Value.ownBlock]))) ?_ (fun i hi => Or.inl hi)
    have hblk := setCells_blk (b := b) (j := p) (t := e) vs cur.toList w 0 hg'
    simp only [Nat.add_zero] at hblk
    subst hc
    refine ⟨by rw [lay_length]; exact hxl, .inr ⟨b, c, _, rfl, Nat.zero_le _, hblk, hmc, hcm, ?_, ?_⟩⟩
    · rw [List.size_toArray, lay_length, Array.length_toList]; exact hsz
    · rw [List.toList_toArray, lay_take, hcur]
end
end Go.Wk
