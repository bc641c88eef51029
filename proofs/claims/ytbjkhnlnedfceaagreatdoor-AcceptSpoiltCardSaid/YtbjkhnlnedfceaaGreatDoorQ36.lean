/- Contracts: variant.of, variant.Check. Contract: variant.Check. Contracts: accept.In, Forms. Plain: sources of few and short parts; drafts are such; then accept's contract holds. Contract: analemmalaw25.fault. -/
import Derived.Test.YtbjkhnlnedfceaaGreatDoorQ35
import Derived.Test.YtbjkhnlnedfceaaGreatDoorQ14
import Derived.Test.YtbjkhnlnedfceaaGreatDoorQ11
set_option maxHeartbeats 4000000
set_option linter.unusedVariables false
set_option linter.unusedSimpArgs false
namespace Go.Proofs.YtbjkhnlnedfceaaGreatDoor
open Go Go.RowKit Go.Wk
attribute [local irreducible] W RL Does thenQ blockQ retQ Calls Pu Stp RD Qy Ay DoesIn
def vRow (f : Nat) : List Value := (varCells.drop (f * 5)).take 5
theorem var_at {w : World} (hG : Glob w) (f : Nat) : CellsAt w ((⟨0, 0, none⟩ : Addr).add (f * 5)) (vRow f) := fun j v hj => by
 rw [add_of_add]
 refine hG.var (f * 5 + j) v ?_
 unfold vRow at hj
 rw [List.getElem?_take] at hj
 split at hj
 ·rwa [List.getElem?_drop] at hj
 ·cases hj
theorem PuVarB0 {G : Prop} (h : G := by (first | (apply Pu_indexArr; rfl; rfl; omega; omega) | (apply Pu_loadON; rfl; exact hcv; rfl))) : G := h
theorem of_1 (w : World) (hG : Glob w) : Does Tryz.prog 76 [.int .i64 1] w (fun v O => v = .tuple #[.agg (vRow 1).toArray, .bool true] ∧ O = []) := by
 have hcv := var_at hG 1
 rw [show vRow 1 = [.string ⟨#[118, 97, 110, 103, 117, 97, 114, 100]⟩, .bool true, .bool true, .bool false, .bool false] from rfl] at hcv ⊢
 refine Does_of_W Tryz.func76 rfl rfl rfl rfl ?_
 repeat (first | (apply RL_pu; rfl; exact PuVarB0) | (refine js ?_; (refine bx ?_; intro bk)) | refine walk1 ?_)
 exact rtC
theorem of_2 (w : World) (hG : Glob w) : Does Tryz.prog 76 [.int .i64 2] w (fun v O => v = .tuple #[.agg (vRow 2).toArray, .bool true] ∧ O = []) := by
 have hcv := var_at hG 2
 rw [show vRow 2 = [.string ⟨#[109, 97, 105, 110]⟩, .bool true, .bool false, .bool true, .bool false] from rfl] at hcv ⊢
 refine Does_of_W Tryz.func76 rfl rfl rfl rfl ?_
 repeat (first | (apply RL_pu; rfl; exact PuVarB0) | (refine js ?_; (refine bx ?_; intro bk)) | refine walk1 ?_)
 exact rtC
theorem of_3 (w : World) (hG : Glob w) : Does Tryz.prog 76 [.int .i64 3] w (fun v O => v = .tuple #[.agg (vRow 3).toArray, .bool true] ∧ O = []) := by
 have hcv := var_at hG 3
 rw [show vRow 3 = [.string ⟨#[114, 101, 97, 114, 103, 117, 97, 114, 100]⟩, .bool false, .bool false, .bool true, .bool true] from rfl] at hcv ⊢
 refine Does_of_W Tryz.func76 rfl rfl rfl rfl ?_
 repeat (first | (apply RL_pu; rfl; exact PuVarB0) | (refine js ?_; (refine bx ?_; intro bk)) | refine walk1 ?_)
 exact rtC
theorem PuVarB1 {G : Prop} (h : G := by (apply Pu_lssB; rfl; rfl; exact b1)) : G := h
theorem of_bad (f : Int) (hf : f < 1 ∨ 3 < f) (w : World) : Does Tryz.prog 76 [.int .i64 f] w (fun v O => v = .tuple #[.agg #[.string ByteArray.empty, .bool false, .bool false, .bool false, .bool false], .bool false] ∧ O = []) := by
 refine Does_of_W Tryz.func76 rfl rfl rfl rfl ?_
 by_cases h1 : f < 1
 ·have b1 : decide (f < 1) = true := decide_eq_true h1
  repeat (first | refine und ?_ | (apply RL_pu; rfl; exact PuVarB1) | (refine js ?_; (refine bx ?_; intro bk)) | refine walk1 ?_)
  exact rtC
 ·have b1 : decide (f < 1) = false := decide_eq_false h1
  have b2 : decide (4 ≤ f) = true := decide_eq_true (by omega)
  repeat (first | refine und ?_ | (apply RL_pu; rfl; (first | exact PuVarB1 | (apply Pu_geqB; rfl; rfl; exact b2))) | (refine js ?_; (refine bx ?_; intro bk)) | refine walk1 ?_)
  exact rtC
def wrongB (a2 a3 : Bool) (e : DEra) : Bool := (decide (kindF e.format.data.toList = 4) && !a2) || (decide (kindF e.format.data.toList = 5) && !a3)
def negB (a1 : Bool) (r : DRule) : Bool := decide (r.save < 0) && !a1
def zGo (a2 a3 : Bool) : List DZone → Nat → Option (DPlace × Int)
 | [], _ => none
 | z :: l, i => match z.eras.findIdx? (wrongB a2 a3) with | some j => some (⟨2, i, j⟩, 17) | none => zGo a2 a3 l (i + 1)
def vfG (a1 a2 a3 a4 : Bool) (s : DSource) : Option (DPlace × Int) :=
 match s.rules.findIdx? (negB a1) with
 | some i => some (⟨1, i, 0⟩, 17)
 | none => match zGo a2 a3 s.zones 0 with
  | some x => some x
  | none => if 0 < s.shifts.length ∧ a4 = false then some (⟨4, 0, 0⟩, 17) else none
theorem zGo_eq (p : DEra → Bool) (a2 a3 : Bool) (hp : wrongB a2 a3 = p) : ∀ (l : List DZone) (k : Nat), zGo a2 a3 l k = match l.findIdx? (fun z => z.eras.any p) with
  | some i => some (⟨2, (k + i : Nat), (((l[i]?).map fun z => ((z.eras.findIdx? p).getD 0)).getD 0)⟩, 17)
  | none => none
 | [], _ => rfl
 | z :: l, k => by
  rw [zGo, hp, List.findIdx?_cons]
  by_cases h : z.eras.any p = true
  ·rw [if_pos h]
   obtain ⟨j, hj⟩ : ∃ j, z.eras.findIdx? p = some j := by
    cases hq : z.eras.findIdx? p with
    | some j => exact ⟨j, rfl⟩
    | none =>
     rw [List.findIdx?_eq_none_iff] at hq
     rw [List.any_eq_true] at h
     obtain ⟨x, hx, hx2⟩ := h
     rw [hq x hx] at hx2
     cases hx2
   rw [hj]
   simp [hj]
  ·rw [if_neg h]
   have hq : z.eras.findIdx? p = none := by
    rw [List.findIdx?_eq_none_iff]
    intro x hx
    cases hpx : p x with
    | false => rfl
    | true => exact absurd (List.any_eq_true.2 ⟨x, hx, hpx⟩) h
   rw [hq]
   dsimp only
   rw [zGo_eq p a2 a3 hp l (k + 1)]
   cases l.findIdx? (fun z => z.eras.any p) with
   | none => rfl
   | some i => simp [Nat.add_comm, Nat.add_left_comm]
theorem vf_gen (f : Int) (a1 a2 a3 a4 : Bool) (s : DSource) (h1 : ¬ (f < 1 ∨ 3 < f)) (hn : (fun r : DRule => decide (r.save < 0) && decide (f = 3)) = negB a1)
  (hw : (fun e : DEra => (decide (kindF e.format.data.toList = 4) && !decide (f = 1)) || (decide (kindF e.format.data.toList = 5) && decide (f = 1))) = wrongB a2 a3) (h4 : f ≠ 3 ↔ a4 = false) : varFault f s = vfG a1 a2 a3 a4 s := by
 unfold varFault vfG
 rw [if_neg h1, hn]
 dsimp only
 rw [hw, zGo_eq (wrongB a2 a3) a2 a3 rfl]
 cases s.rules.findIdx? (negB a1) with
 | some i => rfl
 | none =>
  dsimp only
  cases s.zones.findIdx? (fun z => z.eras.any (wrongB a2 a3)) with
  | some i => simp
  | none =>
   dsimp only
   by_cases h5 : 0 < s.shifts.length ∧ f ≠ 3
   ·rw [if_pos h5, if_pos ⟨h5.1, h4.1 h5.2⟩]
   ·rw [if_neg h5, if_neg (fun h => h5 ⟨h.1, h4.2 h.2⟩)]
theorem vf_1 (s : DSource) : varFault 1 s = vfG true true false false s := vf_gen 1 _ _ _ _ s (by omega) (by funext r; simp [negB]) (by funext e; simp [wrongB]) (by simp)
theorem vf_2 (s : DSource) : varFault 2 s = vfG true false true false s := vf_gen 2 _ _ _ _ s (by omega) (by funext r; simp [negB]) (by funext e; simp [wrongB]) (by simp)
theorem vf_3 (s : DSource) : varFault 3 s = vfG false false true true s := vf_gen 3 _ _ _ _ s (by omega) (by funext r; simp [negB]) (by funext e; simp [wrongB]) (by simp)
theorem cellUp {w w' : World} {b j : Nat} {cs : List Value} {v : Value} (h : CellsAt w ⟨b, 0, none⟩ cs) (hw : Bel w.heap.size w w') (hv : cs[j]? = some v) : w'.cell? ((⟨b, 0, none⟩ : Addr).add j) = some v :=
 (hw.cell (World.block_lt_of_cell? w _ (h j v hv))).trans (h j v hv)
theorem PuVarC2 {G : Prop} (h : G := by (apply Pu_gtrB; rfl; rfl; exact bs)) : G := h
set_option maxHeartbeats 2000000 in
theorem varC_gen (Ar Az Al As : Option Addr) (cr cz cl cs : Nat) (a : DSource) (f : Int) (nm : ByteArray) (a1 a2 a3 a4 : Bool) (w : World) (hL : LibW w) (hA : RdSource w Ar Az Al As cr cz cl cs a) (hS : SrcOk a) (hZ : ∀ z ∈ a.zones, ∀ e ∈ z.eras, e.format.size ≤ 1000000000)
  (hof : ∀ w', Bel w.heap.size w w' → Does Tryz.prog 76 [.int .i64 f] w' (fun v O => v = .tuple #[.agg #[.string nm, .bool a1, .bool a2, .bool a3, .bool a4], .bool true] ∧ O = [])) :
  Does Tryz.prog 37 [srcV Ar Az Al As cr cz cl cs a, .int .i64 f] w (fun v O => v = ptV (vfG a1 a2 a3 a4 a) ∧ O = []) := by
 have hnz := hS.nz
 have hns := hS.ns
 have hru : ∀ b6 w', Bel w.heap.size w w' → CellsAt w' ⟨b6, 0, none⟩ [.string nm, .bool a1, .bool a2, .bool a3, .bool a4] → Does Tryz.prog 35 [.slice Ar a.rules.length cr, .func (.func 77) #[] #[.pointer (some ⟨b6, 0, none⟩)]] w' (fun v O => v = .int .i64 (findI (negB a1) a.rules 0) ∧ O = []) :=
  fun b6 w' hw h6 => indexFunc_spec Ar cr a.rules 77 [] [.pointer (some ⟨b6, 0, none⟩)] (negB a1) w' (hA.up hw).r fun r w2 hw2 => var1_spec r ⟨b6, 0, none⟩ a1 w2 (cellUp h6 hw2 rfl)
 rw [findI_idx] at hru
 unfold vfG
 generalize a.rules.findIdx? (negB a1) = ri at *
 refine Does_of_W Tryz.func37 rfl rfl rfl rfl ?_
 cases ri with
 | some i =>
  dsimp only at hru ⊢
  rw [Nat.zero_add] at hru
  have b0 : decide ((0 : Int) ≤ (i : Int)) = true := decide_eq_true (by omega)
  simp only [ptV, plV, DPlace.enc]
  repeat (first | (apply RL_pu; rfl; (apply Pu_geqB; rfl; rfl; exact b0)) | (refine js ?_; (first | (refine callE hof ?_) | (refine callO (fun w' hw hO => hru _ w' hw (hO.cells (by repeat' constructor))) ?_) | (refine bx ?_; intro bk))) | refine walk1 ?_)
  exact rtC
 | none =>
  dsimp only at hru ⊢
  obtain ⟨zr, hzr⟩ : ∃ zr, zGo a2 a3 a.zones 0 = zr := ⟨_, rfl⟩
  rw [hzr]
  repeat (first | (refine js ?_; (first | (refine callE hof ?_) | (refine callO (fun w' hw hO => hru _ w' hw (hO.cells (by repeat' constructor))) ?_) | (refine bx ?_; intro bk))) | refine walk ?_)
  obtain ⟨b6, hb6⟩ : ∃ b6, bk = b6 := ⟨_, rfl⟩
  rw [hb6]
  clear hb6 bk
  obtain ⟨b4, hb4⟩ : ∃ b4, bk = b4 := ⟨_, rfl⟩
  rw [hb4]
  clear hb4 bk
  obtain ⟨b2, hb2⟩ : ∃ b2, bk = b2 := ⟨_, rfl⟩
  rw [hb2]
  clear hb2 bk
  refine W_loopF [(2, .pointer (some ⟨b2, 0, none⟩)), (4, .pointer (some ⟨b4, 0, none⟩)), (6, .pointer (some ⟨b6, 0, none⟩)), (9, .func (.func 78) #[] #[.pointer (some ⟨b6, 0, none⟩)]), (31, .slice Az a.zones.length cz), (32, .int .i64 a.zones.length)] [.blk b6 [.string nm, .bool a1, .bool a2, .bool a3, .bool a4] 130, .blk b4 [.int .i64 0, .int .i64 0, .int .i64 0] 54, .blk b2 [.slice Ar a.rules.length cr, .slice Az a.zones.length cz, .slice Al a.links.length cl, .slice As a.shifts.length cs] 31]
   (fun k : Nat => [(33, .int .i64 k)]) (fun _ => []) (fun k => k ≤ a.zones.length ∧ zGo a2 a3 (a.zones.drop k) k = zr) (fun k => a.zones.length - k) 0 SFA SOA ⟨Nat.zero_le _, hzr⟩ ?_
  clear hzr
  rintro i ⟨hil, hi⟩
  repeat (first | (refine js ?_; (refine bx ?_; intro bk)) | refine walk ?_)
  refine W_cond rfl (fun hc => ?_) (fun hc => ?_)
  ·simp only [decide_eq_true_eq, Int.ofNat_lt] at hc
   obtain ⟨hna, cs1, ⟨Ae, ce, hEz, rfl⟩, hca⟩ := hA.z i _ (List.getElem?_eq_getElem hc)
   have hmem := List.getElem_mem hc
   rw [drop_cons hc, zGo] at hi
   generalize a.zones[i] = z at *
   have her : ∀ b6 w', Bel w.heap.size w w' → CellsAt w' ⟨b6, 0, none⟩ [.string nm, .bool a1, .bool a2, .bool a3, .bool a4] → Does Tryz.prog 36 [.slice Ae z.eras.length ce, .func (.func 78) #[] #[.pointer (some ⟨b6, 0, none⟩)]] w' (fun v O => v = .int .i64 (findI (wrongB a2 a3) z.eras 0) ∧ O = []) :=
    fun b6 w' hw h6 => indexEr_spec Ae ce z.eras 78 [] [.pointer (some ⟨b6, 0, none⟩)] (wrongB a2 a3) w' (hEz.up hw) fun r hr w2 hw2 => var2_spec r ⟨b6, 0, none⟩ a2 a3 w2 ((hL.up hw).up hw2) (hZ z hmem r hr) (cellUp h6 hw2 rfl) (cellUp h6 hw2 rfl)
   rw [findI_idx] at her
   generalize z.eras.findIdx? (wrongB a2 a3) = ei at *
   cases ei with
   | some j =>
    dsimp only at her hi
    rw [Nat.zero_add] at her
    have b0 : decide ((0 : Int) ≤ (j : Int)) = true := decide_eq_true (by omega)
    subst hi
    simp only [ptV, plV, DPlace.enc]
    repeat (first | (apply RL_pu; rfl; (first | exact PuI | (apply Pu_geqB; rfl; rfl; exact b0))) | (refine js ?_; (first | (refine callO (fun w' hw hO => her _ w' hw (hO.cells (by repeat' constructor))) ?_) | (refine bx ?_; intro bk))) | refine walk1 ?_)
    exact rtC
   | none =>
    dsimp only at her hi
    repeat (first | (apply RL_pu; rfl; exact PuI) | (refine js ?_; (first | (refine callO (fun w' hw hO => her _ w' hw (hO.cells (by repeat' constructor))) ?_) | (refine bx ?_; intro bk))) | refine walk1 ?_)
    exact ⟨i + 1, OA, ⟨OA, hi⟩, SFA, SOA⟩
  ·simp only [decide_eq_false_iff_not, Int.ofNat_lt] at hc
   rw [List.drop_eq_nil_of_le (by omega), zGo] at hi
   subst hi
   dsimp only
   by_cases hsn : 0 < a.shifts.length
   ·have bs : decide ((0 : Int) < a.shifts.length) = true := decide_eq_true (by omega)
    cases a4 with
    | false =>
     rw [if_pos ⟨hsn, rfl⟩]
     simp only [ptV, plV, DPlace.enc]
     repeat (first | (apply RL_pu; rfl; exact PuVarC2) | (refine js ?_; (refine bx ?_; intro bk)) | refine walk1 ?_)
     exact rtC
    | true =>
     rw [if_neg (by rintro ⟨_, h⟩; cases h)]
     repeat (first | (apply RL_pu; rfl; exact PuVarC2) | (refine js ?_; (refine bx ?_; intro bk)) | refine walk1 ?_)
     exact rtC
   ·have bs : decide ((0 : Int) < a.shifts.length) = false := decide_eq_false (by omega)
    rw [if_neg (fun h => hsn h.1)]
    repeat (first | (apply RL_pu; rfl; exact PuVarC2) | (refine js ?_; (refine bx ?_; intro bk)) | refine walk1 ?_)
    exact rtC
theorem varC_spec (Ar Az Al As : Option Addr) (cr cz cl cs : Nat) (a : DSource) (f : Int) (w : World) (hL : LibW w) (hG : Glob w) (hA : RdSource w Ar Az Al As cr cz cl cs a) (hS : SrcOk a) (hZ : ∀ z ∈ a.zones, ∀ e ∈ z.eras, e.format.size ≤ 1000000000) :
  Does Tryz.prog 37 [srcV Ar Az Al As cr cz cl cs a, .int .i64 f] w (fun v O => v = ptV (varFault f a) ∧ O = []) := by
 by_cases hb : f < 1 ∨ 3 < f
 ·have hof := fun w' => of_bad f hb w'
  unfold varFault
  rw [if_pos hb]
  simp only [ptV, plV, DPlace.enc]
  refine Does_of_W Tryz.func37 rfl rfl rfl rfl ?_
  repeat (first | (refine js ?_; (first | (refine callE (fun w' hw => hof w') ?_) | (refine bx ?_; intro bk))) | refine walk ?_)
  exact rtC
 ·obtain rfl | rfl | rfl : f = 1 ∨ f = 2 ∨ f = 3 := by omega
  ·rw [vf_1]
   exact varC_gen Ar Az Al As cr cz cl cs a 1 _ _ _ _ _ w hL hA hS hZ fun w' hw => of_1 w' (hG.up hw)
  ·rw [vf_2]
   exact varC_gen Ar Az Al As cr cz cl cs a 2 _ _ _ _ _ w hL hA hS hZ fun w' hw => of_2 w' (hG.up hw)
  ·rw [vf_3]
   exact varC_gen Ar Az Al As cr cz cl cs a 3 _ _ _ _ _ w hL hA hS hZ fun w' hw => of_3 w' (hG.up hw)
theorem accD_ne {s : DSource} {p : DPlace} {e : Int} (h : accD s = some (p, e)) : e ≠ 0 := by
 unfold accD at h
 cases h1 : sizesD s with
 | some x => rw [h1] at h; simp only [Option.some_or, Option.some.injEq] at h; subst h; exact sizesD_ne h1
 | none =>
  rw [h1, Option.none_or] at h
  cases h2 : setsD s with
  | some x => rw [h2] at h; simp only [Option.some_or, Option.some.injEq] at h; subst h; exact setsGo_ne _ _ h2
  | none =>
   rw [h2, Option.none_or] at h
   cases h3 : shiftsGo s s.shifts [] 0 with
   | some x => rw [h3] at h; simp only [Option.some_or, Option.some.injEq] at h; subst h; exact shiftsGo_ne _ _ _ _ h3
   | none =>
    rw [h3, Option.none_or] at h
    cases h4 : linksD s with
    | some x => rw [h4] at h; simp only [Option.some_or, Option.some.injEq] at h; subst h; exact linksD_ne h4
    | none =>
     rw [h4, Option.none_or] at h
     exact zonesGo_ne _ _ _ h
theorem varFault_ne {f : Int} {s : DSource} {p : DPlace} {e : Int} (h : varFault f s = some (p, e)) : e ≠ 0 := by
 unfold varFault at h
 dsimp only at h
 repeat' split at h
 all_goals first | (simp only [Option.some.injEq, Prod.mk.injEq] at h; omega) | cases h
structure AccOk (w : World) (Ar Az Al As : Option Addr) (cr cz cl cs : Nat) (a : DSource) : Prop where
 L : LibW w
 G : Glob w
 A : RdSource w Ar Az Al As cr cz cl cs a
 S : SrcOk a
 V : SavI a
 Z : ∀ z ∈ a.zones, ∀ e ∈ z.eras, EraOk e
theorem AccOk.up {w w' : World} {Ar Az Al As : Option Addr} {cr cz cl cs : Nat} {a : DSource} (h : AccOk w Ar Az Al As cr cz cl cs a) (hb : Bel w.heap.size w w') : AccOk w' Ar Az Al As cr cz cl cs a :=
 ⟨h.L.up hb, h.G.up hb, h.A.up hb, h.S, h.V, h.Z⟩
theorem accS {w : World} {Ar Az Al As : Option Addr} {cr cz cl cs : Nat} {a : DSource} (h : AccOk w Ar Az Al As cr cz cl cs a) : Does Tryz.prog 20 [srcV Ar Az Al As cr cz cl cs a] w (fun v O => v = ptV (accD a) ∧ O = []) :=
 acc_spec Ar Az Al As cr cz cl cs a w h.L h.G h.A h.S h.V h.Z
theorem varS {w : World} {Ar Az Al As : Option Addr} {cr cz cl cs : Nat} {a : DSource} (h : AccOk w Ar Az Al As cr cz cl cs a) (f : Int) : Does Tryz.prog 37 [srcV Ar Az Al As cr cz cl cs a, .int .i64 f] w (fun v O => v = ptV (varFault f a) ∧ O = []) :=
 varC_spec Ar Az Al As cr cz cl cs a f w h.L h.G h.A h.S fun z hz e he => (h.Z z hz e he).fmt
theorem PuInF0 {G : Prop} (h : G := by (apply Pu_neqB'; rfl; rfl; exact hb)) : G := h
theorem PuInF1 {G : Prop} (h : G := by (apply Pu_lssB; rfl; rfl; exact b1)) : G := h
theorem PuInF2 {G : Prop} (h : G := by (first | exact PuInF1 | (apply Pu_gtrB; rfl; rfl; exact b2))) : G := h
theorem inA_spec (Ar Az Al As : Option Addr) (cr cz cl cs : Nat) (a : DSource) (f : Int) (w : World) (h : AccOk w Ar Az Al As cr cz cl cs a) :
  Does Tryz.prog 15 [srcV Ar Az Al As cr cz cl cs a, .int .i64 f] w (fun v O => v = ptV (inD a f) ∧ O = []) := by
 have hac := fun w' (hw : Bel w.heap.size w w') => accS (h.up hw)
 have hva := fun w' (hw : Bel w.heap.size w w') => varS (h.up hw) f
 have hne := fun {p e} => @accD_ne a p e
 have hvb : (f < 1 ∨ 3 < f) → varFault f a = some (⟨0, 0, 0⟩, 2) := fun hb => by unfold varFault; rw [if_pos hb]
 unfold inD
 generalize accD a = o1 at *
 generalize varFault f a = o2 at *
 refine Does_of_W Tryz.func15 rfl rfl rfl rfl ?_
 cases o1 with
 | some x =>
  obtain ⟨⟨p1, p2, p3⟩, e⟩ := x
  have hb : (!decide (e = 0)) = true := by rw [decide_eq_false (hne rfl)]; rfl
  simp only [Option.some_or, ptV, plV, DPlace.enc] at hac ⊢
  repeat (first | (apply RL_pu; rfl; exact PuInF0) | (refine js ?_; (first | (refine callE hac ?_) | (refine bx ?_; intro bk))) | refine walk1 ?_)
  exact rtC
 | none =>
  rw [Option.none_or]
  by_cases h1 : f < 1
  ·have b1 : decide (f < 1) = true := decide_eq_true h1
   rw [hvb (.inl h1)]
   simp only [ptV, plV, DPlace.enc] at hac ⊢
   repeat (first | refine und ?_ | (apply RL_pu; rfl; exact PuInF1) | (refine js ?_; (first | (refine callE hac ?_) | (refine bx ?_; intro bk))) | refine walk1 ?_)
   exact rtC
  have b1 : decide (f < 1) = false := decide_eq_false h1
  by_cases h2 : 3 < f
  ·have b2 : decide (3 < f) = true := decide_eq_true h2
   rw [hvb (.inr h2)]
   simp only [ptV, plV, DPlace.enc] at hac ⊢
   repeat (first | refine und ?_ | (apply RL_pu; rfl; exact PuInF2) | (refine js ?_; (first | (refine callE hac ?_) | (refine bx ?_; intro bk))) | refine walk1 ?_)
   exact rtC
  have b2 : decide (3 < f) = false := decide_eq_false h2
  cases o2 with
  | none =>
   simp only [ptV, plV, DPlace.enc] at hac hva ⊢
   repeat (first | refine und ?_ | (apply RL_pu; rfl; exact PuInF2) | (refine js ?_; (first | (refine callE hac ?_) | (refine callE hva ?_) | (refine bx ?_; intro bk))) | refine walk1 ?_)
   exact rtC
  | some x =>
   obtain ⟨⟨p1, p2, p3⟩, e⟩ := x
   simp only [ptV, plV, DPlace.enc] at hac hva ⊢
   repeat (first | refine und ?_ | (apply RL_pu; rfl; exact PuInF2) | (refine js ?_; (first | (refine callE hac ?_) | (refine callE hva ?_) | (refine bx ?_; intro bk))) | refine walk1 ?_)
   exact rtC
structure FoG where
 k : Nat
 A : Option Addr
 c : Nat
 m : Nat
 ys : List Value
 acc : List Int
def okF (a : DSource) (f : Int) : Bool := (varFault f a).isNone
theorem f123 {k : Nat} (h : k < 3) : ([1, 2, 3] : List Int)[k]? = some ((k : Int) + 1) := by
 match k, h with
 | 0, _ => rfl
 | 1, _ => rfl
 | 2, _ => rfl
theorem PuInF3 {G : Prop} (h : G := by (apply Pu_leqB; rfl; rfl; exact b3)) : G := h
theorem formsA_spec (Ar Az Al As : Option Addr) (cr cz cl cs : Nat) (a : DSource) (w : World) (h : AccOk w Ar Az Al As cr cz cl cs a) :
  Does Tryz.prog 14 [srcV Ar Az Al As cr cz cl cs a] w (NewSl 3 1 iEnc (formsD a)) := by
 have hac := fun w' (hw : Bel w.heap.size w w') => accS (h.up hw)
 have hvf := fun f w' (hw : Bel w.heap.size w w') => varS (h.up hw) f
 have hne := fun {p e} => @accD_ne a p e
 unfold formsD
 generalize accD a = o1 at *
 refine Does_of_W Tryz.func14 rfl rfl rfl rfl ?_
 cases o1 with
 | some x =>
  obtain ⟨⟨p1, p2, p3⟩, e⟩ := x
  have hb : (!decide (e = 0)) = true := by rw [decide_eq_false (hne rfl)]; rfl
  rw [show (some ((⟨p1, p2, p3⟩ : DPlace), e)).isSome = true from rfl]
  simp only [if_true]
  simp only [ptV, plV, DPlace.enc] at hac
  refine W_nil 3 1 ?_
  repeat (first | (apply RL_pu; rfl; exact PuInF0) | (refine js ?_; (first | (refine callE hac ?_) | (refine bx ?_; intro bk))) | refine walk1 ?_)
  exact ret_1 _ [.row (.slice none 0 0) 3 1 0 []] (.tmp rfl) SOA ⟨none, 0, rfl, rfl⟩
 | none =>
  simp only [Option.isSome_none, Bool.false_eq_true, if_false]
  simp only [ptV, plV, DPlace.enc] at hac
  repeat (first | (refine js ?_; (first | (refine callE hac ?_) | (refine bx ?_; intro bk))) | refine walk ?_)
  obtain ⟨b3, hb3⟩ : ∃ b3, bk = b3 := ⟨_, rfl⟩
  rw [hb3]
  clear hb3 bk
  obtain ⟨b1, hb1⟩ : ∃ b1, bk = b1 := ⟨_, rfl⟩
  rw [hb1]
  clear hb1 bk
  refine W_nil 3 1 ?_
  refine W_loopF [(1, .pointer (some ⟨b1, 0, none⟩))] [.blk b1 [.slice Ar a.rules.length cr, .slice Az a.zones.length cz, .slice Al a.links.length cl, .slice As a.shifts.length cs] 31] (fun g : FoG => [(5, .slice g.A g.m g.c), (6, .int .i64 ((g.k : Int) + 1))]) (fun g => [.row (.slice g.A g.m g.c) 3 1 g.m g.ys])
   (fun g => g.k ≤ 3 ∧ g.m ≤ g.k ∧ g.m = g.acc.length ∧ g.ys = g.acc.flatMap iEnc ∧ g.acc = (([1, 2, 3] : List Int).take g.k).filter (okF a)) (fun g => 3 - g.k) ⟨0, none, 0, 0, [], []⟩ SFA SOA ⟨Nat.zero_le _, Nat.le_refl _, rfl, rfl, rfl⟩ ?_
  rintro ⟨k, A1, c1, m, ys, acc⟩ ⟨hk, hmk, hm, hy, hi⟩
  dsimp only at hk hmk hm hy hi ⊢
  by_cases hk3 : k < 3
  ·have b3 : decide ((k : Int) + 1 ≤ 3) = true := decide_eq_true (by omega)
   have hg := f123 hk3
   have hva := hvf ((k : Int) + 1)
   have htk : (([1, 2, 3] : List Int).take (k + 1)).filter (okF a) = acc ++ (if okF a ((k : Int) + 1) then [(k : Int) + 1] else []) := by
    rw [List.take_add_one, hg, List.filter_append, ← hi]
    congr 1
    simp only [Option.toList, List.filter_cons, List.filter_nil]
   rw [show okF a ((k : Int) + 1) = (varFault ((k : Int) + 1) a).isNone from rfl] at htk
   cases hv : varFault ((k : Int) + 1) a with
   | none =>
    rw [hv] at hva htk
    simp only [ptV, plV, DPlace.enc] at hva
    repeat (first | (apply RL_pu; rfl; exact PuInF3) | (refine js ?_; (first | (refine callE hva ?_) | (apply Stp_append; rfl; rfl; (intro A' c'; (focus repeat' constructor)); (intro w' _ hO; exact blkRaw (hO.of (by repeat' constructor))); rfl; rfl; (simp only [maxLen]; omega); omega; intro A' c' hc1 hc2 hc3) | (refine bx ?_; intro bk))) | refine walk1 ?_)
    refine ⟨⟨k + 1, A', c', m + 1, ys ++ [.int .i64 ((k : Int) + 1)], acc ++ [(k : Int) + 1]⟩, OA, ⟨OA, OA, by simp [hm], by rw [hy]; simp [iEnc], by dsimp only; rw [htk]; simp⟩, ?_, SOA⟩
    exact SFA
   | some x =>
    obtain ⟨⟨p1, p2, p3⟩, e⟩ := x
    have be : decide (e = 0) = false := decide_eq_false (varFault_ne hv)
    rw [hv] at hva htk
    simp only [ptV, plV, DPlace.enc] at hva
    repeat (first | (apply RL_pu; rfl; (first | exact PuInF3 | (apply Pu_eqlB; rfl; rfl; exact be))) | (refine js ?_; (first | (refine callE hva ?_) | (refine bx ?_; intro bk))) | refine walk1 ?_)
    refine ⟨⟨k + 1, A1, c1, m, ys, acc⟩, OA, ⟨OA, OA, hm, hy, by dsimp only; rw [htk]; simp⟩, ?_, SOA⟩
    exact SFA
  ·obtain rfl : k = 3 := by omega
   have b3 : decide (((3 : Nat) : Int) + 1 ≤ 3) = false := by decide
   subst hm hy
   repeat (first | (apply RL_pu; rfl; exact PuInF3) | (refine js ?_; (refine bx ?_; intro bk)) | refine walk1 ?_)
   exact ret_1 _ [.row (.slice A1 acc.length c1) 3 1 acc.length (acc.flatMap iEnc)] (.tmp rfl) SOA (by rw [show ([1, 2, 3].filter fun f => (varFault f a).isNone) = acc from hi.symm]; exact ⟨A1, c1, rfl, rfl⟩)
end Go.Proofs.YtbjkhnlnedfceaaGreatDoor
namespace Go.Proofs.YtbjkhnlnedfceaaGreatDoor
open Go Go.RowKit Go.Wk
structure SmE (e : DEra) : Prop where
 set : e.set.size ≤ 100
 fmt : e.format.size ≤ 100
 off : -1000000 ≤ e.off ∧ e.off ≤ 1000000
 save : -1000000 ≤ e.save ∧ e.save ≤ 1000000
 kind : -1000000 ≤ e.kind ∧ e.kind ≤ 1000000
structure Sml (s : DSource) : Prop where
 nr : s.rules.length ≤ 100
 nz : s.zones.length ≤ 100
 nl : s.links.length ≤ 100
 ns : s.shifts.length ≤ 100
 rs : ∀ r ∈ s.rules, r.name.size ≤ 100 ∧ r.letter.size ≤ 100 ∧ -1000000 ≤ r.save ∧ r.save ≤ 1000000
 zs : ∀ z ∈ s.zones, z.name.size ≤ 100 ∧ z.eras.length ≤ 100 ∧ ∀ e ∈ z.eras, SmE e
 ls : ∀ l ∈ s.links, l.target.size ≤ 100 ∧ l.name.size ≤ 100
theorem Sml.acc {w : World} {Ar Az Al As : Option Addr} {cr cz cl cs : Nat} {a : DSource} (h : Sml a) (hL : LibW w) (hG : Glob w) (hA : RdSource w Ar Az Al As cr cz cl cs a) : AccOk w Ar Az Al As cr cz cl cs a where
 L := hL
 G := hG
 A := hA
 S := ⟨by have := h.nr; omega, by have := h.nz; omega, by have := h.nl; omega, by have := h.ns; omega, fun r hr => by obtain ⟨h1, h2, _⟩ := h.rs r hr; omega, fun z hz => by
  obtain ⟨h1, h2, h3⟩ := h.zs z hz
  exact ⟨by omega, by omega, fun e he => by have h4 := (h3 e he).set; have h5 := (h3 e he).fmt; omega⟩, fun l hl => by obtain ⟨h1, h2⟩ := h.ls l hl; omega⟩
 V := fun r hr => by obtain ⟨_, _, h1, h2⟩ := h.rs r hr; omega
 Z := fun z hz e he => by
  have h1 := (h.zs z hz).2.2 e he
  have h2 := h1.off
  have h3 := h1.save
  have h4 := h1.kind
  have h5 := h1.fmt
  exact ⟨by unfold I64; omega, by unfold I64; omega, by unfold I64; omega, by omega⟩
theorem setN_size (j : Nat) : (setN25.getD j ByteArray.empty).size ≤ 100 := by
 rcases j with _ | _ | j
 ·decide
 ·decide
 ·exact Nat.zero_le _
theorem zoneN_size (j : Nat) : (zoneN25.getD j ByteArray.empty).size ≤ 100 := by
 rcases j with _ | _ | _ | j
 ·decide
 ·decide
 ·decide
 ·exact Nat.zero_le _
theorem linkN_size (j : Nat) : (linkN25.getD j ByteArray.empty).size ≤ 100 := by
 rcases j with _ | _ | _ | j
 ·decide
 ·decide
 ·decide
 ·exact Nat.zero_le _
theorem made25_dr (d : DDr) : ∀ r ∈ (made25 d).rules, DrRule r ∧ r.name.size ≤ 100 := fun r hr => by
 obtain ⟨j, h1, h2⟩ := rules25_names d.sets d.made r hr
 have hS := (rules25_set d.sets d.made (Nat.min_le_right _ _) j h1).1
 exact ⟨hS.rule r (List.mem_filter.2 ⟨hr, decide_eq_true h2⟩), h2 ▸ setN_size j⟩
theorem let_size {x : ByteArray} (h : x ∈ [ByteArray.empty, (⟨#[83]⟩ : ByteArray), ⟨#[68]⟩, ⟨#[68, 84]⟩]) : x.size ≤ 100 := by
 have : ∀ x ∈ [ByteArray.empty, (⟨#[83]⟩ : ByteArray), ⟨#[68]⟩, ⟨#[68, 84]⟩], x.size ≤ 100 := by decide
 exact this x h
theorem fmt_size {f : ByteArray} (h : f ∈ fmtU) : f.size ≤ 100 := by
 have h1 : ∀ f ∈ fmtU, f.size ≤ 100 := by decide
 exact h1 f h
theorem DrEra.sm {rs : List DRule} {e : DEra} {first : Bool} (h : DrEra rs e first) (hn : ∀ r ∈ rs, r.name.size ≤ 100) : SmE e := by
 refine ⟨?_, fmt_size h.fmt, ?_, ?_, ?_⟩
 ·rcases h with ⟨_, _, h, _⟩ | ⟨_, _, h, _⟩ | ⟨_, _, _, _, _, _, h, _⟩
  ·rw [h]; exact Nat.zero_le _
  ·rw [h]; exact Nat.zero_le _
  ·obtain ⟨_, _, _, ⟨r, hr, _⟩, _⟩ := h.saves
   obtain ⟨h1, h2⟩ := List.mem_filter.1 hr
   have h3 : r.name = e.set := by simpa using h2
   rw [← h3]
   exact hn r h1
 ·rcases h with ⟨_, _, _, h1, h2, _⟩ | ⟨_, _, _, h1, h2, _⟩ | ⟨_, _, _, h1, h2, _⟩ <;> omega
 ·rcases h with ⟨_, h1, _⟩ | ⟨_, h1, _⟩ | ⟨_, _, h1, _⟩ <;> omega
 ·rcases h with ⟨h1, _⟩ | ⟨h1, _⟩ | ⟨h1, _⟩ <;> omega
theorem lks_size (nz : Nat) (c : Nat → Nat) : ∀ n, ∀ l ∈ lks nz c n, l.target.size ≤ 100 ∧ l.name.size ≤ 100
 | 0, l, h => by cases h
 | n + 1, l, h => by
  rw [lks, List.mem_append, List.mem_singleton] at h
  rcases h with h | rfl
  ·exact lks_size nz c n l h
  ·refine ⟨?_, linkN_size n⟩
   show (lkT nz (c n) n).size ≤ 100
   unfold lkT
   split
   ·exact zoneN_size _
   ·exact linkN_size _
theorem zns_name : ∀ n, ∀ z ∈ zns n, z.name.size ≤ 100
 | 0, z, h => by cases h
 | n + 1, z, h => by
  rw [zns, List.mem_append, List.mem_singleton] at h
  rcases h with h | rfl
  ·exact zns_name n z h
  ·exact zoneN_size n
theorem made25_sml (d : DDr) : Sml (made25 d) := by
 have hm : d.made ≤ 2 := Nat.min_le_right _ _
 have hz3 : d.nz ≤ 3 := by unfold DDr.nz; omega
 have hl3 : d.nl ≤ 3 := by unfold DDr.nl; omega
 have h1 := rules25_len d.sets d.made
 have h2 := (zones25_rng d.L d.made d.nz).1
 have h3 := (links25_rng d.L (zones25 d.L d.made d.nz).1 (zones25 d.L d.made d.nz).2 d.nl).1
 have hb := zones25_bare d.L d.made d.nz
 refine ⟨?_, ?_, ?_, ?_, ?_, ?_, ?_⟩
 ·show (rules25 d.sets d.made).length ≤ 100
  omega
 ·show (zones25 d.L d.made d.nz).1.length ≤ 100
  omega
 ·unfold made25
  dsimp only
  split
  ·exact Nat.zero_le _
  ·omega
 ·exact Nat.zero_le _
 ·intro r hr
  obtain ⟨q1, q2⟩ := made25_dr d r hr
  have := q1.save
  exact ⟨q2, let_size q1.letter, by omega, by omega⟩
 ·intro z hz
  obtain ⟨Y, hY⟩ := made25_zones d z hz
  have hl := hY.len
  refine ⟨?_, by omega, fun e he => ?_⟩
  ·refine zns_name d.nz (bare' z) ?_
   rw [← hb]
   exact List.mem_map_of_mem hz
  ·obtain ⟨k, hk⟩ := List.getElem?_of_mem he
   exact (hY.era k e hk).sm fun r hr => (made25_dr d r hr).2
 ·by_cases h0 : d.nz = 0
  ·have : (made25 d).links = [] := by
    show (if d.nz = 0 then _ else _) = _
    rw [if_pos h0]
   rw [this]
   exact fun l hl => by cases hl
  ·obtain ⟨c, _, _, h4⟩ := links25_lks d.L _ d.nz hb (by omega) hz3 (zones25 d.L d.made d.nz).2 d.nl
   have : (made25 d).links = lks d.nz c d.nl := by
    show (if d.nz = 0 then _ else _) = _
    rw [if_neg h0, h4]
   rw [this]
   exact lks_size _ _ _
theorem Sml.shift {a : DSource} (h : Sml a) (x : ByteArray) : Sml { a with shifts := [x] } := ⟨h.nr, h.nz, h.nl, by show 1 ≤ 100; decide, h.rs, h.zs, h.ls⟩
end Go.Proofs.YtbjkhnlnedfceaaGreatDoor
namespace Go.Wk
open Go Go.RowKit
theorem Pu_eqlEB {P : Program} {n : Nat} {wr : World} {fr : Fr} {O : List It} {ty t t' : TypeId} {α : Type} [DecidableEq α] {enc : α → List Value} {x y : Operand} {i j : α} {b : Bool} [hE : EqE P t α enc] (hx : ev fr x = some (.agg (enc i).toArray)) (hy : ev fr y = some (.agg (enc j).toArray)) (h : decide (i = j) = b) :
  Pu P n wr fr O (.binOp .eql t x y t') ty (.bool b) := h ▸ Pu_eqlE hx hy
end Go.Wk
namespace Go.Proofs.YtbjkhnlnedfceaaGreatDoor
open Go Go.RowKit Go.Wk
attribute [local irreducible] W RL Does thenQ blockQ retQ Calls Pu Stp RD Qy Ay DoesIn
def ptP : Option (DPlace × Int) → DPlace × Int
 | none => (⟨0, 0, 0⟩, 0)
 | some x => x
theorem ptV_eq (o : Option (DPlace × Int)) : ptV o = .tuple #[plV (ptP o).1, .int .i64 (ptP o).2] := by cases o <;> rfl
def faultB (a : DSource) (q : DPlace) (e : Int) : Bool := decide ((ptP (accD a)).1 = q) && (decide ((ptP (accD a)).2 = e) && (decide ((ptP (inD a 2)).1 = q) && (decide ((ptP (inD a 2)).2 = e) && decide ((formsD a).length = 0))))
theorem fault25_spec (Ar Az Al As : Option Addr) (cr cz cl cs : Nat) (a : DSource) (q : DPlace) (e : Int) (w : World) (h : AccOk w Ar Az Al As cr cz cl cs a) :
  Does Tryz.prog 17 [srcV Ar Az Al As cr cz cl cs a, .agg q.enc.toArray, .int .i64 e] w (fun v O => v = .bool (faultB a q e) ∧ O = []) := by
 have h1 := fun w' (hw : Bel w.heap.size w w') => accS (h.up hw)
 have h2 := fun w' (hw : Bel w.heap.size w w') => inA_spec Ar Az Al As cr cz cl cs a 2 w' (h.up hw)
 have h3 := fun w' (hw : Bel w.heap.size w w') => formsA_spec Ar Az Al As cr cz cl cs a w' (h.up hw)
 unfold faultB
 rw [ptV_eq] at h1 h2
 generalize ptP (accD a) = x1 at *
 generalize ptP (inD a 2) = x2 at *
 generalize formsD a = fs at *
 obtain ⟨⟨p1, p2, p3⟩, e1⟩ := x1
 obtain ⟨⟨q1, q2, q3⟩, e2⟩ := x2
 obtain ⟨r1, r2, r3⟩ := q
 dsimp only at h1 h2 ⊢
 obtain ⟨c1, hc1⟩ : ∃ c, decide ((⟨p1, p2, p3⟩ : DPlace) = ⟨r1, r2, r3⟩) = c := ⟨_, rfl⟩
 obtain ⟨c2, hc2⟩ : ∃ c, decide (e1 = e) = c := ⟨_, rfl⟩
 obtain ⟨c3, hc3⟩ : ∃ c, decide ((⟨q1, q2, q3⟩ : DPlace) = ⟨r1, r2, r3⟩) = c := ⟨_, rfl⟩
 obtain ⟨c4, hc4⟩ : ∃ c, decide (e2 = e) = c := ⟨_, rfl⟩
 obtain ⟨c5, hc5⟩ : ∃ c, decide (fs.length = 0) = c := ⟨_, rfl⟩
 have hc5' : decide ((fs.length : Int) = 0) = c5 := by rw [← hc5, decide_eq_decide]; omega
 rw [hc1, hc2, hc3, hc4, hc5]
 simp only [plV, DPlace.enc] at h1 h2 ⊢
 refine Does_of_W Tryz.func17 rfl rfl rfl rfl ?_
 repeat' (first | (apply RL_pu; rfl; (first | (apply Pu_eqlEB (i := (⟨p1, p2, p3⟩ : DPlace)) (j := (⟨r1, r2, r3⟩ : DPlace)) (enc := DPlace.enc); rfl; rfl; exact hc1) | (apply Pu_eqlEB (i := (⟨q1, q2, q3⟩ : DPlace)) (j := (⟨r1, r2, r3⟩ : DPlace)) (enc := DPlace.enc); rfl; rfl; exact hc3) | (apply Pu_eqlB; rfl; rfl; exact hc2) | (apply Pu_eqlB; rfl; rfl; exact hc4) | (apply Pu_eqlB; rfl; rfl; exact hc5'))) | (refine js ?_; (first | (refine callE h1 ?_) | (refine callE h2 ?_) | (apply Stp_call (h := fun w' hw _ => h3 w' hw); rfl; rintro v O' ⟨A3, k3, rfl, rfl⟩) | (refine bx ?_; intro bk))) | refine walk1 ?_ | refine und ?_ | (refine RL_gsplit rfl rfl rfl (fun hc => ?_) (fun hc => ?_)) | (refine RD_gsplit rfl rfl rfl (fun hc => ?_) (fun hc => ?_)) | (refine W_cond rfl (fun hc => ?_) (fun hc => ?_)))
 all_goals exact clo1
end Go.Proofs.YtbjkhnlnedfceaaGreatDoor
