/- Contract: variant.Check. Contracts: accept.In, Forms. Contract: analemmalaw25.fault. Contract: analemmalaw25.example. Contract: AcceptMany$1. -/
import Derived.Test.YtbffjibfcgcoeaaGreatDoorQ34
import Derived.Test.YtbffjibfcgcoeaaGreatDoorQ10
set_option linter.unusedVariables false
set_option linter.unusedSimpArgs false
namespace Go.Proofs.YtbffjibfcgcoeaaGreatDoor
open Go Go.RowKit Go.Wk
attribute [local irreducible] W RL Does thenQ blockQ retQ Calls Pu Stp RD Qy Ay DoesIn
theorem cellUp {w w' : World} {b j : Nat} {cs : List Value} {v : Value} (h : CellsAt w ⟨b, 0, none⟩ cs) (hw : Bel w.heap.size w w') (hv : cs[j]? = some v) : w'.cell? ((⟨b, 0, none⟩ : Addr).add j) = some v :=
  (hw.cell (World.block_lt_of_cell? w _ (h j v hv))).trans (h j v hv)
set_option maxHeartbeats 2000000 in
theorem varC_gen (Ar Az Al As : Option Addr) (cr cz cl cs : Nat) (a : DSource) (f : Int) (nm : ByteArray) (a1 a2 a3 a4 : Bool) (w : World) (hL : LibW w) (hA : RdSource w Ar Az Al As cr cz cl cs a) (hS : SrcOk a) (hZ : ∀ z ∈ a.zones, ∀ e ∈ z.eras, e.format.size ≤ 1000000000)
    (hof : ∀ w', Bel w.heap.size w w' → Does Tryz.prog 125 [.int .i64 f] w' (fun v O => v = .tuple #[.agg #[.string nm, .bool a1, .bool a2, .bool a3, .bool a4], .bool true] ∧ O = [])) :
    Does Tryz.prog 57 [srcV Ar Az Al As cr cz cl cs a, .int .i64 f] w (fun v O => v = ptV (vfG a1 a2 a3 a4 a) ∧ O = []) := by
  have hnz := hS.nz
  have hns := hS.ns
  have hru : ∀ b6 w', Bel w.heap.size w w' → CellsAt w' ⟨b6, 0, none⟩ [.string nm, .bool a1, .bool a2, .bool a3, .bool a4] → Does Tryz.prog 62 [.slice Ar a.rules.length cr, .func (.func 126) #[] #[.pointer (some ⟨b6, 0, none⟩)]] w' (fun v O => v = .int .i64 (findI (negB a1) a.rules 0) ∧ O = []) :=
    fun b6 w' hw h6 => indexFunc_spec Ar cr a.rules 126 [] [.pointer (some ⟨b6, 0, none⟩)] (negB a1) w' (hA.up hw).r fun r w2 hw2 => var1_spec r ⟨b6, 0, none⟩ a1 w2 (cellUp h6 hw2 rfl)
  rw [findI_idx] at hru
  unfold vfG
  generalize a.rules.findIdx? (negB a1) = ri at *
  refine Does_of_W Tryz.func57 rfl rfl rfl rfl ?_
  cases ri with
  | some i =>
    dsimp only at hru ⊢
    rw [Nat.zero_add] at hru
    have b0 : decide ((0 : Int) ≤ (i : Int)) = true := decide_eq_true (by omega)
    simp only [ptV, plV, DPlace.enc]
    repeat (first | (apply RL_pu; rfl; (apply Pu_geqB; rfl; rfl; exact b0)) | (apply RL_st0; (first | (apply Stp_call (h := fun w' hw _ => hof w' hw); rfl; rintro v O' ⟨rfl, rfl⟩) | (apply Stp_call (h := fun w' hw hO => hru _ w' hw (hO.cells (by (focus repeat' constructor)))); rfl; rintro v O' ⟨rfl, rfl⟩))) | (apply RL_st; rfl; (first | (apply Stp_call (h := fun w' hw _ => hof w' hw); rfl; rintro v O' ⟨rfl, rfl⟩) | (apply Stp_call (h := fun w' hw hO => hru _ w' hw (hO.cells (by (focus repeat' constructor)))); rfl; rintro v O' ⟨rfl, rfl⟩) | (apply Stp_boxNf; rfl; (focus repeat (first | exact Nf.nil | apply Nf.cons)); intro bk) | (apply Stp_alloc; intro bk))) | refine walk1 ?_)
    exact ret_2 _ _ [] (.cellB rfl (by (focus repeat' constructor)) rfl rfl) (.tmp rfl) .nil ⟨rfl, rfl⟩
  | none =>
    dsimp only at hru ⊢
    obtain ⟨zr, hzr⟩ : ∃ zr, zGo a2 a3 a.zones 0 = zr := ⟨_, rfl⟩
    rw [hzr]
    repeat (first | (apply RL_st0; (first | (apply Stp_call (h := fun w' hw _ => hof w' hw); rfl; rintro v O' ⟨rfl, rfl⟩) | (apply Stp_call (h := fun w' hw hO => hru _ w' hw (hO.cells (by (focus repeat' constructor)))); rfl; rintro v O' ⟨rfl, rfl⟩))) | (apply RL_st; rfl; (first | (apply Stp_call (h := fun w' hw _ => hof w' hw); rfl; rintro v O' ⟨rfl, rfl⟩) | (apply Stp_call (h := fun w' hw hO => hru _ w' hw (hO.cells (by (focus repeat' constructor)))); rfl; rintro v O' ⟨rfl, rfl⟩) | (apply Stp_boxNf; rfl; (focus repeat (first | exact Nf.nil | apply Nf.cons)); intro bk) | (apply Stp_alloc; intro bk))) | refine walk ?_)
    obtain ⟨b6, hb6⟩ : ∃ b6, bk = b6 := ⟨_, rfl⟩
    rw [hb6]
    clear hb6 bk
    obtain ⟨b4, hb4⟩ : ∃ b4, bk = b4 := ⟨_, rfl⟩
    rw [hb4]
    clear hb4 bk
    obtain ⟨b2, hb2⟩ : ∃ b2, bk = b2 := ⟨_, rfl⟩
    rw [hb2]
    clear hb2 bk
    refine W_loopF [(2, .pointer (some ⟨b2, 0, none⟩)), (4, .pointer (some ⟨b4, 0, none⟩)), (6, .pointer (some ⟨b6, 0, none⟩)), (9, .func (.func 127) #[] #[.pointer (some ⟨b6, 0, none⟩)]), (31, .slice Az a.zones.length cz), (32, .int .i64 a.zones.length)] [.blk b6 [.string nm, .bool a1, .bool a2, .bool a3, .bool a4] 154, .blk b4 [.int .i64 0, .int .i64 0, .int .i64 0] 31, .blk b2 [.slice Ar a.rules.length cr, .slice Az a.zones.length cz, .slice Al a.links.length cl, .slice As a.shifts.length cs] 27]
      (fun k : Nat => [(33, .int .i64 k)]) (fun _ => []) (fun k => k ≤ a.zones.length ∧ zGo a2 a3 (a.zones.drop k) k = zr) (fun k => a.zones.length - k) 0 (by repeat (first | exact trivial | refine ⟨rfl, ?_⟩)) (by first | exact .refl _ | focus repeat (first | exact SubO.nil | (apply SubO.cons; focus repeat' constructor))) ⟨Nat.zero_le _, hzr⟩ ?_
    clear hzr
    rintro i ⟨hil, hi⟩
    repeat (first | (apply RL_st; rfl; (first | (apply Stp_boxNf; rfl; (focus repeat (first | exact Nf.nil | apply Nf.cons)); intro bk) | (apply Stp_alloc; intro bk))) | refine walk ?_)
    refine W_cond rfl (fun hc => ?_) (fun hc => ?_)
    · simp only [decide_eq_true_eq, Int.ofNat_lt] at hc
      obtain ⟨hna, cs1, ⟨Ae, ce, hEz, rfl⟩, hca⟩ := hA.z i _ (List.getElem?_eq_getElem hc)
      have hmem := List.getElem_mem hc
      rw [drop_cons hc, zGo] at hi
      generalize a.zones[i] = z at *
      have her : ∀ b6 w', Bel w.heap.size w w' → CellsAt w' ⟨b6, 0, none⟩ [.string nm, .bool a1, .bool a2, .bool a3, .bool a4] → Does Tryz.prog 63 [.slice Ae z.eras.length ce, .func (.func 127) #[] #[.pointer (some ⟨b6, 0, none⟩)]] w' (fun v O => v = .int .i64 (findI (wrongB a2 a3) z.eras 0) ∧ O = []) :=
        fun b6 w' hw h6 => indexEr_spec Ae ce z.eras 127 [] [.pointer (some ⟨b6, 0, none⟩)] (wrongB a2 a3) w' (hEz.up hw) fun r hr w2 hw2 => var2_spec r ⟨b6, 0, none⟩ a2 a3 w2 ((hL.up hw).up hw2) (hZ z hmem r hr) (cellUp h6 hw2 rfl) (cellUp h6 hw2 rfl)
      rw [findI_idx] at her
      generalize z.eras.findIdx? (wrongB a2 a3) = ei at *
      cases ei with
      | some j =>
        dsimp only at her hi
        rw [Nat.zero_add] at her
        have b0 : decide ((0 : Int) ≤ (j : Int)) = true := decide_eq_true (by omega)
        subst hi
        simp only [ptV, plV, DPlace.enc]
        repeat (first | (apply RL_pu; rfl; (first | (apply Pu_indexAddr; rfl; rfl; omega; omega; exact hna) | (apply Pu_loadON; rfl; exact hca; rfl) | (apply Pu_geqB; rfl; rfl; exact b0))) | (apply RL_st0; (apply Stp_call (h := fun w' hw hO => her _ w' hw (hO.cells (by (focus repeat' constructor)))); rfl; rintro v O' ⟨rfl, rfl⟩)) | (apply RL_st; rfl; (first | (apply Stp_call (h := fun w' hw hO => her _ w' hw (hO.cells (by (focus repeat' constructor)))); rfl; rintro v O' ⟨rfl, rfl⟩) | (apply Stp_boxNf; rfl; (focus repeat (first | exact Nf.nil | apply Nf.cons)); intro bk) | (apply Stp_alloc; intro bk))) | refine walk1 ?_)
        exact ret_2 _ _ [] (.cellB rfl (by (focus repeat' constructor)) rfl rfl) (.tmp rfl) .nil ⟨rfl, rfl⟩
      | none =>
        dsimp only at her hi
        repeat (first | (apply RL_pu; rfl; (first | (apply Pu_indexAddr; rfl; rfl; omega; omega; exact hna) | (apply Pu_loadON; rfl; exact hca; rfl))) | (apply RL_st0; (apply Stp_call (h := fun w' hw hO => her _ w' hw (hO.cells (by (focus repeat' constructor)))); rfl; rintro v O' ⟨rfl, rfl⟩)) | (apply RL_st; rfl; (first | (apply Stp_call (h := fun w' hw hO => her _ w' hw (hO.cells (by (focus repeat' constructor)))); rfl; rintro v O' ⟨rfl, rfl⟩) | (apply Stp_boxNf; rfl; (focus repeat (first | exact Nf.nil | apply Nf.cons)); intro bk) | (apply Stp_alloc; intro bk))) | refine walk1 ?_)
        exact ⟨i + 1, (by first | omega | (dsimp only; omega)), ⟨(by first | omega | (dsimp only; omega)), hi⟩, (by repeat (first | exact trivial | refine ⟨rfl, ?_⟩)), (by first | exact .refl _ | focus repeat (first | exact SubO.nil | (apply SubO.cons; focus repeat' constructor)))⟩
    · simp only [decide_eq_false_iff_not, Int.ofNat_lt] at hc
      rw [List.drop_eq_nil_of_le (by omega), zGo] at hi
      subst hi
      dsimp only
      by_cases hsn : 0 < a.shifts.length
      · have bs : decide ((0 : Int) < a.shifts.length) = true := decide_eq_true (by omega)
        cases a4 with
        | false =>
          rw [if_pos ⟨hsn, rfl⟩]
          simp only [ptV, plV, DPlace.enc]
          repeat (first | (apply RL_pu; rfl; (apply Pu_gtrB; rfl; rfl; exact bs)) | (apply RL_st; rfl; (first | (apply Stp_boxNf; rfl; (focus repeat (first | exact Nf.nil | apply Nf.cons)); intro bk) | (apply Stp_alloc; intro bk))) | refine walk1 ?_)
          exact ret_2 _ _ [] (.cellB rfl (by (focus repeat' constructor)) rfl rfl) (.tmp rfl) .nil ⟨rfl, rfl⟩
        | true =>
          rw [if_neg (by rintro ⟨_, h⟩; cases h)]
          repeat (first | (apply RL_pu; rfl; (apply Pu_gtrB; rfl; rfl; exact bs)) | (apply RL_st; rfl; (first | (apply Stp_boxNf; rfl; (focus repeat (first | exact Nf.nil | apply Nf.cons)); intro bk) | (apply Stp_alloc; intro bk))) | refine walk1 ?_)
          exact ret_2 _ _ [] (.cellB rfl (by (focus repeat' constructor)) rfl rfl) (.tmp rfl) .nil ⟨rfl, rfl⟩
      · have bs : decide ((0 : Int) < a.shifts.length) = false := decide_eq_false (by omega)
        rw [if_neg (fun h => hsn h.1)]
        repeat (first | (apply RL_pu; rfl; (apply Pu_gtrB; rfl; rfl; exact bs)) | (apply RL_st; rfl; (first | (apply Stp_boxNf; rfl; (focus repeat (first | exact Nf.nil | apply Nf.cons)); intro bk) | (apply Stp_alloc; intro bk))) | refine walk1 ?_)
        exact ret_2 _ _ [] (.cellB rfl (by (focus repeat' constructor)) rfl rfl) (.tmp rfl) .nil ⟨rfl, rfl⟩
theorem varC_spec (Ar Az Al As : Option Addr) (cr cz cl cs : Nat) (a : DSource) (f : Int) (w : World) (hL : LibW w) (hG : Glob w) (hA : RdSource w Ar Az Al As cr cz cl cs a) (hS : SrcOk a) (hZ : ∀ z ∈ a.zones, ∀ e ∈ z.eras, e.format.size ≤ 1000000000) :
    Does Tryz.prog 57 [srcV Ar Az Al As cr cz cl cs a, .int .i64 f] w (fun v O => v = ptV (varFault f a) ∧ O = []) := by
  by_cases hb : f < 1 ∨ 3 < f
  · have hof := fun w' => of_bad f hb w'
    unfold varFault
    rw [if_pos hb]
    simp only [ptV, plV, DPlace.enc]
    refine Does_of_W Tryz.func57 rfl rfl rfl rfl ?_
    repeat (first | (apply RL_st0; (apply Stp_call (h := fun w' hw _ => hof w'); rfl; rintro v O' ⟨rfl, rfl⟩)) | (apply RL_st; rfl; (first | (apply Stp_call (h := fun w' hw _ => hof w'); rfl; rintro v O' ⟨rfl, rfl⟩) | (apply Stp_boxNf; rfl; (focus repeat (first | exact Nf.nil | apply Nf.cons)); intro bk) | (apply Stp_alloc; intro bk))) | refine walk ?_)
    exact ret_2 _ _ [] (.cellB rfl (by (focus repeat' constructor)) rfl rfl) (.tmp rfl) .nil ⟨rfl, rfl⟩
  · obtain rfl | rfl | rfl : f = 1 ∨ f = 2 ∨ f = 3 := by omega
    · rw [vf_1]
      exact varC_gen Ar Az Al As cr cz cl cs a 1 _ _ _ _ _ w hL hA hS hZ fun w' hw => of_1 w' (hG.up hw)
    · rw [vf_2]
      exact varC_gen Ar Az Al As cr cz cl cs a 2 _ _ _ _ _ w hL hA hS hZ fun w' hw => of_2 w' (hG.up hw)
    · rw [vf_3]
      exact varC_gen Ar Az Al As cr cz cl cs a 3 _ _ _ _ _ w hL hA hS hZ fun w' hw => of_3 w' (hG.up hw)
end Go.Proofs.YtbffjibfcgcoeaaGreatDoor

namespace Go.Proofs.YtbffjibfcgcoeaaGreatDoor
open Go Go.RowKit Go.Wk
attribute [local irreducible] W RL Does thenQ blockQ retQ Calls Pu Stp RD Qy Ay DoesIn
theorem accD_ne {s : DSource} {p : DPlace} {e : Int} (h : accD s = some (p, e)) : e ≠ 0 := by
  unfold accD at h
  cases h1 : sizesD s with
  | some x => rw [h1] at h; simp only [Option.some_or, Option.some.injEq] at h; subst h; exact sizesD_ne h1
  | none =>
    rw [h1, Option.none_or] at h
    cases h2 : setsD s with
    | some x => rw [h2] at h; simp only [Option.some_or, Option.some.injEq] at h; subst h; exact setsGo_ne _ _ h2
    | none =>
      rw [h2, Option.none_or] at h
      cases h3 : shiftsGo s s.shifts [] 0 with
      | some x => rw [h3] at h; simp only [Option.some_or, Option.some.injEq] at h; subst h; exact shiftsGo_ne _ _ _ _ h3
      | none =>
        rw [h3, Option.none_or] at h
        cases h4 : linksD s with
        | some x => rw [h4] at h; simp only [Option.some_or, Option.some.injEq] at h; subst h; exact linksD_ne h4
        | none =>
          rw [h4, Option.none_or] at h
          exact zonesGo_ne _ _ _ h
theorem varFault_ne {f : Int} {s : DSource} {p : DPlace} {e : Int} (h : varFault f s = some (p, e)) : e ≠ 0 := by
  unfold varFault at h
  dsimp only at h
  repeat' split at h
  all_goals first | (simp only [Option.some.injEq, Prod.mk.injEq] at h; omega) | cases h
structure AccOk (w : World) (Ar Az Al As : Option Addr) (cr cz cl cs : Nat) (a : DSource) : Prop where
  L : LibW w
  G : Glob w
  A : RdSource w Ar Az Al As cr cz cl cs a
  S : SrcOk a
  V : SavI a
  Z : ∀ z ∈ a.zones, ∀ e ∈ z.eras, EraOk e
theorem AccOk.up {w w' : World} {Ar Az Al As : Option Addr} {cr cz cl cs : Nat} {a : DSource} (h : AccOk w Ar Az Al As cr cz cl cs a) (hb : Bel w.heap.size w w') : AccOk w' Ar Az Al As cr cz cl cs a :=
  ⟨h.L.up hb, h.G.up hb, h.A.up hb, h.S, h.V, h.Z⟩
theorem accS {w : World} {Ar Az Al As : Option Addr} {cr cz cl cs : Nat} {a : DSource} (h : AccOk w Ar Az Al As cr cz cl cs a) : Does Tryz.prog 12 [srcV Ar Az Al As cr cz cl cs a] w (fun v O => v = ptV (accD a) ∧ O = []) :=
  acc_spec Ar Az Al As cr cz cl cs a w h.L h.G h.A h.S h.V h.Z
theorem varS {w : World} {Ar Az Al As : Option Addr} {cr cz cl cs : Nat} {a : DSource} (h : AccOk w Ar Az Al As cr cz cl cs a) (f : Int) : Does Tryz.prog 57 [srcV Ar Az Al As cr cz cl cs a, .int .i64 f] w (fun v O => v = ptV (varFault f a) ∧ O = []) :=
  varC_spec Ar Az Al As cr cz cl cs a f w h.L h.G h.A h.S fun z hz e he => (h.Z z hz e he).fmt
theorem inA_spec (Ar Az Al As : Option Addr) (cr cz cl cs : Nat) (a : DSource) (f : Int) (w : World) (h : AccOk w Ar Az Al As cr cz cl cs a) :
    Does Tryz.prog 14 [srcV Ar Az Al As cr cz cl cs a, .int .i64 f] w (fun v O => v = ptV (inD a f) ∧ O = []) := by
  have hac := fun w' (hw : Bel w.heap.size w w') => accS (h.up hw)
  have hva := fun w' (hw : Bel w.heap.size w w') => varS (h.up hw) f
  have hne := fun {p e} => @accD_ne a p e
  have hvb : (f < 1 ∨ 3 < f) → varFault f a = some (⟨0, 0, 0⟩, 2) := fun hb => by unfold varFault; rw [if_pos hb]
  unfold inD
  generalize accD a = o1 at *
  generalize varFault f a = o2 at *
  refine Does_of_W Tryz.func14 rfl rfl rfl rfl ?_
  cases o1 with
  | some x =>
    obtain ⟨⟨p1, p2, p3⟩, e⟩ := x
    have hb : (!decide (e = 0)) = true := by rw [decide_eq_false (hne rfl)]; rfl
    simp only [Option.some_or, ptV, plV, DPlace.enc] at hac ⊢
    repeat (first | (apply RL_pu; rfl; (apply Pu_neqB'; rfl; rfl; exact hb)) | (apply RL_st0; (apply Stp_call (h := fun w' hw _ => hac w' hw); rfl; rintro v O' ⟨rfl, rfl⟩)) | (apply RL_st; rfl; (first | (apply Stp_call (h := fun w' hw _ => hac w' hw); rfl; rintro v O' ⟨rfl, rfl⟩) | (apply Stp_boxNf; rfl; (focus repeat (first | exact Nf.nil | apply Nf.cons)); intro bk) | (apply Stp_alloc; intro bk))) | refine walk1 ?_)
    exact ret_2 _ _ [] (.cellB rfl (by (focus repeat' constructor)) rfl rfl) (.tmp rfl) .nil ⟨rfl, rfl⟩
  | none =>
    rw [Option.none_or]
    by_cases h1 : f < 1
    · have b1 : decide (f < 1) = true := decide_eq_true h1
      rw [hvb (.inl h1)]
      simp only [ptV, plV, DPlace.enc] at hac ⊢
      repeat (first | (refine RL_und rfl rfl rfl rfl ?_) | (apply RL_pu; rfl; (apply Pu_lssB; rfl; rfl; exact b1)) | (apply RL_st0; (apply Stp_call (h := fun w' hw _ => hac w' hw); rfl; rintro v O' ⟨rfl, rfl⟩)) | (apply RL_st; rfl; (first | (apply Stp_call (h := fun w' hw _ => hac w' hw); rfl; rintro v O' ⟨rfl, rfl⟩) | (apply Stp_boxNf; rfl; (focus repeat (first | exact Nf.nil | apply Nf.cons)); intro bk) | (apply Stp_alloc; intro bk))) | refine walk1 ?_)
      exact ret_2 _ _ [] (.cellB rfl (by (focus repeat' constructor)) rfl rfl) (.tmp rfl) .nil ⟨rfl, rfl⟩
    have b1 : decide (f < 1) = false := decide_eq_false h1
    by_cases h2 : 3 < f
    · have b2 : decide (3 < f) = true := decide_eq_true h2
      rw [hvb (.inr h2)]
      simp only [ptV, plV, DPlace.enc] at hac ⊢
      repeat (first | (refine RL_und rfl rfl rfl rfl ?_) | (apply RL_pu; rfl; (first | (apply Pu_lssB; rfl; rfl; exact b1) | (apply Pu_gtrB; rfl; rfl; exact b2))) | (apply RL_st0; (apply Stp_call (h := fun w' hw _ => hac w' hw); rfl; rintro v O' ⟨rfl, rfl⟩)) | (apply RL_st; rfl; (first | (apply Stp_call (h := fun w' hw _ => hac w' hw); rfl; rintro v O' ⟨rfl, rfl⟩) | (apply Stp_boxNf; rfl; (focus repeat (first | exact Nf.nil | apply Nf.cons)); intro bk) | (apply Stp_alloc; intro bk))) | refine walk1 ?_)
      exact ret_2 _ _ [] (.cellB rfl (by (focus repeat' constructor)) rfl rfl) (.tmp rfl) .nil ⟨rfl, rfl⟩
    have b2 : decide (3 < f) = false := decide_eq_false h2
    cases o2 with
    | none =>
      simp only [ptV, plV, DPlace.enc] at hac hva ⊢
      repeat (first | (refine RL_und rfl rfl rfl rfl ?_) | (apply RL_pu; rfl; (first | (apply Pu_lssB; rfl; rfl; exact b1) | (apply Pu_gtrB; rfl; rfl; exact b2))) | (apply RL_st0; (first | (apply Stp_call (h := fun w' hw _ => hac w' hw); rfl; rintro v O' ⟨rfl, rfl⟩) | (apply Stp_call (h := fun w' hw _ => hva w' hw); rfl; rintro v O' ⟨rfl, rfl⟩))) | (apply RL_st; rfl; (first | (apply Stp_call (h := fun w' hw _ => hac w' hw); rfl; rintro v O' ⟨rfl, rfl⟩) | (apply Stp_call (h := fun w' hw _ => hva w' hw); rfl; rintro v O' ⟨rfl, rfl⟩) | (apply Stp_boxNf; rfl; (focus repeat (first | exact Nf.nil | apply Nf.cons)); intro bk) | (apply Stp_alloc; intro bk))) | refine walk1 ?_)
      exact ret_2 _ _ [] (.cellB rfl (by (focus repeat' constructor)) rfl rfl) (.tmp rfl) .nil ⟨rfl, rfl⟩
    | some x =>
      obtain ⟨⟨p1, p2, p3⟩, e⟩ := x
      simp only [ptV, plV, DPlace.enc] at hac hva ⊢
      repeat (first | (refine RL_und rfl rfl rfl rfl ?_) | (apply RL_pu; rfl; (first | (apply Pu_lssB; rfl; rfl; exact b1) | (apply Pu_gtrB; rfl; rfl; exact b2))) | (apply RL_st0; (first | (apply Stp_call (h := fun w' hw _ => hac w' hw); rfl; rintro v O' ⟨rfl, rfl⟩) | (apply Stp_call (h := fun w' hw _ => hva w' hw); rfl; rintro v O' ⟨rfl, rfl⟩))) | (apply RL_st; rfl; (first | (apply Stp_call (h := fun w' hw _ => hac w' hw); rfl; rintro v O' ⟨rfl, rfl⟩) | (apply Stp_call (h := fun w' hw _ => hva w' hw); rfl; rintro v O' ⟨rfl, rfl⟩) | (apply Stp_boxNf; rfl; (focus repeat (first | exact Nf.nil | apply Nf.cons)); intro bk) | (apply Stp_alloc; intro bk))) | refine walk1 ?_)
      exact ret_2 _ _ [] (.cellB rfl (by (focus repeat' constructor)) rfl rfl) (.tmp rfl) .nil ⟨rfl, rfl⟩
structure FoG where
  k : Nat
  A : Option Addr
  c : Nat
  m : Nat
  ys : List Value
  acc : List Int
def okF (a : DSource) (f : Int) : Bool := (varFault f a).isNone
theorem f123 {k : Nat} (h : k < 3) : ([1, 2, 3] : List Int)[k]? = some ((k : Int) + 1) := by
  match k, h with
  | 0, _ => rfl
  | 1, _ => rfl
  | 2, _ => rfl
theorem formsA_spec (Ar Az Al As : Option Addr) (cr cz cl cs : Nat) (a : DSource) (w : World) (h : AccOk w Ar Az Al As cr cz cl cs a) :
    Does Tryz.prog 17 [srcV Ar Az Al As cr cz cl cs a] w (NewSl 3 1 iEnc (formsD a)) := by
  have hac := fun w' (hw : Bel w.heap.size w w') => accS (h.up hw)
  have hvf := fun f w' (hw : Bel w.heap.size w w') => varS (h.up hw) f
  have hne := fun {p e} => @accD_ne a p e
  unfold formsD
  generalize accD a = o1 at *
  refine Does_of_W Tryz.func17 rfl rfl rfl rfl ?_
  cases o1 with
  | some x =>
    obtain ⟨⟨p1, p2, p3⟩, e⟩ := x
    have hb : (!decide (e = 0)) = true := by rw [decide_eq_false (hne rfl)]; rfl
    rw [show (some ((⟨p1, p2, p3⟩ : DPlace), e)).isSome = true from rfl]
    simp only [if_true]
    simp only [ptV, plV, DPlace.enc] at hac
    refine W_nil 3 1 ?_
    repeat (first | (apply RL_pu; rfl; (apply Pu_neqB'; rfl; rfl; exact hb)) | (apply RL_st0; (apply Stp_call (h := fun w' hw _ => hac w' hw); rfl; rintro v O' ⟨rfl, rfl⟩)) | (apply RL_st; rfl; (first | (apply Stp_call (h := fun w' hw _ => hac w' hw); rfl; rintro v O' ⟨rfl, rfl⟩) | (apply Stp_boxNf; rfl; (focus repeat (first | exact Nf.nil | apply Nf.cons)); intro bk) | (apply Stp_alloc; intro bk) | (apply Stp_buildSliceC; rfl; rfl; rfl; rfl; (focus repeat (first | exact Nf.nil | apply Nf.cons)); intro bk))) | refine walk1 ?_)
    exact ret_1 _ [.row (.slice none 0 0) 3 1 0 []] (.tmp rfl) (by first | exact .refl _ | focus repeat (first | exact SubO.nil | (apply SubO.cons; focus repeat' constructor))) ⟨none, 0, rfl, rfl⟩
  | none =>
    simp only [Option.isSome_none, Bool.false_eq_true, if_false]
    simp only [ptV, plV, DPlace.enc] at hac
    repeat (first | (apply RL_st0; (apply Stp_call (h := fun w' hw _ => hac w' hw); rfl; rintro v O' ⟨rfl, rfl⟩)) | (apply RL_st; rfl; (first | (apply Stp_call (h := fun w' hw _ => hac w' hw); rfl; rintro v O' ⟨rfl, rfl⟩) | (apply Stp_boxNf; rfl; (focus repeat (first | exact Nf.nil | apply Nf.cons)); intro bk) | (apply Stp_alloc; intro bk) | (apply Stp_buildSliceC; rfl; rfl; rfl; rfl; (focus repeat (first | exact Nf.nil | apply Nf.cons)); intro bk))) | refine walk ?_)
    obtain ⟨b3, hb3⟩ : ∃ b3, bk = b3 := ⟨_, rfl⟩
    rw [hb3]
    clear hb3 bk
    obtain ⟨b1, hb1⟩ : ∃ b1, bk = b1 := ⟨_, rfl⟩
    rw [hb1]
    clear hb1 bk
    refine W_nil 3 1 ?_
    refine W_loopF [(1, .pointer (some ⟨b1, 0, none⟩))] [.blk b1 [.slice Ar a.rules.length cr, .slice Az a.zones.length cz, .slice Al a.links.length cl, .slice As a.shifts.length cs] 27] (fun g : FoG => [(5, .slice g.A g.m g.c), (6, .int .i64 ((g.k : Int) + 1))]) (fun g => [.row (.slice g.A g.m g.c) 3 1 g.m g.ys])
      (fun g => g.k ≤ 3 ∧ g.m ≤ g.k ∧ g.m = g.acc.length ∧ g.ys = g.acc.flatMap iEnc ∧ g.acc = (([1, 2, 3] : List Int).take g.k).filter (okF a)) (fun g => 3 - g.k) ⟨0, none, 0, 0, [], []⟩ (by repeat (first | exact trivial | refine ⟨rfl, ?_⟩)) (by first | exact .refl _ | focus repeat (first | exact SubO.nil | (apply SubO.cons; focus repeat' constructor))) ⟨Nat.zero_le _, Nat.le_refl _, rfl, rfl, rfl⟩ ?_
    rintro ⟨k, A1, c1, m, ys, acc⟩ ⟨hk, hmk, hm, hy, hi⟩
    dsimp only at hk hmk hm hy hi ⊢
    by_cases hk3 : k < 3
    · have b3 : decide ((k : Int) + 1 ≤ 3) = true := decide_eq_true (by omega)
      have hg := f123 hk3
      have hva := hvf ((k : Int) + 1)
      have htk : (([1, 2, 3] : List Int).take (k + 1)).filter (okF a) = acc ++ (if okF a ((k : Int) + 1) then [(k : Int) + 1] else []) := by
        rw [List.take_add_one, hg, List.filter_append, ← hi]
        congr 1
        simp only [Option.toList, List.filter_cons, List.filter_nil]
      rw [show okF a ((k : Int) + 1) = (varFault ((k : Int) + 1) a).isNone from rfl] at htk
      cases hv : varFault ((k : Int) + 1) a with
      | none =>
        rw [hv] at hva htk
        simp only [ptV, plV, DPlace.enc] at hva
        repeat (first | (apply RL_pu; rfl; (first | (apply Pu_leqB; rfl; rfl; exact b3) | (apply Pu_add; rfl; rfl; (constructor <;> omega)))) | (apply RL_st0; (first | (apply Stp_call (h := fun w' hw _ => hva w' hw); rfl; rintro v O' ⟨rfl, rfl⟩) | (apply Stp_append; rfl; rfl; (intro A' c'; (focus repeat' constructor)); (intro w' _ hO; exact blkRaw (hO.of (by (focus repeat' constructor)))); rfl; rfl; (simp only [maxLen]; omega); omega; intro A' c' hc1 hc2 hc3))) | (apply RL_st; rfl; (first | (apply Stp_call (h := fun w' hw _ => hva w' hw); rfl; rintro v O' ⟨rfl, rfl⟩) | (apply Stp_append; rfl; rfl; (intro A' c'; (focus repeat' constructor)); (intro w' _ hO; exact blkRaw (hO.of (by (focus repeat' constructor)))); rfl; rfl; (simp only [maxLen]; omega); omega; intro A' c' hc1 hc2 hc3) | (apply Stp_boxNf; rfl; (focus repeat (first | exact Nf.nil | apply Nf.cons)); intro bk) | (apply Stp_alloc; intro bk) | (apply Stp_buildSliceC; rfl; rfl; rfl; rfl; (focus repeat (first | exact Nf.nil | apply Nf.cons)); intro bk))) | refine walk1 ?_)
        refine ⟨⟨k + 1, A', c', m + 1, ys ++ [.int .i64 ((k : Int) + 1)], acc ++ [(k : Int) + 1]⟩, (by first | omega | (dsimp only; omega)), ⟨(by first | omega | (dsimp only; omega)), (by first | omega | (dsimp only; omega)), by simp [hm], by rw [hy]; simp [iEnc], by dsimp only; rw [htk]; simp⟩, ?_, (by first | exact .refl _ | focus repeat (first | exact SubO.nil | (apply SubO.cons; focus repeat' constructor)))⟩
        exact (by repeat (first | exact trivial | refine ⟨rfl, ?_⟩))
      | some x =>
        obtain ⟨⟨p1, p2, p3⟩, e⟩ := x
        have be : decide (e = 0) = false := decide_eq_false (varFault_ne hv)
        rw [hv] at hva htk
        simp only [ptV, plV, DPlace.enc] at hva
        repeat (first | (apply RL_pu; rfl; (first | (apply Pu_leqB; rfl; rfl; exact b3) | (apply Pu_add; rfl; rfl; (constructor <;> omega)) | (apply Pu_eqlB; rfl; rfl; exact be))) | (apply RL_st0; (apply Stp_call (h := fun w' hw _ => hva w' hw); rfl; rintro v O' ⟨rfl, rfl⟩)) | (apply RL_st; rfl; (first | (apply Stp_call (h := fun w' hw _ => hva w' hw); rfl; rintro v O' ⟨rfl, rfl⟩) | (apply Stp_boxNf; rfl; (focus repeat (first | exact Nf.nil | apply Nf.cons)); intro bk) | (apply Stp_alloc; intro bk) | (apply Stp_buildSliceC; rfl; rfl; rfl; rfl; (focus repeat (first | exact Nf.nil | apply Nf.cons)); intro bk))) | refine walk1 ?_)
        refine ⟨⟨k + 1, A1, c1, m, ys, acc⟩, (by first | omega | (dsimp only; omega)), ⟨(by first | omega | (dsimp only; omega)), (by first | omega | (dsimp only; omega)), hm, hy, by dsimp only; rw [htk]; simp⟩, ?_, (by first | exact .refl _ | focus repeat (first | exact SubO.nil | (apply SubO.cons; focus repeat' constructor)))⟩
        exact (by repeat (first | exact trivial | refine ⟨rfl, ?_⟩))
    · obtain rfl : k = 3 := by omega
      have b3 : decide (((3 : Nat) : Int) + 1 ≤ 3) = false := by decide
      subst hm hy
      repeat (first | (apply RL_pu; rfl; (apply Pu_leqB; rfl; rfl; exact b3)) | (apply RL_st; rfl; (first | (apply Stp_boxNf; rfl; (focus repeat (first | exact Nf.nil | apply Nf.cons)); intro bk) | (apply Stp_alloc; intro bk) | (apply Stp_buildSliceC; rfl; rfl; rfl; rfl; (focus repeat (first | exact Nf.nil | apply Nf.cons)); intro bk))) | refine walk1 ?_)
      exact ret_1 _ [.row (.slice A1 acc.length c1) 3 1 acc.length (acc.flatMap iEnc)] (.tmp rfl) (by first | exact .refl _ | focus repeat (first | exact SubO.nil | (apply SubO.cons; focus repeat' constructor))) (by rw [show ([1, 2, 3].filter fun f => (varFault f a).isNone) = acc from hi.symm]; exact ⟨A1, c1, rfl, rfl⟩)
end Go.Proofs.YtbffjibfcgcoeaaGreatDoor

namespace Go.Wk
open Go Go.RowKit
theorem Pu_eqlEB {P : Program} {n : Nat} {wr : World} {fr : Fr} {O : List It} {ty t t' : TypeId} {α : Type} [DecidableEq α] {enc : α → List Value} {x y : Operand} {i j : α} {b : Bool} [hE : EqE P t α enc] (hx : ev fr x = some (.agg (enc i).toArray)) (hy : ev fr y = some (.agg (enc j).toArray)) (h : decide (i = j) = b) :
    Pu P n wr fr O (.binOp .eql t x y t') ty (.bool b) := h ▸ Pu_eqlE hx hy
end Go.Wk
namespace Go.Proofs.YtbffjibfcgcoeaaGreatDoor
open Go Go.RowKit Go.Wk
attribute [local irreducible] W RL Does thenQ blockQ retQ Calls Pu Stp RD Qy Ay DoesIn
def ptP : Option (DPlace × Int) → DPlace × Int
  | none => (⟨0, 0, 0⟩, 0)
  | some x => x
theorem ptV_eq (o : Option (DPlace × Int)) : ptV o = .tuple #[plV (ptP o).1, .int .i64 (ptP o).2] := by cases o <;> rfl
def faultB (a : DSource) (q : DPlace) (e : Int) : Bool := decide ((ptP (accD a)).1 = q) && (decide ((ptP (accD a)).2 = e) && (decide ((ptP (inD a 2)).1 = q) && (decide ((ptP (inD a 2)).2 = e) && decide ((formsD a).length = 0))))
theorem fault25_spec (Ar Az Al As : Option Addr) (cr cz cl cs : Nat) (a : DSource) (q : DPlace) (e : Int) (w : World) (h : AccOk w Ar Az Al As cr cz cl cs a) :
    Does Tryz.prog 24 [srcV Ar Az Al As cr cz cl cs a, .agg q.enc.toArray, .int .i64 e] w (fun v O => v = .bool (faultB a q e) ∧ O = []) := by
  have h1 := fun w' (hw : Bel w.heap.size w w') => accS (h.up hw)
  have h2 := fun w' (hw : Bel w.heap.size w w') => inA_spec Ar Az Al As cr cz cl cs a 2 w' (h.up hw)
  have h3 := fun w' (hw : Bel w.heap.size w w') => formsA_spec Ar Az Al As cr cz cl cs a w' (h.up hw)
  unfold faultB
  rw [ptV_eq] at h1 h2
  generalize ptP (accD a) = x1 at *
  generalize ptP (inD a 2) = x2 at *
  generalize formsD a = fs at *
  obtain ⟨⟨p1, p2, p3⟩, e1⟩ := x1
  obtain ⟨⟨q1, q2, q3⟩, e2⟩ := x2
  obtain ⟨r1, r2, r3⟩ := q
  dsimp only at h1 h2 ⊢
  obtain ⟨c1, hc1⟩ : ∃ c, decide ((⟨p1, p2, p3⟩ : DPlace) = ⟨r1, r2, r3⟩) = c := ⟨_, rfl⟩
  obtain ⟨c2, hc2⟩ : ∃ c, decide (e1 = e) = c := ⟨_, rfl⟩
  obtain ⟨c3, hc3⟩ : ∃ c, decide ((⟨q1, q2, q3⟩ : DPlace) = ⟨r1, r2, r3⟩) = c := ⟨_, rfl⟩
  obtain ⟨c4, hc4⟩ : ∃ c, decide (e2 = e) = c := ⟨_, rfl⟩
  obtain ⟨c5, hc5⟩ : ∃ c, decide (fs.length = 0) = c := ⟨_, rfl⟩
  have hc5' : decide ((fs.length : Int) = 0) = c5 := by rw [← hc5, decide_eq_decide]; omega
  rw [hc1, hc2, hc3, hc4, hc5]
  simp only [plV, DPlace.enc] at h1 h2 ⊢
  refine Does_of_W Tryz.func24 rfl rfl rfl rfl ?_
  repeat' (first | (apply RL_pu; rfl; (first | (apply Pu_eqlEB (i := (⟨p1, p2, p3⟩ : DPlace)) (j := (⟨r1, r2, r3⟩ : DPlace)) (enc := DPlace.enc); rfl; rfl; exact hc1) | (apply Pu_eqlEB (i := (⟨q1, q2, q3⟩ : DPlace)) (j := (⟨r1, r2, r3⟩ : DPlace)) (enc := DPlace.enc); rfl; rfl; exact hc3) | (apply Pu_eqlB; rfl; rfl; exact hc2) | (apply Pu_eqlB; rfl; rfl; exact hc4) | (apply Pu_eqlB; rfl; rfl; exact hc5'))) | (apply RL_st0; (first | (apply Stp_call (h := fun w' hw _ => h1 w' hw); rfl; rintro v O' ⟨rfl, rfl⟩) | (apply Stp_call (h := fun w' hw _ => h2 w' hw); rfl; rintro v O' ⟨rfl, rfl⟩) | (apply Stp_call (h := fun w' hw _ => h3 w' hw); rfl; rintro v O' ⟨A3, k3, rfl, rfl⟩))) | (apply RL_st; rfl; (first | (apply Stp_call (h := fun w' hw _ => h1 w' hw); rfl; rintro v O' ⟨rfl, rfl⟩) | (apply Stp_call (h := fun w' hw _ => h2 w' hw); rfl; rintro v O' ⟨rfl, rfl⟩) | (apply Stp_call (h := fun w' hw _ => h3 w' hw); rfl; rintro v O' ⟨A3, k3, rfl, rfl⟩) | (apply Stp_boxNf; rfl; (focus repeat (first | exact Nf.nil | apply Nf.cons)); intro bk) | (apply Stp_alloc; intro bk))) | refine walk1 ?_ | (refine RL_und rfl rfl rfl rfl ?_) | (refine RL_gsplit rfl rfl rfl (fun hc => ?_) (fun hc => ?_)) | (refine RD_gsplit rfl rfl rfl (fun hc => ?_) (fun hc => ?_)) | (refine W_cond rfl (fun hc => ?_) (fun hc => ?_)))
  all_goals first | (refine ret_1 _ [] (.tmp rfl) .nil ⟨?_, rfl⟩; first | rfl | (simp only [*, Bool.true_and, Bool.false_and, Bool.true_or, Bool.false_or, Bool.not_true, Bool.not_false]; done) | (simp_all ; done) | (simp_all ; omega) | (simp_all ; rw [Bool.eq_iff_iff]; simp; omega)) | (exfalso; simp_all ; done) | (exfalso; simp_all ; omega) | (exfalso; omega)
end Go.Proofs.YtbffjibfcgcoeaaGreatDoor

namespace Go.Proofs.YtbffjibfcgcoeaaGreatDoor
open Go Go.RowKit Go.Wk
attribute [local irreducible] W RL Does thenQ blockQ retQ Calls Pu Stp RD Qy Ay DoesIn
def exR1 : DRule := ⟨⟨#[82]⟩, 1990, 1048576, 3, ⟨2, 0, 0⟩, ⟨7200, 0⟩, 3600, ByteArray.empty⟩
def exR2 : DRule := ⟨⟨#[82]⟩, 1990, 1048576, 10, ⟨2, 0, 0⟩, ⟨10800, 0⟩, 0, ByteArray.empty⟩
def exE1 : DEra := ⟨3600, 0, 0, ByteArray.empty, ⟨#[76, 77, 84]⟩, ⟨true, 1980, 1, ⟨1, 0, 1⟩, ⟨0, 0⟩⟩⟩
def exE2 : DEra := ⟨3600, 2, 0, ⟨#[82]⟩, ⟨#[67, 69, 84, 47, 67, 69, 83, 84]⟩, ⟨false, 0, 0, ⟨0, 0, 0⟩, ⟨0, 0⟩⟩⟩
def ExR (v : Value) (O : List It) : Prop := ∃ br be bz, v = .agg #[.slice (some ⟨br, 0, none⟩) 2 2, .slice (some ⟨bz, 0, none⟩) 1 1, .slice none 0 0, .slice none 0 0] ∧
  O = [.blk bz [.string ⟨#[90]⟩, .slice (some ⟨be, 0, none⟩) 2 2] 55, .blk be (exE1.enc ++ exE2.enc) 60, .blk br (exR1.enc ++ exR2.enc) 51]
theorem exam25_spec (w : World) : Does Tryz.prog 46 [] w ExR := by
  refine Does_of_W Tryz.func46 rfl rfl rfl rfl ?_
  repeat (first | (apply RL_st; rfl; (first | (apply Stp_alloc; intro bk) | (apply Stp_buildSliceC; rfl; rfl; rfl; rfl; (focus repeat (first | exact Nf.nil | apply Nf.cons)); intro bk))) | refine walk ?_)
  rename_i br be
  exact ret_1 _ [.blk bk [.string ⟨#[90]⟩, .slice (some ⟨be, 0, none⟩) 2 2] 55, .blk be (exE1.enc ++ exE2.enc) 60, .blk br (exR1.enc ++ exR2.enc) 51] (.cellB rfl (by (focus repeat' constructor)) rfl rfl) (by first | exact .refl _ | focus repeat (first | exact SubO.nil | (apply SubO.cons; focus repeat' constructor))) ⟨br, be, bk, rfl, rfl⟩
end Go.Proofs.YtbffjibfcgcoeaaGreatDoor

namespace Go.Proofs.YtbffjibfcgcoeaaGreatDoor
open Go Go.RowKit Go.Wk
attribute [local irreducible] W RL Does thenQ blockQ retQ Calls Pu Stp RD Qy Ay DoesIn
def mL (i : Nat) : ByteArray := ⟨[UInt8.ofNat (65 + i / 26), UInt8.ofNat (65 + i % 26)].toArray⟩
def mR (i : Nat) : DRule := ⟨⟨#[82]⟩, 1850 + (i : Int), 1850 + (i : Int), 5, ⟨1, 0, 1⟩, ⟨0, 0⟩, 0, mL i⟩
def mE1 : DEra := ⟨0, 0, 0, ByteArray.empty, ⟨#[65, 65, 65]⟩, ⟨true, 1850, 1, ⟨1, 0, 1⟩, ⟨0, 0⟩⟩⟩
def mE2 : DEra := ⟨0, 2, 0, ⟨#[82]⟩, ⟨#[65, 37, 115]⟩, ⟨false, 0, 0, ⟨0, 0, 0⟩, ⟨0, 0⟩⟩⟩
def mRs (n : Nat) : List DRule := (List.range n).map mR
structure MyG where
  k : Nat
  A : Option Addr
  c : Nat
  m : Nat
  ys : List Value
def Many1R (n : Nat) (v : Value) (O : List It) : Prop := ∃ A c be bz, v = .agg #[.slice A n c, .slice (some ⟨bz, 0, none⟩) 1 1, .slice none 0 0, .slice none 0 0] ∧
  O = [.blk bz [.string ⟨#[90]⟩, .slice (some ⟨be, 0, none⟩) 2 2] 55, .blk be (mE1.enc ++ mE2.enc) 60, .row (.slice A n c) 51 11 n ((mRs n).flatMap DRule.enc)]
theorem many1_spec (n : Nat) (hn : n ≤ 100) (w : World) : Does Tryz.prog 27 [.int .i64 n] w (Many1R n) := by
  refine Does_of_W Tryz.func27 rfl rfl rfl rfl ?_
  repeat (first | (apply RL_st; rfl; (first | (apply Stp_alloc; intro bk) | (apply Stp_buildSliceC; rfl; rfl; rfl; rfl; (focus repeat (first | exact Nf.nil | apply Nf.cons)); intro bk))) | refine walk ?_)
  obtain ⟨b2, hb2⟩ : ∃ b2, bk = b2 := ⟨_, rfl⟩
  rw [hb2]
  clear hb2 bk
  refine W_nil 51 11 ?_
  refine W_loopF [(2, .pointer (some ⟨b2, 0, none⟩)), (6, .int .i64 n)] [.blk b2 [.slice none 0 0, .slice none 0 0, .slice none 0 0, .slice none 0 0] 27] (fun g : MyG => [(3, .slice g.A g.m g.c), (7, .int .i64 g.k)]) (fun g => [.row (.slice g.A g.m g.c) 51 11 g.m g.ys])
    (fun g => g.k ≤ n ∧ g.m = g.k ∧ g.ys = (mRs g.k).flatMap DRule.enc) (fun g => n - g.k) ⟨0, none, 0, 0, []⟩ (by repeat (first | exact trivial | refine ⟨rfl, ?_⟩)) (by first | exact .refl _ | focus repeat (first | exact SubO.nil | (apply SubO.cons; focus repeat' constructor))) ⟨Nat.zero_le _, rfl, rfl⟩ ?_
  rintro ⟨k, A1, c1, m, ys⟩ ⟨hk, hm, hy⟩
  dsimp only at hk hm hy ⊢
  repeat (first | (apply RL_st; rfl; (first | (apply Stp_alloc; intro bk) | (apply Stp_buildSliceC; rfl; rfl; rfl; rfl; (focus repeat (first | exact Nf.nil | apply Nf.cons)); intro bk))) | refine walk ?_)
  refine W_cond rfl (fun hc => ?_) (fun hc => ?_)
  · simp only [decide_eq_true_eq, Int.ofNat_lt] at hc
    repeat (first | (apply RL_pu; rfl; (first | (apply Pu_quo64; rfl; rfl; omega; omega; decide) | (apply Pu_remE; rfl; rfl; omega; decide) | (apply Pu_conv8; rfl; omega; omega) | (apply Pu_add; rfl; rfl; (constructor <;> omega)))) | (apply RL_st; rfl; (first | (apply Stp_alloc; intro bk) | (apply Stp_buildSliceC; rfl; rfl; rfl; rfl; (focus repeat (first | exact Nf.nil | apply Nf.cons)); intro bk))) | refine walk1 ?_)
    refine RL_toRow (b := bk) (m := 2) 1 (by (focus repeat' constructor)) rfl (by decide) ?_
    have hml : [Value.int .u8 (65 + (k : Int) / 26), .int .u8 (65 + (k : Int) % 26)] = [UInt8.ofNat (65 + k / 26), UInt8.ofNat (65 + k % 26)].map byteV := by
      simp only [List.map_cons, List.map_nil, byteV]
      have a : (UInt8.ofNat (65 + k / 26)).toNat = 65 + k / 26 := by rw [UInt8.toNat_ofNat']; omega
      have b : (UInt8.ofNat (65 + k % 26)).toNat = 65 + k % 26 := by rw [UInt8.toNat_ofNat']; omega
      rw [a, b]
      congr 2
    repeat (first | (apply RL_pu; rfl; (apply Pu_convBytes; rfl; (focus repeat' constructor); exact hml; rfl; (intro h; cases h))) | (apply RL_st0; (apply Stp_append; rfl; rfl; (intro A' c'; (focus repeat' constructor)); (intro w' _ hO; exact blkRaw (hO.of (by (focus repeat' constructor)))); rfl; rfl; (simp only [maxLen]; omega); omega; intro A' c' hc1 hc2 hc3)) | (apply RL_st; rfl; (first | (apply Stp_append; rfl; rfl; (intro A' c'; (focus repeat' constructor)); (intro w' _ hO; exact blkRaw (hO.of (by (focus repeat' constructor)))); rfl; rfl; (simp only [maxLen]; omega); omega; intro A' c' hc1 hc2 hc3) | (apply Stp_alloc; intro bk) | (apply Stp_buildSliceC; rfl; rfl; rfl; rfl; (focus repeat (first | exact Nf.nil | apply Nf.cons)); intro bk))) | refine walk1 ?_)
    refine ⟨⟨k + 1, A', c', m + 1, ys ++ (mR k).enc⟩, (by first | omega | (dsimp only; omega)), ⟨(by first | omega | (dsimp only; omega)), (by first | omega | (dsimp only; omega)), ?_⟩, (by repeat (first | exact trivial | refine ⟨rfl, ?_⟩)), (by first | exact .refl _ | focus repeat (first | exact SubO.nil | (apply SubO.cons; focus repeat' constructor)))⟩
    dsimp only
    rw [hy]
    simp [mRs, List.range_succ]
  · obtain rfl : k = n := by simp only [decide_eq_false_iff_not, Int.ofNat_lt] at hc; omega
    subst hm hy
    repeat (first | (apply RL_st; rfl; (first | (apply Stp_alloc; intro bk) | (apply Stp_buildSliceC; rfl; rfl; rfl; rfl; (focus repeat (first | exact Nf.nil | apply Nf.cons)); intro bk))) | refine walk ?_)
    rename_i be
    exact ret_1 _ [.blk bk [.string ⟨#[90]⟩, .slice (some ⟨be, 0, none⟩) 2 2] 55, .blk be (mE1.enc ++ mE2.enc) 60, .row (.slice A1 m c1) 51 11 m ((mRs m).flatMap DRule.enc)] (.cellB rfl (by (focus repeat' constructor)) rfl rfl) (by first | exact .refl _ | focus repeat (first | exact SubO.nil | (apply SubO.cons; focus repeat' constructor))) ⟨A1, c1, be, bk, rfl, rfl⟩
end Go.Proofs.YtbffjibfcgcoeaaGreatDoor
