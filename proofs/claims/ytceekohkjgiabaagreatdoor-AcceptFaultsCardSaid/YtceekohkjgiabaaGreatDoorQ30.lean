/- Contract: variant.Check. Contracts: accept.In, Forms. Contract: analemmalaw25.fault. Contract: analemmalaw25.example. Contracts: slices.Equal at three types. Contract: slices.Equal at numbers. Lemmas for the chapter's examples: sources that lie in own blocks. -/
import Derived.Test.YtceekohkjgiabaaGreatDoorQ29
import Derived.Test.YtceekohkjgiabaaGreatDoorQ08
import Derived.Test.YtceekohkjgiabaaGreatDoorQ17
set_option maxHeartbeats 4000000
set_option linter.unusedVariables false
set_option linter.unusedSimpArgs false
namespace Go.Proofs.YtceekohkjgiabaaGreatDoor
open Go Go.RowKit Go.Wk
attribute [local irreducible] W RL Does thenQ blockQ retQ Calls Pu Stp RD Qy Ay DoesIn
theorem cellUp {w w' : World} {b j : Nat} {cs : List Value} {v : Value} (h : CellsAt w ⟨b, 0, none⟩ cs) (hw : Bel w.heap.size w w') (hv : cs[j]? = some v) : w'.cell? ((⟨b, 0, none⟩ : Addr).add j) = some v :=
 (hw.cell (World.block_lt_of_cell? w _ (h j v hv))).trans (h j v hv)
theorem PuVarC2 {G : Prop} (h : G := by (apply Pu_gtrB; rfl; rfl; exact bs)) : G := h
set_option maxHeartbeats 2000000 in
theorem varC_gen (Ar Az Al As : Option Addr) (cr cz cl cs : Nat) (a : DSource) (f : Int) (nm : ByteArray) (a1 a2 a3 a4 : Bool) (w : World) (hL : LibW w) (hA : RdSource w Ar Az Al As cr cz cl cs a) (hS : SrcOk a) (hZ : ∀ z ∈ a.zones, ∀ e ∈ z.eras, e.format.size ≤ 1000000000)
  (hof : ∀ w', Bel w.heap.size w w' → Does Tryz.prog 68 [.int .i64 f] w' (fun v O => v = .tuple #[.agg #[.string nm, .bool a1, .bool a2, .bool a3, .bool a4], .bool true] ∧ O = [])) :
  Does Tryz.prog 32 [srcV Ar Az Al As cr cz cl cs a, .int .i64 f] w (fun v O => v = ptV (vfG a1 a2 a3 a4 a) ∧ O = []) := by
 have hnz := hS.nz
 have hns := hS.ns
 have hru : ∀ b6 w', Bel w.heap.size w w' → CellsAt w' ⟨b6, 0, none⟩ [.string nm, .bool a1, .bool a2, .bool a3, .bool a4] → Does Tryz.prog 69 [.slice Ar a.rules.length cr, .func (.func 70) #[] #[.pointer (some ⟨b6, 0, none⟩)]] w' (fun v O => v = .int .i64 (findI (negB a1) a.rules 0) ∧ O = []) :=
  fun b6 w' hw h6 => indexFunc_spec Ar cr a.rules 70 [] [.pointer (some ⟨b6, 0, none⟩)] (negB a1) w' (hA.up hw).r fun r w2 hw2 => var1_spec r ⟨b6, 0, none⟩ a1 w2 (cellUp h6 hw2 rfl)
 rw [findI_idx] at hru
 unfold vfG
 generalize a.rules.findIdx? (negB a1) = ri at *
 refine Does_of_W Tryz.func32 rfl rfl rfl rfl ?_
 cases ri with
 | some i =>
  dsimp only at hru ⊢
  rw [Nat.zero_add] at hru
  have b0 : decide ((0 : Int) ≤ (i : Int)) = true := decide_eq_true (by omega)
  simp only [ptV, plV, DPlace.enc]
  repeat (first | (apply RL_pu; rfl; (apply Pu_geqB; rfl; rfl; exact b0)) | (refine js ?_; (first | (refine callE hof ?_) | (refine callO (fun w' hw hO => hru _ w' hw (hO.cells (by repeat' constructor))) ?_) | (refine bx ?_; intro bk))) | refine walk1 ?_)
  exact rtC
 | none =>
  dsimp only at hru ⊢
  obtain ⟨zr, hzr⟩ : ∃ zr, zGo a2 a3 a.zones 0 = zr := ⟨_, rfl⟩
  rw [hzr]
  repeat (first | (refine js ?_; (first | (refine callE hof ?_) | (refine callO (fun w' hw hO => hru _ w' hw (hO.cells (by repeat' constructor))) ?_) | (refine bx ?_; intro bk))) | refine walk ?_)
  obtain ⟨b6, hb6⟩ : ∃ b6, bk = b6 := ⟨_, rfl⟩
  rw [hb6]
  clear hb6 bk
  obtain ⟨b4, hb4⟩ : ∃ b4, bk = b4 := ⟨_, rfl⟩
  rw [hb4]
  clear hb4 bk
  obtain ⟨b2, hb2⟩ : ∃ b2, bk = b2 := ⟨_, rfl⟩
  rw [hb2]
  clear hb2 bk
  refine W_loopF [(2, .pointer (some ⟨b2, 0, none⟩)), (4, .pointer (some ⟨b4, 0, none⟩)), (6, .pointer (some ⟨b6, 0, none⟩)), (9, .func (.func 71) #[] #[.pointer (some ⟨b6, 0, none⟩)]), (31, .slice Az a.zones.length cz), (32, .int .i64 a.zones.length)] [.blk b6 [.string nm, .bool a1, .bool a2, .bool a3, .bool a4] 96, .blk b4 [.int .i64 0, .int .i64 0, .int .i64 0] 31, .blk b2 [.slice Ar a.rules.length cr, .slice Az a.zones.length cz, .slice Al a.links.length cl, .slice As a.shifts.length cs] 27]
   (fun k : Nat => [(33, .int .i64 k)]) (fun _ => []) (fun k => k ≤ a.zones.length ∧ zGo a2 a3 (a.zones.drop k) k = zr) (fun k => a.zones.length - k) 0 SFA SOA ⟨Nat.zero_le _, hzr⟩ ?_
  clear hzr
  rintro i ⟨hil, hi⟩
  repeat (first | (refine js ?_; (refine bx ?_; intro bk)) | refine walk ?_)
  refine W_cond rfl (fun hc => ?_) (fun hc => ?_)
  ·simp only [decide_eq_true_eq, Int.ofNat_lt] at hc
   obtain ⟨hna, cs1, ⟨Ae, ce, hEz, rfl⟩, hca⟩ := hA.z i _ (List.getElem?_eq_getElem hc)
   have hmem := List.getElem_mem hc
   rw [drop_cons hc, zGo] at hi
   generalize a.zones[i] = z at *
   have her : ∀ b6 w', Bel w.heap.size w w' → CellsAt w' ⟨b6, 0, none⟩ [.string nm, .bool a1, .bool a2, .bool a3, .bool a4] → Does Tryz.prog 35 [.slice Ae z.eras.length ce, .func (.func 71) #[] #[.pointer (some ⟨b6, 0, none⟩)]] w' (fun v O => v = .int .i64 (findI (wrongB a2 a3) z.eras 0) ∧ O = []) :=
    fun b6 w' hw h6 => indexEr_spec Ae ce z.eras 71 [] [.pointer (some ⟨b6, 0, none⟩)] (wrongB a2 a3) w' (hEz.up hw) fun r hr w2 hw2 => var2_spec r ⟨b6, 0, none⟩ a2 a3 w2 ((hL.up hw).up hw2) (hZ z hmem r hr) (cellUp h6 hw2 rfl) (cellUp h6 hw2 rfl)
   rw [findI_idx] at her
   generalize z.eras.findIdx? (wrongB a2 a3) = ei at *
   cases ei with
   | some j =>
    dsimp only at her hi
    rw [Nat.zero_add] at her
    have b0 : decide ((0 : Int) ≤ (j : Int)) = true := decide_eq_true (by omega)
    subst hi
    simp only [ptV, plV, DPlace.enc]
    repeat (first | (apply RL_pu; rfl; (first | exact PuI | (apply Pu_geqB; rfl; rfl; exact b0))) | (refine js ?_; (first | (refine callO (fun w' hw hO => her _ w' hw (hO.cells (by repeat' constructor))) ?_) | (refine bx ?_; intro bk))) | refine walk1 ?_)
    exact rtC
   | none =>
    dsimp only at her hi
    repeat (first | (apply RL_pu; rfl; exact PuI) | (refine js ?_; (first | (refine callO (fun w' hw hO => her _ w' hw (hO.cells (by repeat' constructor))) ?_) | (refine bx ?_; intro bk))) | refine walk1 ?_)
    exact ⟨i + 1, OA, ⟨OA, hi⟩, SFA, SOA⟩
  ·simp only [decide_eq_false_iff_not, Int.ofNat_lt] at hc
   rw [List.drop_eq_nil_of_le (by omega), zGo] at hi
   subst hi
   dsimp only
   by_cases hsn : 0 < a.shifts.length
   ·have bs : decide ((0 : Int) < a.shifts.length) = true := decide_eq_true (by omega)
    cases a4 with
    | false =>
     rw [if_pos ⟨hsn, rfl⟩]
     simp only [ptV, plV, DPlace.enc]
     repeat (first | (apply RL_pu; rfl; exact PuVarC2) | (refine js ?_; (refine bx ?_; intro bk)) | refine walk1 ?_)
     exact rtC
    | true =>
     rw [if_neg (by rintro ⟨_, h⟩; cases h)]
     repeat (first | (apply RL_pu; rfl; exact PuVarC2) | (refine js ?_; (refine bx ?_; intro bk)) | refine walk1 ?_)
     exact rtC
   ·have bs : decide ((0 : Int) < a.shifts.length) = false := decide_eq_false (by omega)
    rw [if_neg (fun h => hsn h.1)]
    repeat (first | (apply RL_pu; rfl; exact PuVarC2) | (refine js ?_; (refine bx ?_; intro bk)) | refine walk1 ?_)
    exact rtC
theorem varC_spec (Ar Az Al As : Option Addr) (cr cz cl cs : Nat) (a : DSource) (f : Int) (w : World) (hL : LibW w) (hG : Glob w) (hA : RdSource w Ar Az Al As cr cz cl cs a) (hS : SrcOk a) (hZ : ∀ z ∈ a.zones, ∀ e ∈ z.eras, e.format.size ≤ 1000000000) :
  Does Tryz.prog 32 [srcV Ar Az Al As cr cz cl cs a, .int .i64 f] w (fun v O => v = ptV (varFault f a) ∧ O = []) := by
 by_cases hb : f < 1 ∨ 3 < f
 ·have hof := fun w' => of_bad f hb w'
  unfold varFault
  rw [if_pos hb]
  simp only [ptV, plV, DPlace.enc]
  refine Does_of_W Tryz.func32 rfl rfl rfl rfl ?_
  repeat (first | (refine js ?_; (first | (refine callE (fun w' hw => hof w') ?_) | (refine bx ?_; intro bk))) | refine walk ?_)
  exact rtC
 ·obtain rfl | rfl | rfl : f = 1 ∨ f = 2 ∨ f = 3 := by omega
  ·rw [vf_1]
   exact varC_gen Ar Az Al As cr cz cl cs a 1 _ _ _ _ _ w hL hA hS hZ fun w' hw => of_1 w' (hG.up hw)
  ·rw [vf_2]
   exact varC_gen Ar Az Al As cr cz cl cs a 2 _ _ _ _ _ w hL hA hS hZ fun w' hw => of_2 w' (hG.up hw)
  ·rw [vf_3]
   exact varC_gen Ar Az Al As cr cz cl cs a 3 _ _ _ _ _ w hL hA hS hZ fun w' hw => of_3 w' (hG.up hw)
theorem accD_ne {s : DSource} {p : DPlace} {e : Int} (h : accD s = some (p, e)) : e ≠ 0 := by
 unfold accD at h
 cases h1 : sizesD s with
 | some x => rw [h1] at h; simp only [Option.some_or, Option.some.injEq] at h; subst h; exact sizesD_ne h1
 | none =>
  rw [h1, Option.none_or] at h
  cases h2 : setsD s with
  | some x => rw [h2] at h; simp only [Option.some_or, Option.some.injEq] at h; subst h; exact setsGo_ne _ _ h2
  | none =>
   rw [h2, Option.none_or] at h
   cases h3 : shiftsGo s s.shifts [] 0 with
   | some x => rw [h3] at h; simp only [Option.some_or, Option.some.injEq] at h; subst h; exact shiftsGo_ne _ _ _ _ h3
   | none =>
    rw [h3, Option.none_or] at h
    cases h4 : linksD s with
    | some x => rw [h4] at h; simp only [Option.some_or, Option.some.injEq] at h; subst h; exact linksD_ne h4
    | none =>
     rw [h4, Option.none_or] at h
     exact zonesGo_ne _ _ _ h
theorem varFault_ne {f : Int} {s : DSource} {p : DPlace} {e : Int} (h : varFault f s = some (p, e)) : e ≠ 0 := by
 unfold varFault at h
 dsimp only at h
 repeat' split at h
 all_goals first | (simp only [Option.some.injEq, Prod.mk.injEq] at h; omega) | cases h
structure AccOk (w : World) (Ar Az Al As : Option Addr) (cr cz cl cs : Nat) (a : DSource) : Prop where
 L : LibW w
 G : Glob w
 A : RdSource w Ar Az Al As cr cz cl cs a
 S : SrcOk a
 V : SavI a
 Z : ∀ z ∈ a.zones, ∀ e ∈ z.eras, EraOk e
theorem AccOk.up {w w' : World} {Ar Az Al As : Option Addr} {cr cz cl cs : Nat} {a : DSource} (h : AccOk w Ar Az Al As cr cz cl cs a) (hb : Bel w.heap.size w w') : AccOk w' Ar Az Al As cr cz cl cs a :=
 ⟨h.L.up hb, h.G.up hb, h.A.up hb, h.S, h.V, h.Z⟩
theorem accS {w : World} {Ar Az Al As : Option Addr} {cr cz cl cs : Nat} {a : DSource} (h : AccOk w Ar Az Al As cr cz cl cs a) : Does Tryz.prog 6 [srcV Ar Az Al As cr cz cl cs a] w (fun v O => v = ptV (accD a) ∧ O = []) :=
 acc_spec Ar Az Al As cr cz cl cs a w h.L h.G h.A h.S h.V h.Z
theorem varS {w : World} {Ar Az Al As : Option Addr} {cr cz cl cs : Nat} {a : DSource} (h : AccOk w Ar Az Al As cr cz cl cs a) (f : Int) : Does Tryz.prog 32 [srcV Ar Az Al As cr cz cl cs a, .int .i64 f] w (fun v O => v = ptV (varFault f a) ∧ O = []) :=
 varC_spec Ar Az Al As cr cz cl cs a f w h.L h.G h.A h.S fun z hz e he => (h.Z z hz e he).fmt
theorem PuInF0 {G : Prop} (h : G := by (apply Pu_neqB'; rfl; rfl; exact hb)) : G := h
theorem PuInF1 {G : Prop} (h : G := by (apply Pu_lssB; rfl; rfl; exact b1)) : G := h
theorem PuInF2 {G : Prop} (h : G := by (first | exact PuInF1 | (apply Pu_gtrB; rfl; rfl; exact b2))) : G := h
theorem inA_spec (Ar Az Al As : Option Addr) (cr cz cl cs : Nat) (a : DSource) (f : Int) (w : World) (h : AccOk w Ar Az Al As cr cz cl cs a) :
  Does Tryz.prog 8 [srcV Ar Az Al As cr cz cl cs a, .int .i64 f] w (fun v O => v = ptV (inD a f) ∧ O = []) := by
 have hac := fun w' (hw : Bel w.heap.size w w') => accS (h.up hw)
 have hva := fun w' (hw : Bel w.heap.size w w') => varS (h.up hw) f
 have hne := fun {p e} => @accD_ne a p e
 have hvb : (f < 1 ∨ 3 < f) → varFault f a = some (⟨0, 0, 0⟩, 2) := fun hb => by unfold varFault; rw [if_pos hb]
 unfold inD
 generalize accD a = o1 at *
 generalize varFault f a = o2 at *
 refine Does_of_W Tryz.func8 rfl rfl rfl rfl ?_
 cases o1 with
 | some x =>
  obtain ⟨⟨p1, p2, p3⟩, e⟩ := x
  have hb : (!decide (e = 0)) = true := by rw [decide_eq_false (hne rfl)]; rfl
  simp only [Option.some_or, ptV, plV, DPlace.enc] at hac ⊢
  repeat (first | (apply RL_pu; rfl; exact PuInF0) | (refine js ?_; (first | (refine callE hac ?_) | (refine bx ?_; intro bk))) | refine walk1 ?_)
  exact rtC
 | none =>
  rw [Option.none_or]
  by_cases h1 : f < 1
  ·have b1 : decide (f < 1) = true := decide_eq_true h1
   rw [hvb (.inl h1)]
   simp only [ptV, plV, DPlace.enc] at hac ⊢
   repeat (first | refine und ?_ | (apply RL_pu; rfl; exact PuInF1) | (refine js ?_; (first | (refine callE hac ?_) | (refine bx ?_; intro bk))) | refine walk1 ?_)
   exact rtC
  have b1 : decide (f < 1) = false := decide_eq_false h1
  by_cases h2 : 3 < f
  ·have b2 : decide (3 < f) = true := decide_eq_true h2
   rw [hvb (.inr h2)]
   simp only [ptV, plV, DPlace.enc] at hac ⊢
   repeat (first | refine und ?_ | (apply RL_pu; rfl; exact PuInF2) | (refine js ?_; (first | (refine callE hac ?_) | (refine bx ?_; intro bk))) | refine walk1 ?_)
   exact rtC
  have b2 : decide (3 < f) = false := decide_eq_false h2
  cases o2 with
  | none =>
   simp only [ptV, plV, DPlace.enc] at hac hva ⊢
   repeat (first | refine und ?_ | (apply RL_pu; rfl; exact PuInF2) | (refine js ?_; (first | (refine callE hac ?_) | (refine callE hva ?_) | (refine bx ?_; intro bk))) | refine walk1 ?_)
   exact rtC
  | some x =>
   obtain ⟨⟨p1, p2, p3⟩, e⟩ := x
   simp only [ptV, plV, DPlace.enc] at hac hva ⊢
   repeat (first | refine und ?_ | (apply RL_pu; rfl; exact PuInF2) | (refine js ?_; (first | (refine callE hac ?_) | (refine callE hva ?_) | (refine bx ?_; intro bk))) | refine walk1 ?_)
   exact rtC
structure FoG where
 k : Nat
 A : Option Addr
 c : Nat
 m : Nat
 ys : List Value
 acc : List Int
def okF (a : DSource) (f : Int) : Bool := (varFault f a).isNone
theorem f123 {k : Nat} (h : k < 3) : ([1, 2, 3] : List Int)[k]? = some ((k : Int) + 1) := by
 match k, h with
 | 0, _ => rfl
 | 1, _ => rfl
 | 2, _ => rfl
theorem PuInF3 {G : Prop} (h : G := by (apply Pu_leqB; rfl; rfl; exact b3)) : G := h
theorem formsA_spec (Ar Az Al As : Option Addr) (cr cz cl cs : Nat) (a : DSource) (w : World) (h : AccOk w Ar Az Al As cr cz cl cs a) :
  Does Tryz.prog 11 [srcV Ar Az Al As cr cz cl cs a] w (NewSl 3 1 iEnc (formsD a)) := by
 have hac := fun w' (hw : Bel w.heap.size w w') => accS (h.up hw)
 have hvf := fun f w' (hw : Bel w.heap.size w w') => varS (h.up hw) f
 have hne := fun {p e} => @accD_ne a p e
 unfold formsD
 generalize accD a = o1 at *
 refine Does_of_W Tryz.func11 rfl rfl rfl rfl ?_
 cases o1 with
 | some x =>
  obtain ⟨⟨p1, p2, p3⟩, e⟩ := x
  have hb : (!decide (e = 0)) = true := by rw [decide_eq_false (hne rfl)]; rfl
  rw [show (some ((⟨p1, p2, p3⟩ : DPlace), e)).isSome = true from rfl]
  simp only [if_true]
  simp only [ptV, plV, DPlace.enc] at hac
  refine W_nil 3 1 ?_
  repeat (first | (apply RL_pu; rfl; exact PuInF0) | (refine js ?_; (first | (refine callE hac ?_) | (refine bx ?_; intro bk))) | refine walk1 ?_)
  exact ret_1 _ [.row (.slice none 0 0) 3 1 0 []] (.tmp rfl) SOA ⟨none, 0, rfl, rfl⟩
 | none =>
  simp only [Option.isSome_none, Bool.false_eq_true, if_false]
  simp only [ptV, plV, DPlace.enc] at hac
  repeat (first | (refine js ?_; (first | (refine callE hac ?_) | (refine bx ?_; intro bk))) | refine walk ?_)
  obtain ⟨b3, hb3⟩ : ∃ b3, bk = b3 := ⟨_, rfl⟩
  rw [hb3]
  clear hb3 bk
  obtain ⟨b1, hb1⟩ : ∃ b1, bk = b1 := ⟨_, rfl⟩
  rw [hb1]
  clear hb1 bk
  refine W_nil 3 1 ?_
  refine W_loopF [(1, .pointer (some ⟨b1, 0, none⟩))] [.blk b1 [.slice Ar a.rules.length cr, .slice Az a.zones.length cz, .slice Al a.links.length cl, .slice As a.shifts.length cs] 27] (fun g : FoG => [(5, .slice g.A g.m g.c), (6, .int .i64 ((g.k : Int) + 1))]) (fun g => [.row (.slice g.A g.m g.c) 3 1 g.m g.ys])
   (fun g => g.k ≤ 3 ∧ g.m ≤ g.k ∧ g.m = g.acc.length ∧ g.ys = g.acc.flatMap iEnc ∧ g.acc = (([1, 2, 3] : List Int).take g.k).filter (okF a)) (fun g => 3 - g.k) ⟨0, none, 0, 0, [], []⟩ SFA SOA ⟨Nat.zero_le _, Nat.le_refl _, rfl, rfl, rfl⟩ ?_
  rintro ⟨k, A1, c1, m, ys, acc⟩ ⟨hk, hmk, hm, hy, hi⟩
  dsimp only at hk hmk hm hy hi ⊢
  by_cases hk3 : k < 3
  ·have b3 : decide ((k : Int) + 1 ≤ 3) = true := decide_eq_true (by omega)
   have hg := f123 hk3
   have hva := hvf ((k : Int) + 1)
   have htk : (([1, 2, 3] : List Int).take (k + 1)).filter (okF a) = acc ++ (if okF a ((k : Int) + 1) then [(k : Int) + 1] else []) := by
    rw [List.take_add_one, hg, List.filter_append, ← hi]
    congr 1
    simp only [Option.toList, List.filter_cons, List.filter_nil]
   rw [show okF a ((k : Int) + 1) = (varFault ((k : Int) + 1) a).isNone from rfl] at htk
   cases hv : varFault ((k : Int) + 1) a with
   | none =>
    rw [hv] at hva htk
    simp only [ptV, plV, DPlace.enc] at hva
    repeat (first | (apply RL_pu; rfl; exact PuInF3) | (refine js ?_; (first | (refine callE hva ?_) | (apply Stp_append; rfl; rfl; (intro A' c'; (focus repeat' constructor)); (intro w' _ hO; exact blkRaw (hO.of (by repeat' constructor))); rfl; rfl; (simp only [maxLen]; omega); omega; intro A' c' hc1 hc2 hc3) | (refine bx ?_; intro bk))) | refine walk1 ?_)
    refine ⟨⟨k + 1, A', c', m + 1, ys ++ [.int .i64 ((k : Int) + 1)], acc ++ [(k : Int) + 1]⟩, OA, ⟨OA, OA, by simp [hm], by rw [hy]; simp [iEnc], by dsimp only; rw [htk]; simp⟩, ?_, SOA⟩
    exact SFA
   | some x =>
    obtain ⟨⟨p1, p2, p3⟩, e⟩ := x
    have be : decide (e = 0) = false := decide_eq_false (varFault_ne hv)
    rw [hv] at hva htk
    simp only [ptV, plV, DPlace.enc] at hva
    repeat (first | (apply RL_pu; rfl; (first | exact PuInF3 | (apply Pu_eqlB; rfl; rfl; exact be))) | (refine js ?_; (first | (refine callE hva ?_) | (refine bx ?_; intro bk))) | refine walk1 ?_)
    refine ⟨⟨k + 1, A1, c1, m, ys, acc⟩, OA, ⟨OA, OA, hm, hy, by dsimp only; rw [htk]; simp⟩, ?_, SOA⟩
    exact SFA
  ·obtain rfl : k = 3 := by omega
   have b3 : decide (((3 : Nat) : Int) + 1 ≤ 3) = false := by decide
   subst hm hy
   repeat (first | (apply RL_pu; rfl; exact PuInF3) | (refine js ?_; (refine bx ?_; intro bk)) | refine walk1 ?_)
   exact ret_1 _ [.row (.slice A1 acc.length c1) 3 1 acc.length (acc.flatMap iEnc)] (.tmp rfl) SOA (by rw [show ([1, 2, 3].filter fun f => (varFault f a).isNone) = acc from hi.symm]; exact ⟨A1, c1, rfl, rfl⟩)
end Go.Proofs.YtceekohkjgiabaaGreatDoor
namespace Go.Wk
open Go Go.RowKit
theorem Pu_eqlEB {P : Program} {n : Nat} {wr : World} {fr : Fr} {O : List It} {ty t t' : TypeId} {α : Type} [DecidableEq α] {enc : α → List Value} {x y : Operand} {i j : α} {b : Bool} [hE : EqE P t α enc] (hx : ev fr x = some (.agg (enc i).toArray)) (hy : ev fr y = some (.agg (enc j).toArray)) (h : decide (i = j) = b) :
  Pu P n wr fr O (.binOp .eql t x y t') ty (.bool b) := h ▸ Pu_eqlE hx hy
end Go.Wk
namespace Go.Proofs.YtceekohkjgiabaaGreatDoor
open Go Go.RowKit Go.Wk
attribute [local irreducible] W RL Does thenQ blockQ retQ Calls Pu Stp RD Qy Ay DoesIn
def ptP : Option (DPlace × Int) → DPlace × Int
 | none => (⟨0, 0, 0⟩, 0)
 | some x => x
theorem ptV_eq (o : Option (DPlace × Int)) : ptV o = .tuple #[plV (ptP o).1, .int .i64 (ptP o).2] := by cases o <;> rfl
def faultB (a : DSource) (q : DPlace) (e : Int) : Bool := decide ((ptP (accD a)).1 = q) && (decide ((ptP (accD a)).2 = e) && (decide ((ptP (inD a 2)).1 = q) && (decide ((ptP (inD a 2)).2 = e) && decide ((formsD a).length = 0))))
theorem fault25_spec (Ar Az Al As : Option Addr) (cr cz cl cs : Nat) (a : DSource) (q : DPlace) (e : Int) (w : World) (h : AccOk w Ar Az Al As cr cz cl cs a) :
  Does Tryz.prog 21 [srcV Ar Az Al As cr cz cl cs a, .agg q.enc.toArray, .int .i64 e] w (fun v O => v = .bool (faultB a q e) ∧ O = []) := by
 have h1 := fun w' (hw : Bel w.heap.size w w') => accS (h.up hw)
 have h2 := fun w' (hw : Bel w.heap.size w w') => inA_spec Ar Az Al As cr cz cl cs a 2 w' (h.up hw)
 have h3 := fun w' (hw : Bel w.heap.size w w') => formsA_spec Ar Az Al As cr cz cl cs a w' (h.up hw)
 unfold faultB
 rw [ptV_eq] at h1 h2
 generalize ptP (accD a) = x1 at *
 generalize ptP (inD a 2) = x2 at *
 generalize formsD a = fs at *
 obtain ⟨⟨p1, p2, p3⟩, e1⟩ := x1
 obtain ⟨⟨q1, q2, q3⟩, e2⟩ := x2
 obtain ⟨r1, r2, r3⟩ := q
 dsimp only at h1 h2 ⊢
 obtain ⟨c1, hc1⟩ : ∃ c, decide ((⟨p1, p2, p3⟩ : DPlace) = ⟨r1, r2, r3⟩) = c := ⟨_, rfl⟩
 obtain ⟨c2, hc2⟩ : ∃ c, decide (e1 = e) = c := ⟨_, rfl⟩
 obtain ⟨c3, hc3⟩ : ∃ c, decide ((⟨q1, q2, q3⟩ : DPlace) = ⟨r1, r2, r3⟩) = c := ⟨_, rfl⟩
 obtain ⟨c4, hc4⟩ : ∃ c, decide (e2 = e) = c := ⟨_, rfl⟩
 obtain ⟨c5, hc5⟩ : ∃ c, decide (fs.length = 0) = c := ⟨_, rfl⟩
 have hc5' : decide ((fs.length : Int) = 0) = c5 := by rw [← hc5, decide_eq_decide]; omega
 rw [hc1, hc2, hc3, hc4, hc5]
 simp only [plV, DPlace.enc] at h1 h2 ⊢
 refine Does_of_W Tryz.func21 rfl rfl rfl rfl ?_
 repeat' (first | (apply RL_pu; rfl; (first | (apply Pu_eqlEB (i := (⟨p1, p2, p3⟩ : DPlace)) (j := (⟨r1, r2, r3⟩ : DPlace)) (enc := DPlace.enc); rfl; rfl; exact hc1) | (apply Pu_eqlEB (i := (⟨q1, q2, q3⟩ : DPlace)) (j := (⟨r1, r2, r3⟩ : DPlace)) (enc := DPlace.enc); rfl; rfl; exact hc3) | (apply Pu_eqlB; rfl; rfl; exact hc2) | (apply Pu_eqlB; rfl; rfl; exact hc4) | (apply Pu_eqlB; rfl; rfl; exact hc5'))) | (refine js ?_; (first | (refine callE h1 ?_) | (refine callE h2 ?_) | (apply Stp_call (h := fun w' hw _ => h3 w' hw); rfl; rintro v O' ⟨A3, k3, rfl, rfl⟩) | (refine bx ?_; intro bk))) | refine walk1 ?_ | refine und ?_ | (refine RL_gsplit rfl rfl rfl (fun hc => ?_) (fun hc => ?_)) | (refine RD_gsplit rfl rfl rfl (fun hc => ?_) (fun hc => ?_)) | (refine W_cond rfl (fun hc => ?_) (fun hc => ?_)))
 all_goals exact clo1
def exR1 : DRule := ⟨⟨#[82]⟩, 1990, 1048576, 3, ⟨2, 0, 0⟩, ⟨7200, 0⟩, 3600, ByteArray.empty⟩
def exR2 : DRule := ⟨⟨#[82]⟩, 1990, 1048576, 10, ⟨2, 0, 0⟩, ⟨10800, 0⟩, 0, ByteArray.empty⟩
def exE1 : DEra := ⟨3600, 0, 0, ByteArray.empty, ⟨#[76, 77, 84]⟩, ⟨true, 1980, 1, ⟨1, 0, 1⟩, ⟨0, 0⟩⟩⟩
def exE2 : DEra := ⟨3600, 2, 0, ⟨#[82]⟩, ⟨#[67, 69, 84, 47, 67, 69, 83, 84]⟩, ⟨false, 0, 0, ⟨0, 0, 0⟩, ⟨0, 0⟩⟩⟩
def ExR (v : Value) (O : List It) : Prop := ∃ br be bz, v = .agg #[.slice (some ⟨br, 0, none⟩) 2 2, .slice (some ⟨bz, 0, none⟩) 1 1, .slice none 0 0, .slice none 0 0] ∧
 O = [.blk bz [.string ⟨#[90]⟩, .slice (some ⟨be, 0, none⟩) 2 2] 51, .blk be (exE1.enc ++ exE2.enc) 56, .blk br (exR1.enc ++ exR2.enc) 48]
theorem exam25_spec (w : World) : Does Tryz.prog 20 [] w ExR := by
 refine Does_of_W Tryz.func20 rfl rfl rfl rfl ?_
 repeat (first | (refine js ?_; (refine bx ?_; intro bk)) | refine walk ?_)
 rename_i br be
 exact ret_1 _ [.blk bk [.string ⟨#[90]⟩, .slice (some ⟨be, 0, none⟩) 2 2] 51, .blk be (exE1.enc ++ exE2.enc) 56, .blk br (exR1.enc ++ exR2.enc) 48] (.cellB rfl (by repeat' constructor) rfl rfl) SOA ⟨br, be, bk, rfl, rfl⟩
end Go.Proofs.YtceekohkjgiabaaGreatDoor
namespace Go.Proofs.YtceekohkjgiabaaGreatDoor
open Go Go.RowKit Go.Wk
attribute [local irreducible] W RL Does thenQ blockQ retQ Calls Pu Stp RD Qy Ay
end Go.Proofs.YtceekohkjgiabaaGreatDoor
namespace Go.Proofs.YtceekohkjgiabaaGreatDoor
open Go Go.RowKit Go.Wk
attribute [local irreducible] W RL Does thenQ blockQ retQ Calls Pu Stp RD Qy Ay DoesIn
theorem wkEqI0 {G G' : Prop} (k : G') (h : Hold G' → G := by intro k9; (first | refine walk ?_ | (refine jn ?_; (try intro F); (apply Stp_pu; exact PuA); refine fin ?_)); exact k9.out) : G := h ⟨k⟩
theorem equalI_spec (A B : Option Addr) (ca cb : Nat) (x y : List Int) (w : World) (hA : RdSl w A ca iEnc 1 x) (hB : RdSl w B cb iEnc 1 y) :
  Does Tryz.prog 10 [.slice A x.length ca, .slice B y.length cb] w (fun v O => v = .bool (decide (x = y)) ∧ O = []) := by
 have hs1 := hA.le
 have hs2 := hA.cap
 unfold maxLen at hs2
 generalize hres : decide (x = y) = res
 refine Does_of_W Tryz.func10 rfl rfl rfl rfl ?_
 repeat refine wkEqI0 ?_
 refine W_cond rfl (fun h1 => ?_) (fun h1 => ?_)
 ·repeat refine wkEqI0 ?_
  exact ret_1 _ [] (.tmp rfl) .nil ⟨by rw [← hres, dec_len]; simp at h1; omega, rfl⟩
 have hlen : x.length = y.length := by simp at h1; omega
 clear h1
 repeat refine wkEqI0 ?_
 refine W_loopF [(0, _), (1, _), (4, _), (12, _)] _ (fun k : Nat => [(13, .int .i64 k)]) (fun _ => []) (fun k => k ≤ x.length ∧ decide (x.drop k = y.drop k) = res) (fun k => x.length - k) 0 ⟨rfl, rfl, rfl, rfl, rfl, trivial⟩ (.refl _) ⟨by omega, hres⟩ ?_
 rintro k ⟨hk, hi⟩
 repeat refine wkEqI0 ?_
 refine W_cond rfl (fun hc => ?_) (fun hc => ?_)
 ·simp only [decide_eq_true_eq, Int.ofNat_lt] at hc
  have hcy : k < y.length := by omega
  obtain ⟨hna, hca⟩ := hA.rd k _ (List.getElem?_eq_getElem hc)
  obtain ⟨hnb, hcb⟩ := hB.rd k _ (List.getElem?_eq_getElem hcy)
  rw [drop_cons hc, drop_cons hcy, dec_cons] at hi
  generalize x[k] = p at *
  generalize y[k] = q at *
  repeat (first | (apply RL_pu; rfl; exact PuI) | (apply RD_Q; rfl; rfl; decide +kernel; rfl; rfl; exact QyI) | refine walk1 ?_ | (refine jn ?_; (try intro F); (apply Stp_pu; first | exact PuI | exact PuA); first | refine ⟨_, EndsA, QFI, ?_⟩ | refine fin ?_))
  refine W_cond rfl (fun h3 => ?_) (fun h3 => ?_)
  ·repeat refine wkEqI0 ?_
   exact ret_1 _ [] (.tmp rfl) .nil ⟨by simp at h3; simp [← hi, h3], rfl⟩
  repeat refine wkEqI0 ?_
  simp at h3
  exact ⟨k + 1, by omega, ⟨by omega, by rw [← hi]; simp [h3]⟩, SFA, SOA⟩
 simp only [decide_eq_false_iff_not, Int.ofNat_lt] at hc
 repeat refine wkEqI0 ?_
 exact ret_1 _ [] (.tmp rfl) .nil ⟨by rw [← hi, dec_nil (by omega) (by omega)], rfl⟩
end Go.Proofs.YtceekohkjgiabaaGreatDoor
namespace Go.Proofs.YtceekohkjgiabaaGreatDoor
open Go Go.RowKit Go.Wk
def okR (r : DRule) : Bool := decide (r.name.size ≤ 1000000000) && (decide (r.letter.size ≤ 1000000000) && (decide (-9223372036854775808 ≤ r.save) && decide (r.save ≤ 9223372036854775807)))
def okI (n : Int) : Bool := decide (-9223372036854775808 ≤ n) && decide (n ≤ 9223372036854775807)
def okE (e : DEra) : Bool := okI e.off && (okI e.save && (okI e.kind && (decide (e.format.size ≤ 1000000000) && decide (e.set.size ≤ 1000000000))))
def okZ (z : DZone) : Bool := decide (z.name.size ≤ 1000000000) && (decide (z.eras.length ≤ 1000000) && z.eras.all okE)
def okL (l : DLink) : Bool := decide (l.target.size ≤ 1000000000) && decide (l.name.size ≤ 1000000000)
def okD (s : DSource) : Bool := decide (s.rules.length ≤ 1000000) && (decide (s.zones.length ≤ 1000000) && (decide (s.links.length ≤ 1000000) && (decide (s.shifts.length ≤ 1000000) && (s.rules.all okR && (s.zones.all okZ && s.links.all okL)))))
theorem okI_64 {n : Int} (h : okI n = true) : I64 n := by
 unfold okI at h
 rw [Bool.and_eq_true, decide_eq_true_eq, decide_eq_true_eq] at h
 exact h
theorem okD_ok {s : DSource} (h : okD s = true) : SrcOk s ∧ SavI s ∧ ∀ z ∈ s.zones, ∀ e ∈ z.eras, EraOk e := by
 unfold okD at h
 simp only [Bool.and_eq_true, decide_eq_true_eq, List.all_eq_true] at h
 obtain ⟨h1, h2, h3, h4, h5, h6, h7⟩ := h
 have hr : ∀ r ∈ s.rules, _ := fun r hr => by
  have := h5 r hr
  unfold okR at this
  simp only [Bool.and_eq_true, decide_eq_true_eq] at this
  exact this
 have hz : ∀ z ∈ s.zones, z.name.size ≤ 1000000000 ∧ z.eras.length ≤ 1000000 ∧ ∀ e ∈ z.eras, okE e = true := fun z hz => by
  have := h6 z hz
  unfold okZ at this
  simp only [Bool.and_eq_true, decide_eq_true_eq, List.all_eq_true] at this
  exact this
 have he : ∀ e, okE e = true → I64 e.off ∧ I64 e.save ∧ I64 e.kind ∧ e.format.size ≤ 1000000000 ∧ e.set.size ≤ 1000000000 := fun e he => by
  unfold okE at he
  simp only [Bool.and_eq_true, decide_eq_true_eq] at he
  exact ⟨okI_64 he.1, okI_64 he.2.1, okI_64 he.2.2.1, he.2.2.2⟩
 refine ⟨⟨h1, h2, h3, h4, fun r h => ⟨(hr r h).1, (hr r h).2.1⟩, fun z h => ⟨(hz z h).1, (hz z h).2.1, fun e h' => ⟨(he e ((hz z h).2.2 e h')).2.2.2.2, (he e ((hz z h).2.2 e h')).2.2.2.1⟩⟩, fun l h => ?_⟩, fun r h => ⟨(hr r h).2.2.1, (hr r h).2.2.2⟩, fun z h e h' => ?_⟩
 ·have := h7 l h
  unfold okL at this
  simp only [Bool.and_eq_true, decide_eq_true_eq] at this
  exact this
 ·have := he e ((hz z h).2.2 e h')
  exact ⟨this.1, this.2.1, this.2.2.1, this.2.2.2.1⟩
theorem accOk {w w' : World} {Ar Az Al As : Option Addr} {cr cz cl cs : Nat} {a : DSource} (hL : LibW w) (hG : Glob w) (hw : Bel w.heap.size w w') (h : okD a = true) (hA : RdSource w' Ar Az Al As cr cz cl cs a) : AccOk w' Ar Az Al As cr cz cl cs a :=
 ⟨hL.up hw, hG.up hw, hA, (okD_ok h).1, (okD_ok h).2.1, (okD_ok h).2.2⟩
def exS (rs : List DRule) (es : List DEra) (ls : List DLink) (ss : List ByteArray) : DSource := ⟨rs, [⟨⟨#[90]⟩, es⟩], ls, ss⟩
theorem ex_rd {w : World} {Ar Ae Al As : Option Addr} {cr ce cl cs bz : Nat} {rs : List DRule} {es : List DEra} {ls : List DLink} {ss : List ByteArray} (hr : RdSl w Ar cr DRule.enc 11 rs) (hz : (It.blk bz [.string ⟨#[90]⟩, .slice Ae es.length ce] 51).sat w) (he : RdSl w Ae ce DEra.enc 13 es)
  (hl : RdSl w Al cl DLink.enc 2 ls) (hs : RdSl w As cs strEnc 1 ss) : RdSource w Ar (some ⟨bz, 0, none⟩) Al As cr 1 cl cs (exS rs es ls ss) :=
 ⟨hr, Nat.le_refl 1, by decide, zones_rd (litRd (c := 1) (l := [(⟨⟨⟨#[90]⟩, es⟩, Ae, ce⟩ : ZE)]) ZE.len (Nat.le_refl 1) (by decide) hz) (fun q hq => by rw [List.mem_singleton.1 hq]; exact he), hl, hs⟩
theorem iEnc.len (i : Int) : (iEnc i).length = 1 := rfl
theorem faultT (Ar Az Al As : Option Addr) (cr cz cl cs : Nat) (a : DSource) (q : DPlace) (e : Int) (w : World) (h : AccOk w Ar Az Al As cr cz cl cs a) (hf : faultB a q e = true) :
  Does Tryz.prog 21 [srcV Ar Az Al As cr cz cl cs a, .agg q.enc.toArray, .int .i64 e] w (fun v O => v = .bool true ∧ O = []) := hf ▸ fault25_spec Ar Az Al As cr cz cl cs a q e w h
theorem formsT (Ar Az Al As : Option Addr) (cr cz cl cs : Nat) (a : DSource) (l : List Int) (w : World) (h : AccOk w Ar Az Al As cr cz cl cs a) (hf : formsD a = l) :
  Does Tryz.prog 11 [srcV Ar Az Al As cr cz cl cs a] w (NewSl 3 1 iEnc l) := hf ▸ formsA_spec Ar Az Al As cr cz cl cs a w h
theorem exam25_nf (w : World) : Does Tryz.prog 20 [] w (fun v O => ∃ br be bz, v = .agg #[.slice (some ⟨br, 0, none⟩) 2 2, .slice (some ⟨bz, 0, none⟩) 1 1, .slice none 0 0, .slice none 0 0] ∧
  O = [.blk bz [.string ⟨#[90]⟩, .slice (some ⟨be, 0, none⟩) 2 2] 51, .blk be [.int .i64 3600, .int .i64 0, .int .i64 0, .string ByteArray.empty, .string ⟨#[76, 77, 84]⟩, .bool true, .int .i64 1980, .int .i64 1, .int .i64 1, .int .i64 0, .int .i64 1, .int .i64 0, .int .i64 0, .int .i64 3600, .int .i64 2, .int .i64 0, .string ⟨#[82]⟩, .string ⟨#[67, 69, 84, 47, 67, 69, 83, 84]⟩, .bool false, .int .i64 0, .int .i64 0, .int .i64 0, .int .i64 0, .int .i64 0, .int .i64 0, .int .i64 0] 56, .blk br [.string ⟨#[82]⟩, .int .i64 1990, .int .i64 1048576, .int .i64 3, .int .i64 2, .int .i64 0, .int .i64 0, .int .i64 7200, .int .i64 0, .int .i64 3600, .string ByteArray.empty, .string ⟨#[82]⟩, .int .i64 1990, .int .i64 1048576, .int .i64 10, .int .i64 2, .int .i64 0, .int .i64 0, .int .i64 10800, .int .i64 0, .int .i64 0, .string ByteArray.empty] 48]) :=
 exam25_spec w
def exR1n : DRule := { exR1 with save := -3600 }
def exE2z : DEra := { exE2 with format := ⟨#[37, 122]⟩ }
def exE2q : DEra := { exE2 with set := ⟨#[81]⟩ }
def exE2u : DEra := { exE2 with til := ⟨true, 2000, 3, ⟨1, 0, 26⟩, ⟨0, 0⟩⟩ }
def exE3 : DEra := ⟨3600, 0, 0, ByteArray.empty, ⟨#[67, 69, 84]⟩, ⟨false, 0, 0, ⟨0, 0, 0⟩, ⟨0, 0⟩⟩⟩
def exE1k : DEra := { exE1 with kind := 2, set := ⟨#[82]⟩ }
def exE2o : DEra := { exE2 with off := 52200 }
def exL : DLink := ⟨⟨#[90]⟩, ⟨#[90]⟩⟩
def d1 : DSource := exS [exR1, exR2] [exE1, exE2] [] []
def d2 : DSource := exS [exR1n, exR2] [exE1, exE2] [] []
def d3 : DSource := exS [exR1, exR2] [exE1, exE2z] [] []
def d4 : DSource := exS [exR1] [exE1, exE2] [] []
def d5 : DSource := exS [exR1, exR2] [exE1, exE2q] [] []
def d6 : DSource := exS [exR1, exR2] [exE1, exE2u, exE3] [] []
def d7 : DSource := exS [exR1, exR2] [exE1k, exE2] [] []
def d8 : DSource := exS [exR1, exR2] [exE1, exE2o] [] []
def d9 : DSource := exS [exR1, exR2] [exE1, exE2] [exL] []
def d10 : DSource := exS [exR1, exR2] [exE1, exE2] [] [⟨#[82]⟩]
def d11 : DSource := exS [exR1, exR2] [exE1, exE2] [] [⟨#[81]⟩]
end Go.Proofs.YtceekohkjgiabaaGreatDoor
