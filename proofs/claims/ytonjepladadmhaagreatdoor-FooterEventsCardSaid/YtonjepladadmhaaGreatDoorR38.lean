/- Contracts: footer.Of, Year. Dates and TZ strings compare as the data do. Rules: make with a length; an index that is a number, in an own block. Lemmas for examples: sources that lie in own blocks. Contracts: the helpers of analemmalaw38, and its examples. Contracts: the reference of layer 1. Contracts: the reference of layers 2 and 6. Contract: analemmaref38.Date. Contract: analemmaref38.Date. -/
import Derived.Test.YtonjepladadmhaaGreatDoorR37
import Derived.Test.YtonjepladadmhaaGreatDoorR08
import Derived.Laws.OwnMore
import Derived.Test.YtonjepladadmhaaGreatDoorR14
import Derived.Test.YtonjepladadmhaaGreatDoorR16
import Derived.Test.YtonjepladadmhaaGreatDoorR12
import Derived.Test.YtonjepladadmhaaGreatDoorR13
import Derived.Test.YtonjepladadmhaaGreatDoorR15
set_option maxHeartbeats 4000000
set_option linter.unusedVariables false
set_option linter.unusedSimpArgs false
namespace Go.Wk
open Go Go.RowKit
section
variable {P : Program} {n : Nat} {wr : World} {fr : Fr} {O : List It} {ty : TypeId}
theorem Pu_neqPtr {t t' : TypeId} {x : Operand} {ad : Addr} (hu : ∃ te, P.underlying t = some (.pointer te)) (hx : ev fr x = some (.pointer (some ad))) : Pu P n wr fr O (.binOp .neq t x (.const (.pointer none)) t') ty (.bool true) := fun a w hs _ _ _ _ => by
 obtain ⟨te, hu⟩ := hu
 have hc : a.eval (.const (.pointer none)) = .pointer none := rfl
 have h : (binOp .neq t (.pointer (some ad)) (.pointer none)).run P w = .ok (.bool true) w := by
  have : ∀ d, (Op.equalIn (d + 1) t (.pointer (some ad)) (.pointer none)).run P w = .ok false w := fun d => by
   simp [Op.equalIn, run_underlying hu]
  have hb : binOp .neq t (.pointer (some ad)) (.pointer none) = (do pure (.bool (!(← Op.equal t (.pointer (some ad)) (.pointer none))))) := rfl
  rw [hb, show Op.equal t (.pointer (some ad)) (.pointer none) = Op.equalIn (9999 + 1) t (.pointer (some ad)) (.pointer none) from rfl]
  simp only [Sem.run_bind, this 9999, Result.andThen_ok, Sem.run_pure, Bool.not_false]
 have hg : (eqGuard .neq t x (.const (.pointer none)) (.pointer (some ad)) (.pointer none)).run P w = .ok () w := by
  simp [eqGuard]
 simp only [execOp, hs.sim.ev hx, hc, Sem.run_bind, hg, Result.andThen_ok, h, Sem.run_pure]
end
end Go.Wk
namespace Go.Proofs.YtonjepladadmhaaGreatDoor
open Go Go.RowKit Go.Wk
attribute [local irreducible] W RL Does thenQ blockQ retQ Calls Pu Stp RD Qy Ay DoesIn
structure YrG where
 k : Nat
 y : Int
theorem rulesE_len {a : DSource} (h : a.rules.length ≤ 1000000) (l : List DEra) : (rulesE a l).length ≤ 1000000 := by
 unfold rulesE
 split
 ·exact Nat.le_trans (List.length_filter_le _ _) h
 ·exact Nat.zero_le _
theorem PuFtO2 {G : Prop} (h : G := by (first | (apply Pu_indexAddrH; rfl; rfl; omega; omega; (intro w' _ hO; exact (row_cell (hO.of (A := .row (.slice B R.length d) 27 11 R.length (R.flatMap DRule.enc)) (by repeat' constructor)) hg1).1)) | (apply Pu_loadRN; rfl; (focus repeat' constructor); exact hgn; rfl) | (apply Pu_maxK; rfl; rfl; first | exact m1 | exact m2) | (apply Pu_neqB'; rfl; rfl; exact b2))) : G := h
theorem year_ok (Ar Az Al As : Option Addr) (cr cz cl cs : Nat) (a : DSource) (k : Nat) (z : DZone) (w : World) (h : AccOk w Ar Az Al As cr cz cl cs a) (hf : accD a = none) (hk : a.zones[k]? = some z) (hne : z.eras ≠ [])
  (hb : -1000000000 ≤ yearD a z.eras ∧ yearD a z.eras ≤ 1000000000) :
  Does Tryz.prog 16 [srcV Ar Az Al As cr cz cl cs a, .int .i64 k] w (fun v O => v = .tuple #[.int .i64 (yearD a z.eras), .int .i64 0] ∧ O = []) := by
 obtain ⟨hna, cs1, ⟨A, c, hE, rfl⟩, hca⟩ := h.A.z k _ hk
 have hfi := fun w' (hw : Bel w.heap.size w w') => find_ok Ar Az Al As cr cz cl cs a k z A c w' (h.up hw) hf hk hna (hca.up hw (Nat.le_refl _)) (hE.up hw) hne
 have hl : 0 < z.eras.length := List.length_pos_iff.2 hne
 have hel := (h.S.zs z (List.mem_of_getElem? hk)).2.1
 have hRl := rulesE_len h.S.nr z.eras
 have hy0 : yr0 z.eras = if 1 < z.eras.length then (z.eras.getD (z.eras.length - 2) dE0).til.year else 1849 := rfl
 unfold yearD at *
 generalize rulesE a z.eras = R at *
 clear h hk hca
 obtain ⟨y0, hyy⟩ : ∃ y0, yr0 z.eras = y0 := ⟨_, rfl⟩
 rw [hyy] at hy0 hb ⊢
 obtain ⟨res, hres⟩ : ∃ res, yrR R y0 = res := ⟨_, rfl⟩
 rw [hres] at hb ⊢
 refine Does_of_W Tryz.func16 rfl rfl rfl rfl ?_
 by_cases h1 : 1 < z.eras.length
 ·have b1 : decide ((1 : Int) < z.eras.length) = true := decide_eq_true (by omega)
  rw [if_pos h1] at hy0
  obtain ⟨e, he⟩ : ∃ e, z.eras[z.eras.length - 2]? = some e := ⟨_, List.getElem?_eq_getElem (by omega)⟩
  rw [List.getD_eq_getElem?_getD, he] at hy0
  simp only [Option.getD_some] at hy0
  obtain ⟨hna2, hca2⟩ := hE.rd _ _ he
  rw [show z.eras.length - 2 = ((z.eras.length : Int) - 2).toNat by omega] at hca2
  have hu : w.cell? ((((adr A).add (((z.eras.length : Int) - 2).toNat * 13)).add 5).add 1) = some (.int .i64 y0) := by
   rw [add_of_add]
   exact hca2 6 _ (by rw [hy0]; rfl)
  clear hca2 he hE hy0
  repeat (first | (apply RL_pu; rfl; (first | (apply Pu_gtrB; rfl; rfl; exact b1) | (apply Pu_indexAddr; rfl; rfl; omega; omega; exact hna2) | (apply Pu_loadO1; rfl; exact hu))) | (refine js ?_; (first | (apply Stp_call (h := fun w' hw _ => hfi w' hw); rfl; rintro v O' ⟨B, d, rfl, rfl⟩) | (refine bx ?_; intro bk))) | refine walk1 ?_)
  refine W_loopF [(7, .slice B R.length d), (33, .slice B R.length d), (34, .int .i64 R.length)] [.row (.slice B R.length d) 27 11 R.length (R.flatMap DRule.enc)] (fun g : YrG => [(35, .int .i64 g.k), (9, .int .i64 g.y)]) (fun _ => []) (fun g => g.k ≤ R.length ∧ yrR (R.drop g.k) g.y = res) (fun g => R.length - g.k) ⟨0, y0⟩ SFA SOA ⟨Nat.zero_le _, hres⟩ ?_
  clear hres
  rintro ⟨k, y⟩ ⟨hkl, hi⟩
  dsimp only at hkl hi ⊢
  repeat (first | (refine js ?_; (refine bx ?_; intro bk)) | refine walk ?_)
  refine W_cond rfl (fun hc => ?_) (fun hc => ?_)
  ·simp only [decide_eq_true_eq, Int.ofNat_lt] at hc
   rw [drop_cons hc, yrR] at hi
   have hg1 := flat_get DRule.len R k _ 0 _ (List.getElem?_eq_getElem hc) rfl
   have hgn : ∀ j v, (DRule.enc R[k])[j]? = some v → (R.flatMap DRule.enc)[k * 11 + j]? = some v := fun j v hj => flat_get DRule.len R k _ j v (List.getElem?_eq_getElem hc) hj
   generalize R[k] = r at *
   obtain ⟨nm, fr, to, mo, ⟨dk, dw, dd⟩, ⟨cs', cb⟩, sv, le⟩ := r
   simp only [DRule.enc] at hgn hg1
   dsimp only at hi
   have m1 : (if y < fr then fr else y) = max y fr := by split <;> omega
   have m2 : (if max y fr < to then to else max y fr) = max (max y fr) to := by split <;> omega
   by_cases hto : to = 1048576
   ·have b2 : (!decide (to = 1048576)) = false := by rw [decide_eq_true hto]; rfl
    rw [if_pos hto] at hi
    repeat (first | (apply RL_pu; rfl; exact PuFtO2) | (refine js ?_; (refine bx ?_; intro bk)) | refine walk1 ?_)
    exact ⟨⟨k + 1, max y fr⟩, OA, ⟨OA, hi⟩, SFA, SOA⟩
   ·have b2 : (!decide (to = 1048576)) = true := by rw [decide_eq_false hto]; rfl
    rw [if_neg hto] at hi
    repeat (first | (apply RL_pu; rfl; exact PuFtO2) | (refine js ?_; (refine bx ?_; intro bk)) | refine walk1 ?_)
    exact ⟨⟨k + 1, max (max y fr) to⟩, OA, ⟨OA, hi⟩, SFA, SOA⟩
  ·simp only [decide_eq_false_iff_not, Int.ofNat_lt] at hc
   rw [List.drop_eq_nil_of_le (by omega), yrR] at hi
   subst hi
   repeat (first | (refine js ?_; (refine bx ?_; intro bk)) | refine walk ?_)
   exact rtB
 ·have b1 : decide ((1 : Int) < z.eras.length) = false := decide_eq_false (by omega)
  rw [if_neg h1] at hy0
  subst hy0
  repeat (first | (apply RL_pu; rfl; (apply Pu_gtrB; rfl; rfl; exact b1)) | (refine js ?_; (first | (apply Stp_call (h := fun w' hw _ => hfi w' hw); rfl; rintro v O' ⟨B, d, rfl, rfl⟩) | (refine bx ?_; intro bk))) | refine walk1 ?_)
  refine W_loopF [(7, .slice B R.length d), (33, .slice B R.length d), (34, .int .i64 R.length)] [.row (.slice B R.length d) 27 11 R.length (R.flatMap DRule.enc)] (fun g : YrG => [(35, .int .i64 g.k), (9, .int .i64 g.y)]) (fun _ => []) (fun g => g.k ≤ R.length ∧ yrR (R.drop g.k) g.y = res) (fun g => R.length - g.k) ⟨0, 1849⟩ SFA SOA ⟨Nat.zero_le _, hres⟩ ?_
  clear hres
  rintro ⟨k, y⟩ ⟨hkl, hi⟩
  dsimp only at hkl hi ⊢
  repeat (first | (refine js ?_; (refine bx ?_; intro bk)) | refine walk ?_)
  refine W_cond rfl (fun hc => ?_) (fun hc => ?_)
  ·simp only [decide_eq_true_eq, Int.ofNat_lt] at hc
   rw [drop_cons hc, yrR] at hi
   have hg1 := flat_get DRule.len R k _ 0 _ (List.getElem?_eq_getElem hc) rfl
   have hgn : ∀ j v, (DRule.enc R[k])[j]? = some v → (R.flatMap DRule.enc)[k * 11 + j]? = some v := fun j v hj => flat_get DRule.len R k _ j v (List.getElem?_eq_getElem hc) hj
   generalize R[k] = r at *
   obtain ⟨nm, fr, to, mo, ⟨dk, dw, dd⟩, ⟨cs', cb⟩, sv, le⟩ := r
   simp only [DRule.enc] at hgn hg1
   dsimp only at hi
   have m1 : (if y < fr then fr else y) = max y fr := by split <;> omega
   have m2 : (if max y fr < to then to else max y fr) = max (max y fr) to := by split <;> omega
   by_cases hto : to = 1048576
   ·have b2 : (!decide (to = 1048576)) = false := by rw [decide_eq_true hto]; rfl
    rw [if_pos hto] at hi
    repeat (first | (apply RL_pu; rfl; exact PuFtO2) | (refine js ?_; (refine bx ?_; intro bk)) | refine walk1 ?_)
    exact ⟨⟨k + 1, max y fr⟩, OA, ⟨OA, hi⟩, SFA, SOA⟩
   ·have b2 : (!decide (to = 1048576)) = true := by rw [decide_eq_false hto]; rfl
    rw [if_neg hto] at hi
    repeat (first | (apply RL_pu; rfl; exact PuFtO2) | (refine js ?_; (refine bx ?_; intro bk)) | refine walk1 ?_)
    exact ⟨⟨k + 1, max (max y fr) to⟩, OA, ⟨OA, hi⟩, SFA, SOA⟩
  ·simp only [decide_eq_false_iff_not, Int.ofNat_lt] at hc
   rw [List.drop_eq_nil_of_le (by omega), yrR] at hi
   subst hi
   repeat (first | (refine js ?_; (refine bx ?_; intro bk)) | refine walk ?_)
   exact rtB
def ruS (sv : Int) : DRule := ⟨ByteArray.empty, 0, 0, 0, ⟨0, 0, 0⟩, ⟨0, 0⟩, sv, ByteArray.empty⟩
theorem PuFtO4 {G : Prop} (h : G := by (first | (apply Pu_indexAddr; rfl; rfl; omega; omega; exact hna2) | (apply Pu_loadON; rfl; exact hca2; rfl) | (apply Pu_neqB'; rfl; rfl; exact b3))) : G := h
theorem QyFtO4 {G : Prop} (h : G := by first | (apply Qy_y; rfl; exact PuFtO4) | exact QyA) : G := h
theorem QFFtO4 {G : Prop} (h : G := by repeat (first | exact QF.nil | (apply QF.mk; rfl; rfl; decide +kernel; exact QyFtO4))) : G := h
theorem of_one (Ar Az Al As : Option Addr) (cr cz cl cs : Nat) (a : DSource) (k : Nat) (z : DZone) (e : DEra) (w : World) (h : AccOk w Ar Az Al As cr cz cl cs a) (hf : accD a = none) (hk : a.zones[k]? = some z) (he : z.eras[z.eras.length - 1]? = some e)
  (hkd : e.kind ≠ 2) (hE1 : FtE e) (hsv : -1000000 ≤ e.save ∧ e.save ≤ 1000000) :
  Does Tryz.prog 20 [srcV Ar Az Al As cr cz cl cs a, .int .i64 k] w (fun v O => v = .tuple #[.agg (alwaysF e e.save ByteArray.empty).enc.toArray, .int .i64 0] ∧ O = []) := by
 obtain ⟨hna, cs1, ⟨A, c, hE, rfl⟩, hca⟩ := h.A.z k _ hk
 have hl : 0 < z.eras.length := by have := (List.getElem?_eq_some_iff.1 he).1; omega
 have hfi := fun w' (hw : Bel w.heap.size w w') => find_ok Ar Az Al As cr cz cl cs a k z A c w' (h.up hw) hf hk hna (hca.up hw (Nat.le_refl _)) (hE.up hw) (List.length_pos_iff.1 hl)
 have hal := fun w' (hw : Bel w.heap.size w w') => ftAlways_spec e (ruS e.save) w' (h.L.up hw) hE1 ⟨Nat.zero_le _, hsv⟩
 have hel := (h.S.zs z (List.mem_of_getElem? hk)).2.1
 have hRl := rulesE_len h.S.nr z.eras
 obtain ⟨hna2, hca2⟩ := hE.rd _ _ he
 rw [show z.eras.length - 1 = ((z.eras.length : Int) - 1).toNat by omega] at hca2
 change ∀ w', Bel w.heap.size w w' → Does _ _ _ w' (fun v O => v = .agg (alwaysF e e.save ByteArray.empty).enc.toArray ∧ O = []) at hal
 generalize alwaysF e e.save ByteArray.empty = p at *
 have b3 : (!decide (e.kind = 2)) = true := by rw [decide_eq_false hkd]; rfl
 generalize rulesE a z.eras = R at *
 clear h hf hk hca he hE hkd hE1 hsv
 obtain ⟨off, kd, esv, st, fm, ⟨ui, uy, um, ⟨ud1, ud2, ud3⟩, ⟨uc1, uc2⟩⟩⟩ := e
 obtain ⟨p1, p2, p3, p4, ⟨p5, p6, p7, p8, p9⟩, ⟨q1, q2, q3, q4, q5⟩⟩ := p
 change CellsAt w _ [.int .i64 off, .int .i64 kd, .int .i64 esv, .string st, .string fm, .bool ui, .int .i64 uy, .int .i64 um, .int .i64 ud1, .int .i64 ud2, .int .i64 ud3, .int .i64 uc1, .int .i64 uc2] at hca2
 change ∀ w', Bel w.heap.size w w' → Does _ _ [.agg #[.int .i64 off, .int .i64 kd, .int .i64 esv, .string st, .string fm, .bool ui, .int .i64 uy, .int .i64 um, .int .i64 ud1, .int .i64 ud2, .int .i64 ud3, .int .i64 uc1, .int .i64 uc2], .agg #[.string ByteArray.empty, .int .i64 0, .int .i64 0, .int .i64 0, .int .i64 0, .int .i64 0, .int .i64 0, .int .i64 0, .int .i64 0, .int .i64 esv, .string ByteArray.empty]] w' (fun v O => v = .agg #[.string p1, .int .i64 p2, .string p3, .int .i64 p4, .int .i64 p5, .int .i64 p6, .int .i64 p7, .int .i64 p8, .int .i64 p9, .int .i64 q1, .int .i64 q2, .int .i64 q3, .int .i64 q4, .int .i64 q5] ∧ O = []) at hal
 dsimp only at b3 ⊢
 refine Does_of_W Tryz.func20 rfl rfl rfl rfl ?_
 repeat (first | (apply RL_pu; rfl; exact PuFtO4) | (apply RD_Q; rfl; rfl; decide +kernel; rfl; rfl; exact QyFtO4) | refine walk1 ?_ | (refine jg ?_; (try intro F); (first | (apply Stp_call (h := fun w' hw _ => hfi w' hw); rfl; rintro v O' ⟨B, d, rfl, rfl⟩) | (refine callE hal ?_) | (refine bx ?_; intro bk) | (refine stA ?_)); first | refine ⟨_, EndsA, QFFtO4, ?_⟩ | refine fin ?_) | (refine jn ?_; (try intro F); (first | (refine bx ?_; intro bk) | (refine stA ?_) | (apply Stp_pu; first | exact PuFtO4 | exact PuA)); first | refine ⟨_, EndsA, QFFtO4, ?_⟩ | refine fin ?_) | (apply RD_W; rfl; intro bk))
 exact rtC
structure OfG where
 k : Nat
 s : Option Nat
 e : Option Nat
theorem PuFtO5 {G : Prop} (h : G := by (first | (apply Pu_indexAddrH; rfl; rfl; omega; omega; (intro w' _ hO; exact (row_cell (hO.of (A := .row (.slice B R.length d) 27 11 R.length (R.flatMap DRule.enc)) (by repeat' constructor)) hg1).1)) | (apply Pu_loadRN; rfl; (focus repeat' constructor); exact hgn; rfl) | (apply Pu_neqB'; rfl; rfl; exact b2) | (apply Pu_eqlB; rfl; rfl; exact b4))) : G := h
theorem QyFtO5 {G : Prop} (h : G := by first | (apply Qy_y; rfl; exact PuFtO5) | exact QyA) : G := h
theorem QFFtO5 {G : Prop} (h : G := by repeat (first | exact QF.nil | (apply QF.mk; rfl; rfl; decide +kernel; exact QyFtO5))) : G := h
theorem PuFtO6 {G : Prop} (h : G := by (first | (apply Pu_indexAddrH; rfl; rfl; omega; omega; (intro w' _ hO; exact (row_cell (hO.of (A := .row (.slice B R.length d) 27 11 R.length (R.flatMap DRule.enc)) (by repeat' constructor)) hg1).1)) | (apply Pu_loadRN; rfl; (focus repeat' constructor); exact hgn; rfl) | (apply Pu_neqB'; rfl; rfl; exact b2))) : G := h
theorem QyFtO6 {G : Prop} (h : G := by first | (apply Qy_y; rfl; exact PuFtO6) | exact QyA) : G := h
theorem QFFtO6 {G : Prop} (h : G := by repeat (first | exact QF.nil | (apply QF.mk; rfl; rfl; decide +kernel; exact QyFtO6))) : G := h
theorem PuFtO7 {G : Prop} (h : G := by (first | (apply Pu_neqPtr; exact ⟨_, Tryz.underlying141⟩; rfl) | (apply Pu_nilCheck; rfl) | (apply Pu_loadRN; rfl; (focus repeat' constructor); exact hgi; exact DRule.len r) | (apply Pu_loadRN; rfl; (focus repeat' constructor); exact hgj; exact DRule.len q))) : G := h
theorem QyFtO7 {G : Prop} (h : G := by first | (apply Qy_y; rfl; exact PuFtO7) | exact QyA) : G := h
theorem QFFtO7 {G : Prop} (h : G := by repeat (first | exact QF.nil | (apply QF.mk; rfl; rfl; decide +kernel; exact QyFtO7))) : G := h
theorem of_two (Ar Az Al As : Option Addr) (cr cz cl cs : Nat) (a : DSource) (k : Nat) (z : DZone) (e : DEra) (i j : Nat) (r q : DRule) (w : World) (h : AccOk w Ar Az Al As cr cz cl cs a) (hF : FtG w) (hf : accD a = none) (hk : a.zones[k]? = some z) (he : z.eras[z.eras.length - 1]? = some e)
  (hkd : e.kind = 2) (hE1 : FtE e) (hse : seF (rulesE a z.eras) 0 (none, none) = (some i, some j)) (hri : (rulesE a z.eras)[i]? = some r) (hrj : (rulesE a z.eras)[j]? = some q) (hr : FtRu r) (hq : FtRu q) :
  Does Tryz.prog 20 [srcV Ar Az Al As cr cz cl cs a, .int .i64 k] w (fun v O => v = .tuple #[.agg (twiceF e r q).enc.toArray, .int .i64 0] ∧ O = []) := by
 obtain ⟨hna, cs1, ⟨A, c, hE, rfl⟩, hca⟩ := h.A.z k _ hk
 have hl : 0 < z.eras.length := by have := (List.getElem?_eq_some_iff.1 he).1; omega
 have hfi := fun w' (hw : Bel w.heap.size w w') => find_ok Ar Az Al As cr cz cl cs a k z A c w' (h.up hw) hf hk hna (hca.up hw (Nat.le_refl _)) (hE.up hw) (List.length_pos_iff.1 hl)
 have htw := fun w' (hw : Bel w.heap.size w w') => ftTwice_spec e r q w' (h.L.up hw) (h.G.up hw) (hF.up hw) hE1 hr hq
 have hel := (h.S.zs z (List.mem_of_getElem? hk)).2.1
 have hRl := rulesE_len h.S.nr z.eras
 obtain ⟨hna2, hca2⟩ := hE.rd _ _ he
 rw [show z.eras.length - 1 = ((z.eras.length : Int) - 1).toNat by omega] at hca2
 generalize twiceF e r q = p at *
 have b3 : (!decide (e.kind = 2)) = false := by rw [decide_eq_true hkd]; rfl
 generalize rulesE a z.eras = R at *
 have hgi : ∀ m v, (DRule.enc r)[m]? = some v → (R.flatMap DRule.enc)[i * 11 + m]? = some v := fun m v hm => flat_get DRule.len R i _ m v hri hm
 have hgj : ∀ m v, (DRule.enc q)[m]? = some v → (R.flatMap DRule.enc)[j * 11 + m]? = some v := fun m v hm => flat_get DRule.len R j _ m v hrj hm
 clear h hf hk hca he hE hkd hE1 hri hrj hr hq hF
 obtain ⟨off, kd, esv, st, fm, ⟨ui, uy, um, ⟨ud1, ud2, ud3⟩, ⟨uc1, uc2⟩⟩⟩ := e
 obtain ⟨p1, p2, p3, p4, ⟨p5, p6, p7, p8, p9⟩, ⟨q1, q2, q3, q4, q5⟩⟩ := p
 change CellsAt w _ [.int .i64 off, .int .i64 kd, .int .i64 esv, .string st, .string fm, .bool ui, .int .i64 uy, .int .i64 um, .int .i64 ud1, .int .i64 ud2, .int .i64 ud3, .int .i64 uc1, .int .i64 uc2] at hca2
 change ∀ w', Bel w.heap.size w w' → Does _ _ [.agg #[.int .i64 off, .int .i64 kd, .int .i64 esv, .string st, .string fm, .bool ui, .int .i64 uy, .int .i64 um, .int .i64 ud1, .int .i64 ud2, .int .i64 ud3, .int .i64 uc1, .int .i64 uc2], .agg r.enc.toArray, .agg q.enc.toArray] w' (fun v O => v = .agg #[.string p1, .int .i64 p2, .string p3, .int .i64 p4, .int .i64 p5, .int .i64 p6, .int .i64 p7, .int .i64 p8, .int .i64 p9, .int .i64 q1, .int .i64 q2, .int .i64 q3, .int .i64 q4, .int .i64 q5] ∧ O = []) at htw
 dsimp only at b3 ⊢
 refine Does_of_W Tryz.func20 rfl rfl rfl rfl ?_
 repeat (first | (apply RL_pu; rfl; exact PuFtO4) | (apply RD_Q; rfl; rfl; decide +kernel; rfl; rfl; exact QyFtO4) | refine walk1 ?_ | (refine jg ?_; (try intro F); (first | (apply Stp_call (h := fun w' hw _ => hfi w' hw); rfl; rintro v O' ⟨B, d, rfl, rfl⟩) | (refine bx ?_; intro bk) | (refine stA ?_)); first | refine ⟨_, EndsA, QFFtO4, ?_⟩ | refine fin ?_) | (refine jn ?_; (try intro F); (first | (refine bx ?_; intro bk) | (refine stA ?_) | (apply Stp_pu; first | exact PuFtO4 | exact PuA)); first | refine ⟨_, EndsA, QFFtO4, ?_⟩ | refine fin ?_) | (apply RD_W; rfl; intro bk))
 rename_i b2 b4
 generalize bk = b9
 refine W_loopF [(4, .pointer (some ⟨b4, 0, none⟩)), (7, .slice B R.length d), (9, .pointer (some ⟨b9, 0, none⟩)), (41, .slice B R.length d), (42, .int .i64 R.length)] [.row (.slice B R.length d) 27 11 R.length (R.flatMap DRule.enc), .blk b9 [.int .i64 off, .int .i64 kd, .int .i64 esv, .string st, .string fm, .bool ui, .int .i64 uy, .int .i64 um, .int .i64 ud1, .int .i64 ud2, .int .i64 ud3, .int .i64 uc1, .int .i64 uc2] 55, .blk b4 [.string ByteArray.empty, .int .i64 0, .string ByteArray.empty, .int .i64 0, .int .i64 0, .int .i64 0, .int .i64 0, .int .i64 0, .int .i64 0, .int .i64 0, .int .i64 0, .int .i64 0, .int .i64 0, .int .i64 0] 70]
  (fun g : OfG => [(43, .int .i64 g.k), (10, .pointer (g.s.map fun i => (adr B).add (i * 11))), (11, .pointer (g.e.map fun i => (adr B).add (i * 11)))]) (fun _ => []) (fun g => g.k ≤ R.length ∧ seF (R.drop g.k) g.k (g.s, g.e) = (some i, some j)) (fun g => R.length - g.k) ⟨0, none, none⟩ SFA SOA ⟨Nat.zero_le _, hse⟩ ?_
 clear hse
 rintro ⟨k, s, t⟩ ⟨hkl, hi⟩
 dsimp only at hkl hi ⊢
 repeat (first | refine walk ?_ | (refine jn ?_; (try intro F); (first | (refine bx ?_; intro bk) | (refine stA ?_) | (apply Stp_pu; exact PuA)); refine fin ?_) | (apply RD_W; rfl; intro bk))
 refine W_cond rfl (fun hc => ?_) (fun hc => ?_)
 ·simp only [decide_eq_true_eq, Int.ofNat_lt] at hc
  rw [drop_cons hc, seF] at hi
  have hg1 := flat_get DRule.len R k _ 0 _ (List.getElem?_eq_getElem hc) rfl
  have hgn : ∀ j v, (DRule.enc R[k])[j]? = some v → (R.flatMap DRule.enc)[k * 11 + j]? = some v := fun j v hj => flat_get DRule.len R k _ j v (List.getElem?_eq_getElem hc) hj
  generalize R[k] = r1 at *
  obtain ⟨nm, fr, to, mo, ⟨dk, dw, dd⟩, ⟨cs', cb⟩, sv, le⟩ := r1
  simp only [DRule.enc] at hgn hg1
  dsimp only at hi
  by_cases hto : to = 1048576
  ·have b2 : (!decide (to = 1048576)) = false := by rw [decide_eq_true hto]; rfl
   rw [if_pos hto] at hi
   by_cases hsv : sv = 0
   ·have b4 : decide (sv = 0) = true := decide_eq_true hsv
    rw [if_pos hsv] at hi
    repeat (first | (apply RL_pu; rfl; exact PuFtO5) | (apply RD_Q; rfl; rfl; decide +kernel; rfl; rfl; exact QyFtO5) | refine walk1 ?_ | (refine jn ?_; (try intro F); (first | (refine bx ?_; intro bk) | (refine stA ?_) | (apply Stp_pu; first | exact PuFtO5 | exact PuA)); first | refine ⟨_, EndsA, QFFtO5, ?_⟩ | refine fin ?_) | (apply RD_W; rfl; intro bk))
    exact ⟨⟨k + 1, s, some k⟩, OA, ⟨OA, hi⟩, SFA, SOA⟩
   ·have b4 : decide (sv = 0) = false := decide_eq_false hsv
    rw [if_neg hsv] at hi
    repeat (first | (apply RL_pu; rfl; exact PuFtO5) | (apply RD_Q; rfl; rfl; decide +kernel; rfl; rfl; exact QyFtO5) | refine walk1 ?_ | (refine jn ?_; (try intro F); (first | (refine bx ?_; intro bk) | (refine stA ?_) | (apply Stp_pu; first | exact PuFtO5 | exact PuA)); first | refine ⟨_, EndsA, QFFtO5, ?_⟩ | refine fin ?_) | (apply RD_W; rfl; intro bk))
    exact ⟨⟨k + 1, some k, t⟩, OA, ⟨OA, hi⟩, SFA, SOA⟩
  ·have b2 : (!decide (to = 1048576)) = true := by rw [decide_eq_false hto]; rfl
   rw [if_neg hto] at hi
   repeat (first | (apply RL_pu; rfl; exact PuFtO6) | (apply RD_Q; rfl; rfl; decide +kernel; rfl; rfl; exact QyFtO6) | refine walk1 ?_ | (refine jn ?_; (try intro F); (first | (refine bx ?_; intro bk) | (refine stA ?_) | (apply Stp_pu; first | exact PuFtO6 | exact PuA)); first | refine ⟨_, EndsA, QFFtO6, ?_⟩ | refine fin ?_) | (apply RD_W; rfl; intro bk))
   exact ⟨⟨k + 1, s, t⟩, OA, ⟨OA, hi⟩, SFA, SOA⟩
 ·simp only [decide_eq_false_iff_not, Int.ofNat_lt] at hc
  rw [List.drop_eq_nil_of_le (by omega), seF] at hi
  obtain ⟨rfl, rfl⟩ := Prod.mk.inj hi
  simp only [Option.map_some]
  repeat (first | (apply RL_pu; rfl; exact PuFtO7) | (apply RD_Q; rfl; rfl; decide +kernel; rfl; rfl; exact QyFtO7) | refine walk1 ?_ | (refine jg ?_; (try intro F); (first | (refine callE htw ?_) | (refine bx ?_; intro bk) | (refine stA ?_)); first | refine ⟨_, EndsA, QFFtO7, ?_⟩ | refine fin ?_) | (refine jn ?_; (try intro F); (first | (refine bx ?_; intro bk) | (refine stA ?_) | (apply Stp_pu; first | exact PuFtO7 | exact PuA)); first | refine ⟨_, EndsA, QFFtO7, ?_⟩ | refine fin ?_) | (apply RD_W; rfl; intro bk))
  exact rtC
end Go.Proofs.YtonjepladadmhaaGreatDoor
namespace Go.Wk
open Go Go.RowKit
theorem Pu_eqEB {P : Program} {n : Nat} {wr : World} {fr : Fr} {O : List It} {ty t t' : TypeId} {α : Type} [DecidableEq α] {enc : α → List Value} {x y : Operand} {i j : α} {b : Bool} [hE : EqE P t α enc] (hx : ev fr x = some (.agg (enc i).toArray)) (hy : ev fr y = some (.agg (enc j).toArray)) (h : decide (i = j) = b) :
  Pu P n wr fr O (.binOp .eql t x y t') ty (.bool b) := h ▸ Pu_eqlE hx hy
theorem Pu_neEB {P : Program} {n : Nat} {wr : World} {fr : Fr} {O : List It} {ty t t' : TypeId} {α : Type} [DecidableEq α] {enc : α → List Value} {x y : Operand} {i j : α} {b : Bool} [hE : EqE P t α enc] (hx : ev fr x = some (.agg (enc i).toArray)) (hy : ev fr y = some (.agg (enc j).toArray)) (h : (!decide (i = j)) = b) :
  Pu P n wr fr O (.binOp .neq t x y t') ty (.bool b) := h ▸ Pu_neqE hx hy
end Go.Wk
namespace Go.Proofs.YtonjepladadmhaaGreatDoor
open Go Go.RowKit Go.Wk
instance : EqE Tryz.prog 29 DDate DDate.enc where
 h r s w := by
  unfold DDate.enc
  simp [go_sem, toList_inj]
  rcases r with ⟨_, _, _, _, _⟩
  rcases s with ⟨_, _, _, _, _⟩
  simp only [ok_ite, Result.ok.injEq, and_true]
  rw [Bool.eq_iff_iff]
  simp [and_assoc]
 g := by kernel_rfl
instance : EqE Tryz.prog 70 DPosix DPosix.enc where
 h r s w := by
  unfold DPosix.enc
  simp [go_sem, toList_inj]
  rcases r with ⟨_, _, _, _, ⟨_, _, _, _, _⟩, ⟨_, _, _, _, _⟩⟩
  rcases s with ⟨_, _, _, _, ⟨_, _, _, _, _⟩, ⟨_, _, _, _, _⟩⟩
  simp only [ok_ite, Result.ok.injEq, and_true]
  rw [Bool.eq_iff_iff]
  simp [and_assoc]
 g := by kernel_rfl
end Go.Proofs.YtonjepladadmhaaGreatDoor
namespace Go.Wk
open Go Go.RowKit
section
variable {P : Program} {n : Nat} {wr : World} {fr : Fr} {O : List It} {ty : TypeId} {pos : String} {af : Array Edge} {dst : Option Tmp} {g : Option (Nat × Bool)} {Kp : Value → List It → Prop}
end
theorem RdSl.pre {α : Type} {w : World} {A : Option Addr} {c sz : Nat} {enc : α → List Value} {x y : List α} (h : RdSl w A c enc sz (x ++ y)) : RdSl w A c enc sz x :=
 ⟨by have := h.le; rw [List.length_append] at this; omega, h.cap, fun k v hv => h.rd k v (by
  have hk := (List.getElem?_eq_some_iff.1 hv).1
  rw [List.getElem?_append_left hk]; exact hv)⟩
end Go.Wk
namespace Go.Proofs.YtonjepladadmhaaGreatDoor
open Go Go.RowKit Go.Wk
def okR (r : DRule) : Bool := decide (r.name.size ≤ 1000000000) && (decide (r.letter.size ≤ 1000000000) && (decide (-9223372036854775808 ≤ r.save) && decide (r.save ≤ 9223372036854775807)))
def okI (n : Int) : Bool := decide (-9223372036854775808 ≤ n) && decide (n ≤ 9223372036854775807)
def okE (e : DEra) : Bool := okI e.off && (okI e.save && (okI e.kind && (decide (e.format.size ≤ 1000000000) && decide (e.set.size ≤ 1000000000))))
def okZ (z : DZone) : Bool := decide (z.name.size ≤ 1000000000) && (decide (z.eras.length ≤ 1000000) && z.eras.all okE)
def okL (l : DLink) : Bool := decide (l.target.size ≤ 1000000000) && decide (l.name.size ≤ 1000000000)
def okD (s : DSource) : Bool := decide (s.rules.length ≤ 1000000) && (decide (s.zones.length ≤ 1000000) && (decide (s.links.length ≤ 1000000) && (decide (s.shifts.length ≤ 1000000) && (s.rules.all okR && (s.zones.all okZ && s.links.all okL)))))
theorem okI_64 {n : Int} (h : okI n = true) : I64 n := by
 unfold okI at h
 rw [Bool.and_eq_true, decide_eq_true_eq, decide_eq_true_eq] at h
 exact h
theorem okD_ok {s : DSource} (h : okD s = true) : SrcOk s ∧ SavI s ∧ ∀ z ∈ s.zones, ∀ e ∈ z.eras, EraOk e := by
 unfold okD at h
 simp only [Bool.and_eq_true, decide_eq_true_eq, List.all_eq_true] at h
 obtain ⟨h1, h2, h3, h4, h5, h6, h7⟩ := h
 have hr : ∀ r ∈ s.rules, _ := fun r hr => by
  have := h5 r hr
  unfold okR at this
  simp only [Bool.and_eq_true, decide_eq_true_eq] at this
  exact this
 have hz : ∀ z ∈ s.zones, z.name.size ≤ 1000000000 ∧ z.eras.length ≤ 1000000 ∧ ∀ e ∈ z.eras, okE e = true := fun z hz => by
  have := h6 z hz
  unfold okZ at this
  simp only [Bool.and_eq_true, decide_eq_true_eq, List.all_eq_true] at this
  exact this
 have he : ∀ e, okE e = true → I64 e.off ∧ I64 e.save ∧ I64 e.kind ∧ e.format.size ≤ 1000000000 ∧ e.set.size ≤ 1000000000 := fun e he => by
  unfold okE at he
  simp only [Bool.and_eq_true, decide_eq_true_eq] at he
  exact ⟨okI_64 he.1, okI_64 he.2.1, okI_64 he.2.2.1, he.2.2.2⟩
 refine ⟨⟨h1, h2, h3, h4, fun r h => ⟨(hr r h).1, (hr r h).2.1⟩, fun z h => ⟨(hz z h).1, (hz z h).2.1, fun e h' => ⟨(he e ((hz z h).2.2 e h')).2.2.2.2, (he e ((hz z h).2.2 e h')).2.2.2.1⟩⟩, fun l h => ?_⟩, fun r h => ⟨(hr r h).2.2.1, (hr r h).2.2.2⟩, fun z h e h' => ?_⟩
 ·have := h7 l h
  unfold okL at this
  simp only [Bool.and_eq_true, decide_eq_true_eq] at this
  exact this
 ·have := he e ((hz z h).2.2 e h')
  exact ⟨this.1, this.2.1, this.2.2.1, this.2.2.2.1⟩
theorem accOk {w w' : World} {Ar Az Al As : Option Addr} {cr cz cl cs : Nat} {a : DSource} (hL : LibW w) (hG : Glob w) (hw : Bel w.heap.size w w') (h : okD a = true) (hA : RdSource w' Ar Az Al As cr cz cl cs a) : AccOk w' Ar Az Al As cr cz cl cs a :=
 ⟨hL.up hw, hG.up hw, hA, (okD_ok h).1, (okD_ok h).2.1, (okD_ok h).2.2⟩
theorem iEnc.len (i : Int) : (iEnc i).length = 1 := rfl
attribute [local irreducible] W RL Does thenQ blockQ retQ Calls Pu Stp RD Qy Ay DoesIn
theorem ftSun_spec (n : Int) (w : World) : Does Tryz.prog 22 [.int .i64 n] w (fun v O => v = .agg #[.int .i64 3, .int .i64 0, .int .i64 n] ∧ O = []) := by
 refine Does_of_W Tryz.func22 rfl rfl rfl rfl ?_
 repeat (first | (refine js ?_; (refine bx ?_; intro bk)) | refine walk ?_)
 exact ret_1 _ [] (.cellB rfl (by repeat' constructor) rfl rfl) .nil ⟨rfl, rfl⟩
theorem ftFixed_spec (n : Int) (w : World) : Does Tryz.prog 23 [.int .i64 n] w (fun v O => v = .agg #[.int .i64 1, .int .i64 0, .int .i64 n] ∧ O = []) := by
 refine Does_of_W Tryz.func23 rfl rfl rfl rfl ?_
 repeat (first | (refine js ?_; (refine bx ?_; intro bk)) | refine walk ?_)
 exact ret_1 _ [] (.cellB rfl (by repeat' constructor) rfl rfl) .nil ⟨rfl, rfl⟩
theorem ftRule_spec (m k wk dd sec save : Int) (w : World) : Does Tryz.prog 21 [.int .i64 m, .agg #[.int .i64 k, .int .i64 wk, .int .i64 dd], .int .i64 sec, .int .i64 save] w (fun v O => v = .agg #[.string eireN, .int .i64 1972, .int .i64 1048576, .int .i64 m, .int .i64 k, .int .i64 wk, .int .i64 dd, .int .i64 sec, .int .i64 2, .int .i64 save, .string ByteArray.empty] ∧ O = []) := by
 refine Does_of_W Tryz.func21 rfl rfl rfl rfl ?_
 repeat (first | (refine js ?_; (refine bx ?_; intro bk)) | refine walk ?_)
 exact ret_1 _ [] (.cellB rfl (by repeat' constructor) rfl rfl) .nil ⟨rfl, rfl⟩
theorem fdateT (r : DRule) (off before : Int) (x : DDate) (e : Int) (w : World) (hG : Glob w) (hF : FtG w) (h : dateD r off before = (x, e)) : Does Tryz.prog 12 [.agg r.enc.toArray, .int .i64 off, .int .i64 before] w (fun v O => v = .tuple #[.agg x.enc.toArray, .int .i64 e] ∧ O = []) := by
 have := fdate_spec r off before w hG hF
 rwa [h] at this
theorem failsT (r : DRule) (w : World) (hG : Glob w) (hF : FtG w) (h : dateD r 0 0 = (dt0, 2)) : Does Tryz.prog 24 [.agg r.enc.toArray] w (fun v O => v = .bool true ∧ O = []) := by
 have hd : ∀ w', Bel w.heap.size w w' → Does Tryz.prog 12 [.agg r.enc.toArray, .int .i64 0, .int .i64 0] w' (fun v O => v = .tuple #[.agg #[.int .i64 0, .int .i64 0, .int .i64 0, .int .i64 0, .int .i64 0], .int .i64 2] ∧ O = []) := fun w' hw => fdateT r 0 0 dt0 2 w' (hG.up hw) (hF.up hw) h
 clear h
 obtain ⟨nm, fr, to, mo, ⟨dk, dw, dd⟩, ⟨cs, cb⟩, sv, le⟩ := r
 show Does _ _ [.agg #[.string nm, .int .i64 fr, .int .i64 to, .int .i64 mo, .int .i64 dk, .int .i64 dw, .int .i64 dd, .int .i64 cs, .int .i64 cb, .int .i64 sv, .string le]] w _
 refine Does_of_W Tryz.func24 rfl rfl rfl rfl ?_
 repeat (first | (apply RL_pu; rfl; (apply Pu_eqEB (i := dt0) (j := dt0) (enc := DDate.enc); rfl; rfl; exact decide_eq_true rfl)) | (refine js ?_; (first | (refine callE hd ?_) | (refine bx ?_; intro bk))) | refine walk1 ?_)
 exact rtA
theorem saysT (Ar Az Al As : Option Addr) (cr cz cl cs : Nat) (a : DSource) (p : DPosix) (y : Int) (w : World) (h1 : ∀ w', Bel w.heap.size w w' → Does Tryz.prog 20 [srcV Ar Az Al As cr cz cl cs a, .int .i64 0] w' (fun v O => v = .tuple #[.agg p.enc.toArray, .int .i64 0] ∧ O = []))
  (h2 : ∀ w', Bel w.heap.size w w' → Does Tryz.prog 16 [srcV Ar Az Al As cr cz cl cs a, .int .i64 0] w' (fun v O => v = .tuple #[.int .i64 y, .int .i64 0] ∧ O = [])) :
  Does Tryz.prog 47 [srcV Ar Az Al As cr cz cl cs a, .agg p.enc.toArray, .int .i64 y] w (fun v O => v = .bool true ∧ O = []) := by
 obtain ⟨p1, p2, p3, p4, ⟨p5, p6, p7, p8, p9⟩, ⟨q1, q2, q3, q4, q5⟩⟩ := p
 have e1 : decide (y = y) = true := decide_eq_true rfl
 change ∀ w', Bel w.heap.size w w' → Does _ _ _ w' (fun v O => v = .tuple #[.agg #[.string p1, .int .i64 p2, .string p3, .int .i64 p4, .int .i64 p5, .int .i64 p6, .int .i64 p7, .int .i64 p8, .int .i64 p9, .int .i64 q1, .int .i64 q2, .int .i64 q3, .int .i64 q4, .int .i64 q5], .int .i64 0] ∧ O = []) at h1
 show Does _ _ [_, .agg #[.string p1, .int .i64 p2, .string p3, .int .i64 p4, .int .i64 p5, .int .i64 p6, .int .i64 p7, .int .i64 p8, .int .i64 p9, .int .i64 q1, .int .i64 q2, .int .i64 q3, .int .i64 q4, .int .i64 q5], .int .i64 y] w _
 refine Does_of_W Tryz.func47 rfl rfl rfl rfl ?_
 repeat (first | (apply RL_pu; rfl; (first | (apply Pu_eqEB (i := (⟨p1, p2, p3, p4, ⟨p5, p6, p7, p8, p9⟩, ⟨q1, q2, q3, q4, q5⟩⟩ : DPosix)) (j := ⟨p1, p2, p3, p4, ⟨p5, p6, p7, p8, p9⟩, ⟨q1, q2, q3, q4, q5⟩⟩) (enc := DPosix.enc); rfl; rfl; exact decide_eq_true rfl) | (apply Pu_eqlB; rfl; rfl; exact e1))) | (refine js ?_; (first | (refine callE h1 ?_) | (refine callE h2 ?_) | (refine bx ?_; intro bk))) | refine walk1 ?_)
 exact rtA
theorem zo_rd {w : World} {Ar Ae : Option Addr} {cr ce bz : Nat} {rs : List DRule} {nm : ByteArray} {es : List DEra} (hr : RdSl w Ar cr DRule.enc 11 rs) (hz : (It.blk bz [.string nm, .slice Ae es.length ce] 51).sat w) (he : RdSl w Ae ce DEra.enc 13 es) : RdSource w Ar (some ⟨bz, 0, none⟩) none none cr 1 0 0 ⟨rs, [⟨nm, es⟩], [], []⟩ :=
 ⟨hr, Nat.le_refl 1, by decide, zones_rd (litRd (c := 1) (l := [(⟨⟨nm, es⟩, Ae, ce⟩ : ZE)]) ZE.len (Nat.le_refl 1) (by decide) hz) (fun q hq => by rw [List.mem_singleton.1 hq]; exact he), nilRd _ _ _, nilRd _ _ _⟩
def EireR (v : Value) (O : List It) : Prop := ∃ br be bz, v = .agg #[.slice (some ⟨br, 0, none⟩) 3 3, .slice (some ⟨bz, 0, none⟩) 1 1, .slice none 0 0, .slice none 0 0] ∧
 O = [.blk bz [.string dubN, .slice (some ⟨be, 0, none⟩) 2 2] 51, .blk be (w38era1.enc ++ w38era2.enc) 55, .blk br (w38one.enc ++ (w38mar.enc ++ w38oct.enc)) 27]
theorem eire_spec (w : World) : Does Tryz.prog 48 [] w EireR := by
 refine Does_of_W Tryz.func48 rfl rfl rfl rfl ?_
 repeat' (first | (refine js ?_; (first | (refine callE (fun w' _ => ftSun_spec 15 w') ?_) | (refine callE (fun w' _ => ftFixed_spec 31 w') ?_) | (refine callE (fun w' _ => ftFixed_spec 27 w') ?_) | (refine callE (fun w' _ => ftRule_spec 10 1 0 31 7200 (-3600) w') ?_) | (refine callE (fun w' _ => ftRule_spec 3 3 0 15 7200 0 w') ?_) | (refine callE (fun w' _ => ftRule_spec 10 2 0 0 3600 (-3600) w') ?_) | (refine bx ?_; intro bk))) | refine walk ?_ | (refine RD_G0w ?_; intro F; (first | (refine callE (fun w' _ => ftSun_spec 15 w') ?_) | (refine callE (fun w' _ => ftFixed_spec 31 w') ?_) | (refine callE (fun w' _ => ftFixed_spec 27 w') ?_) | (refine callE (fun w' _ => ftRule_spec 10 1 0 31 7200 (-3600) w') ?_) | (refine callE (fun w' _ => ftRule_spec 3 3 0 15 7200 0 w') ?_) | (refine callE (fun w' _ => ftRule_spec 10 2 0 0 3600 (-3600) w') ?_)); refine ⟨_, EndsA, SubO.right _ _, ?_⟩) | (refine RD_G1w (fun bk => ?_) ?_; rotate_left; intro F; (first | (refine callE (fun w' _ => ftSun_spec 15 w') ?_) | (refine callE (fun w' _ => ftFixed_spec 31 w') ?_) | (refine callE (fun w' _ => ftFixed_spec 27 w') ?_) | (refine callE (fun w' _ => ftRule_spec 10 1 0 31 7200 (-3600) w') ?_) | (refine callE (fun w' _ => ftRule_spec 3 3 0 15 7200 0 w') ?_) | (refine callE (fun w' _ => ftRule_spec 10 2 0 0 3600 (-3600) w') ?_)); refine ⟨_, EndsA, SubO.right _ _, ?_⟩) | (refine RD_G2w (fun bk => ?_) (fun bk => ?_) ?_; rotate_left 2; intro F; (first | (refine callE (fun w' _ => ftSun_spec 15 w') ?_) | (refine callE (fun w' _ => ftFixed_spec 31 w') ?_) | (refine callE (fun w' _ => ftFixed_spec 27 w') ?_) | (refine callE (fun w' _ => ftRule_spec 10 1 0 31 7200 (-3600) w') ?_) | (refine callE (fun w' _ => ftRule_spec 3 3 0 15 7200 0 w') ?_) | (refine callE (fun w' _ => ftRule_spec 10 2 0 0 3600 (-3600) w') ?_)); refine ⟨_, EndsA, SubO.right _ _, ?_⟩) | (refine RD_Lw ?_; intro F; (first | (refine callE (fun w' _ => ftSun_spec 15 w') ?_) | (refine callE (fun w' _ => ftFixed_spec 31 w') ?_) | (refine callE (fun w' _ => ftFixed_spec 27 w') ?_) | (refine callE (fun w' _ => ftRule_spec 10 1 0 31 7200 (-3600) w') ?_) | (refine callE (fun w' _ => ftRule_spec 3 3 0 15 7200 0 w') ?_) | (refine callE (fun w' _ => ftRule_spec 10 2 0 0 3600 (-3600) w') ?_) | (refine bx ?_; intro bk) | (refine stA ?_) | (apply Stp_pu; exact PuA)); refine ⟨_, EndsA, QFA, ?_⟩) | (refine RD_K1w (fun bk => ?_) ?_; rotate_left; intro F; (first | (refine callE (fun w' _ => ftSun_spec 15 w') ?_) | (refine callE (fun w' _ => ftFixed_spec 31 w') ?_) | (refine callE (fun w' _ => ftFixed_spec 27 w') ?_) | (refine callE (fun w' _ => ftRule_spec 10 1 0 31 7200 (-3600) w') ?_) | (refine callE (fun w' _ => ftRule_spec 3 3 0 15 7200 0 w') ?_) | (refine callE (fun w' _ => ftRule_spec 10 2 0 0 3600 (-3600) w') ?_) | (refine bx ?_; intro bk) | (refine stA ?_) | (apply Stp_pu; exact PuA)); refine ⟨_, EndsA, QFA, ?_⟩) | (refine RD_K2w (fun bk => ?_) (fun bk => ?_) ?_; rotate_left 2; intro F; (first | (refine callE (fun w' _ => ftSun_spec 15 w') ?_) | (refine callE (fun w' _ => ftFixed_spec 31 w') ?_) | (refine callE (fun w' _ => ftFixed_spec 27 w') ?_) | (refine callE (fun w' _ => ftRule_spec 10 1 0 31 7200 (-3600) w') ?_) | (refine callE (fun w' _ => ftRule_spec 3 3 0 15 7200 0 w') ?_) | (refine callE (fun w' _ => ftRule_spec 10 2 0 0 3600 (-3600) w') ?_) | (refine bx ?_; intro bk) | (refine stA ?_) | (apply Stp_pu; exact PuA)); refine ⟨_, EndsA, QFA, ?_⟩) | (apply RD_W; rfl; intro bk) | (refine RD_J2 rfl rfl rfl (fun bk => ?_) (fun bk => ?_)) | (refine W_cond rfl (fun hc => ?_) (fun hc => ?_)))
 all_goals exact ret_1 _ [.blk _ [.string dubN, .slice (some ⟨_, 0, none⟩) 2 2] 51, .blk _ (w38era1.enc ++ w38era2.enc) 55, .blk _ (w38one.enc ++ (w38mar.enc ++ w38oct.enc)) 27] (.cellB rfl (by repeat' constructor) rfl rfl) SOA ⟨_, _, _, rfl, rfl⟩
end Go.Proofs.YtonjepladadmhaaGreatDoor
