/- Contract: looker.zones. Contract: accept.Check. Contracts: slices.IndexFunc at eras, variant.of, Check$1, Check$2. Contracts: variant.of, variant.Check. Contract: variant.Check. -/
import Derived.Test.YtbjkhnlnedfceaaGreatDoorU33
import Derived.Test.YtbjkhnlnedfceaaGreatDoorU34
set_option maxHeartbeats 4000000
set_option linter.unusedVariables false
set_option linter.unusedSimpArgs false
namespace Go.Proofs.YtbjkhnlnedfceaaGreatDoor
open Go Go.RowKit Go.Wk
attribute [local irreducible] W RL Does thenQ blockQ retQ Calls Pu Stp RD Qy Ay DoesIn
structure ZnG where
 k : Nat
 p : Int
theorem PuAccI0 {G : Prop} (h : G := by (first | exact PuI | (apply Pu_eqlB; rfl; rfl; exact hb))) : G := h
theorem PuAccI1 {G : Prop} (h : G := by (first | exact PuI | (apply Pu_eqlB; rfl; rfl; exact hbk))) : G := h
theorem PuAccI2 {G : Prop} (h : G := by (first | exact PuAccI1 | (apply Pu_neqB'; rfl; rfl; exact hb2))) : G := h
set_option maxHeartbeats 2000000 in
theorem azones_spec (Ar Az Al As : Option Addr) (cr cz cl cs : Nat) (a : DSource) (w : World) (hL : LibW w) (hG : Glob w) (hA : RdSource w Ar Az Al As cr cz cl cs a) (hS : SrcOk a) (hV : SavOk a) (hZ : ∀ z ∈ a.zones, ∀ e ∈ z.eras, EraOk e) :
  Does Tryz.prog 46 [srcV Ar Az Al As cr cz cl cs a] w (fun v O => v = ptV (zonesGo a.rules a.zones 0) ∧ O = []) := by
 have hnz := hS.nz
 obtain ⟨res, hres⟩ : ∃ res, zonesGo a.rules a.zones 0 = res := ⟨_, rfl⟩
 rw [hres]
 refine Does_of_W Tryz.func46 rfl rfl rfl rfl ?_
 repeat (first | (refine js ?_; (refine bx ?_; intro bk)) | refine walk ?_)
 rename_i b1
 obtain ⟨b2, hb2⟩ : ∃ b2, bk = b2 := ⟨_, rfl⟩
 rw [hb2]
 clear hb2 bk
 refine W_loopF [(1, .pointer (some ⟨b1, 0, none⟩)), (2, .pointer (some ⟨b2, 0, none⟩)), (13, .slice Az a.zones.length cz), (14, .int .i64 a.zones.length)] [.blk b2 [.int .i64 0, .int .i64 0, .int .i64 0] 54, .blk b1 [.slice Ar a.rules.length cr, .slice Az a.zones.length cz, .slice Al a.links.length cl, .slice As a.shifts.length cs] 97]
  (fun k : Nat => [(15, .int .i64 k)]) (fun _ => []) (fun k => k ≤ a.zones.length ∧ zonesGo a.rules (a.zones.drop k) k = res) (fun k => a.zones.length - k) 0 SFA SOA ⟨Nat.zero_le _, hres⟩ ?_
 clear hres
 rintro i ⟨hil, hi⟩
 repeat (first | (refine js ?_; (refine bx ?_; intro bk)) | refine walk ?_)
 refine W_cond rfl (fun hc => ?_) (fun hc => ?_)
 ·simp only [decide_eq_true_eq, Int.ofNat_lt] at hc
  obtain ⟨hna, cs1, ⟨Ae, ce, hEz, rfl⟩, hca⟩ := hA.z i _ (List.getElem?_eq_getElem hc)
  have hmem := List.getElem_mem hc
  rw [drop_cons hc, zonesGo] at hi
  generalize a.zones[i] = z at *
  have hel := (hS.zs z hmem).2.1
  by_cases hz0 : z.eras = []
  ·rw [if_pos hz0] at hi
   subst hi
   have hb : decide ((z.eras.length : Int) = 0) = true := by rw [hz0]; rfl
   simp only [ptV, plV, DPlace.enc]
   repeat (first | (apply RL_pu; rfl; exact PuAccI0) | (refine js ?_; (refine bx ?_; intro bk)) | refine walk1 ?_)
   exact rtC
  have hb : decide ((z.eras.length : Int) = 0) = false := decide_eq_false (fun h => hz0 (List.eq_nil_of_length_eq_zero (by omega)))
  rw [if_neg hz0] at hi
  obtain ⟨r2, hr2⟩ : ∃ r2, erasGo a.rules z.eras i z.eras.length 0 = r2 := ⟨_, rfl⟩
  rw [hr2] at hi
  have hfw : r2 = none → ∀ w', Bel w.heap.size w w' → Does Tryz.prog 91 [srcV Ar Az Al As cr cz cl cs a, .agg #[.string z.name, .slice Ae z.eras.length ce]] w' (fun v O => v = .bool (fewB25 a.rules z) ∧ O = []) := fun hn w' hw =>
   afew_spec Ar Az Al As cr cz cl cs a z Ae ce w' (hL.up hw) (hA.up hw) (hEz.up hw) hS hV hel (fun e he => hZ z hmem e he) (eras_hours (hr2.trans hn))
  generalize fewB25 a.rules z = fw at *
  repeat (first | (apply RL_pu; rfl; exact PuAccI0) | (refine js ?_; (refine bx ?_; intro bk)) | refine walk1 ?_)
  rename_i b5
  obtain ⟨b6, hb6⟩ : ∃ b6, bk = b6 := ⟨_, rfl⟩
  rw [hb6]
  clear hb6 bk
  refine W_loopF [(1, .pointer (some ⟨b1, 0, none⟩)), (2, .pointer (some ⟨b2, 0, none⟩)), (4, .int .i64 i), (5, .pointer (some ⟨b5, 0, none⟩)), (6, .pointer (some ⟨b6, 0, none⟩)), (13, .slice Az a.zones.length cz), (14, .int .i64 a.zones.length), (15, .int .i64 i), (28, .slice Ae z.eras.length ce), (29, .int .i64 z.eras.length)] [.blk b5 [.string z.name, .slice Ae z.eras.length ce] 43, .blk b2 [.int .i64 0, .int .i64 0, .int .i64 0] 54, .blk b1 [.slice Ar a.rules.length cr, .slice Az a.zones.length cz, .slice Al a.links.length cl, .slice As a.shifts.length cs] 97]
   (fun g : ZnG => [(30, .int .i64 g.k)]) (fun g => [.blk b6 [.int .i64 2, .int .i64 i, .int .i64 g.p] 54]) (fun g => g.k ≤ z.eras.length ∧ erasGo a.rules z.eras i (z.eras.length - g.k) g.k = r2) (fun g => z.eras.length - g.k) ⟨0, 0⟩ SFA SOA ⟨Nat.zero_le _, hr2⟩ ?_
  clear hr2
  rintro ⟨k, p⟩ ⟨hkl, hi2⟩
  dsimp only at hkl hi2 ⊢
  repeat (first | (refine js ?_; (refine bx ?_; intro bk)) | refine walk ?_)
  refine W_cond rfl (fun hc2 => ?_) (fun hc2 => ?_)
  ·simp only [decide_eq_true_eq, Int.ofNat_lt] at hc2
   clear hna hca
   obtain ⟨hna, hca⟩ := hEz.rd k _ (List.getElem?_eq_getElem hc2)
   have hem := List.getElem_mem hc2
   have hgd : z.eras.getD k dE0 = z.eras[k] := by rw [List.getD_eq_getElem?_getD, List.getElem?_eq_getElem hc2]; rfl
   obtain ⟨f, hf⟩ : ∃ f, z.eras.length - k = f + 1 := ⟨z.eras.length - k - 1, by omega⟩
   rw [hf, erasGo, hgd] at hi2
   generalize z.eras[k] = e at *
   have hbk : decide ((k : Int) = 0) = decide (k = 0) := by rw [decide_eq_decide]; omega
   generalize decide (k = 0) = fst at *
   have her := fun w' (hw : Bel w.heap.size w w') => lera_spec Ar Az Al As cr cz cl cs a e fst w' (hL.up hw) (hA.up hw) hS hV (hZ z hmem e hem)
   have hen := fun w' (hw : Bel w.heap.size w w') => lend_spec Ar Az Al As cr cz cl cs a Ae ce z.eras k w' (hG.up hw) (hA.up hw) hS hV (hEz.up hw) hel hc2
   generalize eraChk a.rules e fst = ec at *
   generalize endChk a.rules z.eras k = nc at *
   obtain ⟨off, kind, save, set, format, ⟨is, year, month, ⟨dk, dw, dd⟩, ⟨us, ub⟩⟩⟩ := e
   simp only [DEra.enc] at her hca
   by_cases h1 : ec = 0
   ·rw [if_neg (fun h => h h1)] at hi2
    subst h1
    by_cases h2 : nc = 0
    ·rw [if_neg (fun h => h h2)] at hi2
     subst h2
     repeat (first | (apply RL_pu; rfl; exact PuAccI1) | (refine js ?_; (first | (refine callE her ?_) | (refine callE hen ?_) | (refine bx ?_; intro bk))) | refine walk1 ?_)
     exact ⟨⟨k + 1, k⟩, OA, ⟨OA, by dsimp only; rw [show z.eras.length - (k + 1) = f by omega]; exact hi2⟩, SFA, SOA⟩
    ·rw [if_pos h2] at hi2
     subst hi2
     dsimp only at hi
     subst hi
     have hb2 : (!decide (nc = 0)) = true := by rw [decide_eq_false h2]; rfl
     simp only [ptV, plV, DPlace.enc]
     repeat (first | (apply RL_pu; rfl; exact PuAccI2) | (refine js ?_; (first | (refine callE her ?_) | (refine callE hen ?_) | (refine bx ?_; intro bk))) | refine walk1 ?_)
     exact rtC
   ·rw [if_pos h1] at hi2
    subst hi2
    dsimp only at hi
    subst hi
    have hb2 : (!decide (ec = 0)) = true := by rw [decide_eq_false h1]; rfl
    simp only [ptV, plV, DPlace.enc]
    repeat (first | (apply RL_pu; rfl; exact PuAccI2) | (refine js ?_; (first | (refine callE her ?_) | (refine bx ?_; intro bk))) | refine walk1 ?_)
    exact rtC
  ·simp only [decide_eq_false_iff_not, Int.ofNat_lt] at hc2
   rw [show z.eras.length - k = 0 by omega, erasGo] at hi2
   subst hi2
   replace hfw := hfw rfl
   dsimp only at hi
   cases fw with
   | false =>
    rw [if_pos rfl] at hi
    subst hi
    simp only [ptV, plV, DPlace.enc]
    repeat (first | (refine js ?_; (first | (refine callE hfw ?_) | (refine bx ?_; intro bk))) | refine walk ?_)
    exact rtC
   | true =>
    rw [if_neg (by decide)] at hi
    repeat (first | (refine js ?_; (first | (refine callE hfw ?_) | (refine bx ?_; intro bk))) | refine walk ?_)
    exact ⟨i + 1, OA, ⟨OA, hi⟩, SFA, SOA⟩
 ·simp only [decide_eq_false_iff_not, Int.ofNat_lt] at hc
  rw [List.drop_eq_nil_of_le (by omega), zonesGo] at hi
  subst hi
  repeat (first | (refine js ?_; (refine bx ?_; intro bk)) | refine walk ?_)
  exact rtC
end Go.Proofs.YtbjkhnlnedfceaaGreatDoor
namespace Go.Proofs.YtbjkhnlnedfceaaGreatDoor
open Go Go.RowKit Go.Wk
attribute [local irreducible] W RL Does thenQ blockQ retQ Calls Pu Stp RD Qy Ay DoesIn RW
theorem sizesD_ne {s : DSource} {p : DPlace} {e : Int} (h : sizesD s = some (p, e)) : e ≠ 0 := by
 unfold sizesD at h
 repeat' split at h
 all_goals first | (simp only [Option.some.injEq, Prod.mk.injEq] at h; omega) | cases h
theorem setFault_ne {rs : List DRule} {x : ByteArray} {i : Nat} {e : Int} (h : setFault rs x = some (i, e)) : e ≠ 0 := by
 unfold setFault at h
 split at h
 ·simp only [Option.some.injEq, Prod.mk.injEq] at h; omega
 ·split at h
  ·rename_i h2
   simp only [Option.some.injEq] at h
   rw [h] at h2
   exact h2
  ·split at h
   ·simp only [Option.some.injEq, Prod.mk.injEq] at h; omega
   ·cases h
theorem setsGo_ne (rs : List DRule) : ∀ (l : List ByteArray) {p : DPlace} {e : Int}, setsGo rs l = some (p, e) → e ≠ 0
 | [], _, _, h => by cases h
 | x :: l, p, e, h => by
  rw [setsGo] at h
  split at h
  ·rename_i i e2 h2
   simp only [Option.some.injEq, Prod.mk.injEq] at h
   rw [← h.2]
   exact setFault_ne h2
  ·exact setsGo_ne rs l h
theorem shiftsGo_ne (s : DSource) : ∀ (l seen : List ByteArray) (i : Nat) {p : DPlace} {e : Int}, shiftsGo s l seen i = some (p, e) → e ≠ 0
 | [], _, _, _, _, h => by cases h
 | x :: l, seen, i, p, e, h => by
  rw [shiftsGo] at h
  split at h
  ·simp only [Option.some.injEq, Prod.mk.injEq] at h; omega
  ·split at h
   ·simp only [Option.some.injEq, Prod.mk.injEq] at h; omega
   ·split at h
    ·simp only [Option.some.injEq, Prod.mk.injEq] at h; omega
    ·exact shiftsGo_ne s l _ _ h
theorem linkFault_ne (s : DSource) : ∀ (l : List DLink) (i : Nat) {p : DPlace} {e : Int}, linkFault s l i = some (p, e) → e ≠ 0
 | [], _, _, _, h => by cases h
 | x :: l, i, p, e, h => by
  rw [linkFault] at h
  repeat' split at h
  all_goals first | (simp only [Option.some.injEq, Prod.mk.injEq] at h; omega) | exact linkFault_ne s l _ h
theorem loopFault_ne (s : DSource) : ∀ (l : List DLink) (i : Nat) {p : DPlace} {e : Int}, loopFault s l i = some (p, e) → e ≠ 0
 | [], _, _, _, h => by cases h
 | x :: l, i, p, e, h => by
  rw [loopFault] at h
  split at h
  ·simp only [Option.some.injEq, Prod.mk.injEq] at h; omega
  ·exact loopFault_ne s l _ h
theorem linksD_ne {s : DSource} {p : DPlace} {e : Int} (h : linksD s = some (p, e)) : e ≠ 0 := by
 unfold linksD at h
 cases h1 : zoneFault s s.zones 0 with
 | some x => rw [h1] at h; simp only [Option.some_or, Option.some.injEq] at h; subst h; exact zoneFault_ne s _ _ _ _ h1
 | none =>
  rw [h1, Option.none_or] at h
  cases h2 : linkFault s s.links 0 with
  | some x => rw [h2] at h; simp only [Option.some_or, Option.some.injEq] at h; subst h; exact linkFault_ne s _ _ h2
  | none =>
   rw [h2, Option.none_or] at h
   exact loopFault_ne s _ _ h
theorem erasGo_ne (rs : List DRule) (l : List DEra) (i : Nat) : ∀ (f k : Nat) {p : DPlace} {e : Int}, erasGo rs l i f k = some (p, e) → e ≠ 0
 | 0, _, _, _, h => by cases h
 | f + 1, k, p, e, h => by
  rw [erasGo] at h
  split at h
  ·rename_i h2; simp only [Option.some.injEq, Prod.mk.injEq] at h; rw [← h.2]; exact h2
  ·split at h
   ·rename_i h2; simp only [Option.some.injEq, Prod.mk.injEq] at h; rw [← h.2]; exact h2
   ·exact erasGo_ne rs l i f _ h
theorem zonesGo_ne (rs : List DRule) : ∀ (l : List DZone) (i : Nat) {p : DPlace} {e : Int}, zonesGo rs l i = some (p, e) → e ≠ 0
 | [], _, _, _, h => by cases h
 | z :: l, i, p, e, h => by
  rw [zonesGo] at h
  split at h
  ·simp only [Option.some.injEq, Prod.mk.injEq] at h; omega
  ·split at h
   ·rename_i x h2
    simp only [Option.some.injEq] at h
    subst h
    exact erasGo_ne rs _ _ _ _ h2
   ·split at h
    ·simp only [Option.some.injEq, Prod.mk.injEq] at h; omega
    ·exact zonesGo_ne rs l _ h
instance : ZeroT Tryz.prog 98 [.nilFunc] := ⟨by kernel_rfl⟩
theorem PuAccJ0 {G : Prop} (h : G := by (first | (apply Pu_loadBi; rfl; (focus repeat' constructor); rfl) | (apply Pu_neqB'; rfl; rfl; exact hb))) : G := h
theorem PuAccJ1 {G : Prop} (h : G := by (apply Pu_loadBi; rfl; (focus repeat' constructor); rfl)) : G := h
set_option maxHeartbeats 2000000 in
theorem acc_spec (Ar Az Al As : Option Addr) (cr cz cl cs : Nat) (a : DSource) (w : World) (hL : LibW w) (hG : Glob w) (hA : RdSource w Ar Az Al As cr cz cl cs a) (hS : SrcOk a) (hV : SavI a) (hZ : ∀ z ∈ a.zones, ∀ e ∈ z.eras, EraOk e) :
  Does Tryz.prog 20 [srcV Ar Az Al As cr cz cl cs a] w (fun v O => v = ptV (accD a) ∧ O = []) := by
 have h1 : ∀ w', Bel w.heap.size w w' → Does Tryz.prog 42 ([srcV Ar Az Al As cr cz cl cs a] ++ [] ++ []) w' (fun v O => v = ptV (sizesD a) ∧ O = []) := fun w' hw => sizes_spec Ar Az Al As cr cz cl cs a w' (hA.up hw) hS.nz
 have h2 : ∀ w', Bel w.heap.size w w' → Does Tryz.prog 43 ([srcV Ar Az Al As cr cz cl cs a] ++ [] ++ []) w' (fun v O => v = ptV (setsD a) ∧ O = []) := fun w' hw => lsets_spec Ar Az Al As cr cz cl cs a w' (hG.up hw) (hA.up hw) hS hV
 have h3 : ∀ w', Bel w.heap.size w w' → Does Tryz.prog 44 ([srcV Ar Az Al As cr cz cl cs a] ++ [] ++ []) w' (fun v O => v = ptV (shiftsGo a a.shifts [] 0) ∧ O = []) := fun w' hw => lshifts_spec Ar Az Al As cr cz cl cs a w' (hA.up hw) hS
 have h4 : ∀ w', Bel w.heap.size w w' → Does Tryz.prog 45 ([srcV Ar Az Al As cr cz cl cs a] ++ [] ++ []) w' (fun v O => v = ptV (linksD a) ∧ O = []) := fun w' hw => lnames_spec Ar Az Al As cr cz cl cs a w' (hA.up hw) hS
 have h5 : setsD a = none → ∀ w', Bel w.heap.size w w' → Does Tryz.prog 46 ([srcV Ar Az Al As cr cz cl cs a] ++ [] ++ []) w' (fun v O => v = ptV (zonesGo a.rules a.zones 0) ∧ O = []) := fun hs w' hw => azones_spec Ar Az Al As cr cz cl cs a w' (hL.up hw) (hG.up hw) (hA.up hw) hS (setsD_sav hs) hZ
 have n1 := fun {p e} => @sizesD_ne a p e
 have n2 : ∀ {p e}, setsD a = some (p, e) → e ≠ 0 := fun h => setsGo_ne a.rules _ h
 have n3 : ∀ {p e}, shiftsGo a a.shifts [] 0 = some (p, e) → e ≠ 0 := fun h => shiftsGo_ne a _ _ _ h
 have n4 := fun {p e} => @linksD_ne a p e
 have n5 : ∀ {p e}, zonesGo a.rules a.zones 0 = some (p, e) → e ≠ 0 := fun h => zonesGo_ne a.rules _ _ h
 unfold accD
 generalize sizesD a = o1 at *
 generalize setsD a = o2 at *
 generalize shiftsGo a a.shifts [] 0 = o3 at *
 generalize linksD a = o4 at *
 generalize zonesGo a.rules a.zones 0 = o5 at *
 refine Does_of_W Tryz.func20 rfl rfl rfl rfl ?_
 repeat (first | (refine js ?_; (refine bx ?_; intro bk)) | refine walkB ?_)
 refine W_block (W_rounds 6 (RW_succ ?_))
 cases o1 with
 | some x =>
  obtain ⟨⟨p1, p2, p3⟩, e⟩ := x
  have hb : (!decide (e = 0)) = true := by rw [decide_eq_false (n1 rfl)]; rfl
  simp only [Option.some_or, ptV, plV, DPlace.enc] at h1 ⊢
  repeat (first | (apply RL_pu; rfl; exact PuAccJ0) | (refine js ?_; (first | (refine callV (fun w' hw _ => h1 w' hw) ?_) | (refine bx ?_; intro bk))) | refine walk1 ?_)
  exact rtC
 | none =>
 simp only [ptV, plV, DPlace.enc] at h1
 rw [Option.none_or]
 repeat (first | (apply RL_pu; rfl; exact PuAccJ1) | (refine js ?_; (first | (refine callV (fun w' hw _ => h1 w' hw) ?_) | (refine bx ?_; intro bk))) | refine walk1 ?_)
 refine RW_succ ?_
 cases o2 with
 | some x =>
  obtain ⟨⟨p1, p2, p3⟩, e⟩ := x
  have hb : (!decide (e = 0)) = true := by rw [decide_eq_false (n2 rfl)]; rfl
  simp only [Option.some_or, ptV, plV, DPlace.enc] at h2 ⊢
  repeat (first | (apply RL_pu; rfl; exact PuAccJ0) | (refine js ?_; (first | (refine callV (fun w' hw _ => h2 w' hw) ?_) | (refine bx ?_; intro bk))) | refine walk1 ?_)
  exact rtC
 | none =>
 replace h5 := h5 rfl
 simp only [ptV, plV, DPlace.enc] at h2
 rw [Option.none_or]
 repeat (first | (apply RL_pu; rfl; exact PuAccJ1) | (refine js ?_; (first | (refine callV (fun w' hw _ => h2 w' hw) ?_) | (refine bx ?_; intro bk))) | refine walk1 ?_)
 refine RW_succ ?_
 cases o3 with
 | some x =>
  obtain ⟨⟨p1, p2, p3⟩, e⟩ := x
  have hb : (!decide (e = 0)) = true := by rw [decide_eq_false (n3 rfl)]; rfl
  simp only [Option.some_or, ptV, plV, DPlace.enc] at h3 ⊢
  repeat (first | (apply RL_pu; rfl; exact PuAccJ0) | (refine js ?_; (first | (refine callV (fun w' hw _ => h3 w' hw) ?_) | (refine bx ?_; intro bk))) | refine walk1 ?_)
  exact rtC
 | none =>
 simp only [ptV, plV, DPlace.enc] at h3
 rw [Option.none_or]
 repeat (first | (apply RL_pu; rfl; exact PuAccJ1) | (refine js ?_; (first | (refine callV (fun w' hw _ => h3 w' hw) ?_) | (refine bx ?_; intro bk))) | refine walk1 ?_)
 refine RW_succ ?_
 cases o4 with
 | some x =>
  obtain ⟨⟨p1, p2, p3⟩, e⟩ := x
  have hb : (!decide (e = 0)) = true := by rw [decide_eq_false (n4 rfl)]; rfl
  simp only [Option.some_or, ptV, plV, DPlace.enc] at h4 ⊢
  repeat (first | (apply RL_pu; rfl; exact PuAccJ0) | (refine js ?_; (first | (refine callV (fun w' hw _ => h4 w' hw) ?_) | (refine bx ?_; intro bk))) | refine walk1 ?_)
  exact rtC
 | none =>
 simp only [ptV, plV, DPlace.enc] at h4
 rw [Option.none_or]
 repeat (first | (apply RL_pu; rfl; exact PuAccJ1) | (refine js ?_; (first | (refine callV (fun w' hw _ => h4 w' hw) ?_) | (refine bx ?_; intro bk))) | refine walk1 ?_)
 refine RW_succ ?_
 cases o5 with
 | some x =>
  obtain ⟨⟨p1, p2, p3⟩, e⟩ := x
  have hb : (!decide (e = 0)) = true := by rw [decide_eq_false (n5 rfl)]; rfl
  simp only [ptV, plV, DPlace.enc] at h5 ⊢
  repeat (first | (apply RL_pu; rfl; exact PuAccJ0) | (refine js ?_; (first | (refine callV (fun w' hw _ => h5 w' hw) ?_) | (refine bx ?_; intro bk))) | refine walk1 ?_)
  exact rtC
 | none =>
 simp only [ptV, plV, DPlace.enc] at h5 ⊢
 repeat (first | (apply RL_pu; rfl; exact PuAccJ1) | (refine js ?_; (first | (refine callV (fun w' hw _ => h5 w' hw) ?_) | (refine bx ?_; intro bk))) | refine walk1 ?_)
 refine RW_succ ?_
 repeat (first | (refine js ?_; (refine bx ?_; intro bk)) | refine walk ?_)
 exact rtC
end Go.Proofs.YtbjkhnlnedfceaaGreatDoor
namespace Go.Proofs.YtbjkhnlnedfceaaGreatDoor
open Go Go.RowKit Go.Wk
attribute [local irreducible] W RL Does thenQ blockQ retQ Calls Pu Stp RD Qy Ay DoesIn
theorem indexEr_spec (A : Option Addr) (c : Nat) (l : List DEra) (f : FuncId) [Body Tryz.prog f] (us cs : List Value) (p : DEra → Bool) (w : World) (hA : RdSl w A c DEra.enc 13 l)
  (hf : ∀ r ∈ l, ∀ w', Bel w.heap.size w w' → Does Tryz.prog f (us ++ [.agg (DEra.enc r).toArray] ++ cs) w' (fun v O => v = .bool (p r) ∧ O = [])) :
  Does Tryz.prog 36 [.slice A l.length c, .func (.func f) us.toArray cs.toArray] w (fun v O => v = .int .i64 (findI p l 0) ∧ O = []) := by
 have hs1 := hA.le
 have hs2 := hA.cap
 unfold maxLen at hs2
 generalize hres : findI p l 0 = res
 refine Does_of_W Tryz.func36 rfl rfl rfl rfl ?_
 repeat (first | refine walk ?_)
 refine W_loopF [(0, _), (1, _), (4, _), (7, _)] _ (fun k : Nat => [(8, .int .i64 k)]) (fun _ => []) (fun k => k ≤ l.length ∧ findI p (l.drop k) k = res) (fun k => l.length - k) 0 ⟨rfl, rfl, rfl, rfl, rfl, trivial⟩ (.refl _) ⟨by omega, by simpa using hres⟩ ?_
 rintro k ⟨hk, hi⟩
 repeat (first | refine walk ?_)
 refine W_cond rfl (fun hc => ?_) (fun hc => ?_)
 ·simp only [decide_eq_true_eq, Int.ofNat_lt] at hc
  obtain ⟨hna, hca⟩ := hA.rd k _ (List.getElem?_eq_getElem hc)
  have hnb := hna
  have hcb := hca
  rw [drop_cons hc, findI] at hi
  have hrm := List.getElem_mem hc
  generalize l[k] = r at *
  repeat (first | (apply RL_pu; rfl; exact PuI) | (refine js ?_; (refine callV (fun w' hw _ => hf r hrm w' hw) ?_)) | refine walk1 ?_)
  refine W_cond rfl (fun h3 => ?_) (fun h3 => ?_)
  ·repeat (first | refine walk ?_)
   rw [if_pos h3] at hi
   exact ret_1 _ [] (.tmp rfl) .nil ⟨by rw [← hi], rfl⟩
  repeat (first | refine walk ?_)
  rw [h3] at hi
  exact ⟨k + 1, by omega, ⟨by omega, hi⟩, SFA, SOA⟩
 simp only [decide_eq_false_iff_not, Int.ofNat_lt] at hc
 repeat (first | refine walk ?_)
 exact ret_1 _ [] (.tmp rfl) .nil ⟨by rw [← hi, List.drop_eq_nil_of_le (by omega)]; rfl, rfl⟩
theorem var1_spec (r : DRule) (ad : Addr) (a1 : Bool) (w : World) (h : w.cell? (ad.add 1) = some (.bool a1)) : Does Tryz.prog 77 [.agg (DRule.enc r).toArray, .pointer (some ad)] w (fun v O => v = .bool (decide (r.save < 0) && !a1) ∧ O = []) := by
 obtain ⟨nm, fr, to, mo, ⟨dk, dw, dd⟩, ⟨us, ub⟩, sv, le⟩ := r
 show Does _ _ [.agg #[.string nm, .int .i64 fr, .int .i64 to, .int .i64 mo, .int .i64 dk, .int .i64 dw, .int .i64 dd, .int .i64 us, .int .i64 ub, .int .i64 sv, .string le], .pointer (some ad)] w _
 refine Does_of_W Tryz.func77 rfl rfl rfl rfl ?_
 repeat' (first | (apply RL_pu; rfl; (apply Pu_loadO1; rfl; exact h)) | (refine js ?_; (refine bx ?_; intro bk)) | refine walk1 ?_ | refine und ?_ | (refine RL_gsplit rfl rfl rfl (fun hc => ?_) (fun hc => ?_)) | (refine RD_gsplit rfl rfl rfl (fun hc => ?_) (fun hc => ?_)) | (refine W_cond rfl (fun hc => ?_) (fun hc => ?_)))
 all_goals exact clo1
theorem var2_spec (e : DEra) (ad : Addr) (a2 a3 : Bool) (w : World) (hL : LibW w) (hf : e.format.size ≤ 1000000000) (h2 : w.cell? (ad.add 2) = some (.bool a2)) (h3 : w.cell? (ad.add 3) = some (.bool a3)) :
  Does Tryz.prog 78 [.agg (DEra.enc e).toArray, .pointer (some ad)] w (fun v O => v = .bool ((decide (kindF e.format.data.toList = 4) && !a2) || (decide (kindF e.format.data.toList = 5) && !a3)) ∧ O = []) := by
 have hk := fun w' (hw : Bel w.heap.size w w') => kind_spec e.format w' (hL.up hw) hf
 obtain ⟨off, kind, save, set, format, til⟩ := e
 dsimp only at hk hf ⊢
 generalize kindF format.data.toList = K at *
 obtain ⟨k4, e4⟩ : ∃ b, decide (K = 4) = b := ⟨_, rfl⟩
 obtain ⟨k5, e5⟩ : ∃ b, decide (K = 5) = b := ⟨_, rfl⟩
 rw [e4, e5]
 simp only [DEra.enc]
 refine Does_of_W Tryz.func78 rfl rfl rfl rfl ?_
 repeat' (first | (apply RL_pu; rfl; (first | (apply Pu_loadO1; rfl; exact h2) | (apply Pu_loadO1; rfl; exact h3) | (apply Pu_eqlB; rfl; rfl; exact e4) | (apply Pu_eqlB; rfl; rfl; exact e5))) | (refine js ?_; (first | (refine callE hk ?_) | (refine bx ?_; intro bk))) | refine walk1 ?_ | refine und ?_ | (refine RL_gsplit rfl rfl rfl (fun hc => ?_) (fun hc => ?_)) | (refine RD_gsplit rfl rfl rfl (fun hc => ?_) (fun hc => ?_)) | (refine W_cond rfl (fun hc => ?_) (fun hc => ?_)))
 all_goals exact clo1
def vRow (f : Nat) : List Value := (varCells.drop (f * 5)).take 5
theorem var_at {w : World} (hG : Glob w) (f : Nat) : CellsAt w ((⟨0, 0, none⟩ : Addr).add (f * 5)) (vRow f) := fun j v hj => by
 rw [add_of_add]
 refine hG.var (f * 5 + j) v ?_
 unfold vRow at hj
 rw [List.getElem?_take] at hj
 split at hj
 ·rwa [List.getElem?_drop] at hj
 ·cases hj
theorem PuVarB0 {G : Prop} (h : G := by (first | (apply Pu_indexArr; rfl; rfl; omega; omega) | (apply Pu_loadON; rfl; exact hcv; rfl))) : G := h
theorem of_1 (w : World) (hG : Glob w) : Does Tryz.prog 76 [.int .i64 1] w (fun v O => v = .tuple #[.agg (vRow 1).toArray, .bool true] ∧ O = []) := by
 have hcv := var_at hG 1
 rw [show vRow 1 = [.string ⟨#[118, 97, 110, 103, 117, 97, 114, 100]⟩, .bool true, .bool true, .bool false, .bool false] from rfl] at hcv ⊢
 refine Does_of_W Tryz.func76 rfl rfl rfl rfl ?_
 repeat (first | (apply RL_pu; rfl; exact PuVarB0) | (refine js ?_; (refine bx ?_; intro bk)) | refine walk1 ?_)
 exact rtC
theorem of_2 (w : World) (hG : Glob w) : Does Tryz.prog 76 [.int .i64 2] w (fun v O => v = .tuple #[.agg (vRow 2).toArray, .bool true] ∧ O = []) := by
 have hcv := var_at hG 2
 rw [show vRow 2 = [.string ⟨#[109, 97, 105, 110]⟩, .bool true, .bool false, .bool true, .bool false] from rfl] at hcv ⊢
 refine Does_of_W Tryz.func76 rfl rfl rfl rfl ?_
 repeat (first | (apply RL_pu; rfl; exact PuVarB0) | (refine js ?_; (refine bx ?_; intro bk)) | refine walk1 ?_)
 exact rtC
theorem of_3 (w : World) (hG : Glob w) : Does Tryz.prog 76 [.int .i64 3] w (fun v O => v = .tuple #[.agg (vRow 3).toArray, .bool true] ∧ O = []) := by
 have hcv := var_at hG 3
 rw [show vRow 3 = [.string ⟨#[114, 101, 97, 114, 103, 117, 97, 114, 100]⟩, .bool false, .bool false, .bool true, .bool true] from rfl] at hcv ⊢
 refine Does_of_W Tryz.func76 rfl rfl rfl rfl ?_
 repeat (first | (apply RL_pu; rfl; exact PuVarB0) | (refine js ?_; (refine bx ?_; intro bk)) | refine walk1 ?_)
 exact rtC
theorem PuVarB1 {G : Prop} (h : G := by (apply Pu_lssB; rfl; rfl; exact b1)) : G := h
theorem of_bad (f : Int) (hf : f < 1 ∨ 3 < f) (w : World) : Does Tryz.prog 76 [.int .i64 f] w (fun v O => v = .tuple #[.agg #[.string ByteArray.empty, .bool false, .bool false, .bool false, .bool false], .bool false] ∧ O = []) := by
 refine Does_of_W Tryz.func76 rfl rfl rfl rfl ?_
 by_cases h1 : f < 1
 ·have b1 : decide (f < 1) = true := decide_eq_true h1
  repeat (first | refine und ?_ | (apply RL_pu; rfl; exact PuVarB1) | (refine js ?_; (refine bx ?_; intro bk)) | refine walk1 ?_)
  exact rtC
 ·have b1 : decide (f < 1) = false := decide_eq_false h1
  have b2 : decide (4 ≤ f) = true := decide_eq_true (by omega)
  repeat (first | refine und ?_ | (apply RL_pu; rfl; (first | exact PuVarB1 | (apply Pu_geqB; rfl; rfl; exact b2))) | (refine js ?_; (refine bx ?_; intro bk)) | refine walk1 ?_)
  exact rtC
def wrongB (a2 a3 : Bool) (e : DEra) : Bool := (decide (kindF e.format.data.toList = 4) && !a2) || (decide (kindF e.format.data.toList = 5) && !a3)
def negB (a1 : Bool) (r : DRule) : Bool := decide (r.save < 0) && !a1
def zGo (a2 a3 : Bool) : List DZone → Nat → Option (DPlace × Int)
 | [], _ => none
 | z :: l, i => match z.eras.findIdx? (wrongB a2 a3) with | some j => some (⟨2, i, j⟩, 17) | none => zGo a2 a3 l (i + 1)
def vfG (a1 a2 a3 a4 : Bool) (s : DSource) : Option (DPlace × Int) :=
 match s.rules.findIdx? (negB a1) with
 | some i => some (⟨1, i, 0⟩, 17)
 | none => match zGo a2 a3 s.zones 0 with
  | some x => some x
  | none => if 0 < s.shifts.length ∧ a4 = false then some (⟨4, 0, 0⟩, 17) else none
theorem zGo_eq (p : DEra → Bool) (a2 a3 : Bool) (hp : wrongB a2 a3 = p) : ∀ (l : List DZone) (k : Nat), zGo a2 a3 l k = match l.findIdx? (fun z => z.eras.any p) with
  | some i => some (⟨2, (k + i : Nat), (((l[i]?).map fun z => ((z.eras.findIdx? p).getD 0)).getD 0)⟩, 17)
  | none => none
 | [], _ => rfl
 | z :: l, k => by
  rw [zGo, hp, List.findIdx?_cons]
  by_cases h : z.eras.any p = true
  ·rw [if_pos h]
   obtain ⟨j, hj⟩ : ∃ j, z.eras.findIdx? p = some j := by
    cases hq : z.eras.findIdx? p with
    | some j => exact ⟨j, rfl⟩
    | none =>
     rw [List.findIdx?_eq_none_iff] at hq
     rw [List.any_eq_true] at h
     obtain ⟨x, hx, hx2⟩ := h
     rw [hq x hx] at hx2
     cases hx2
   rw [hj]
   simp [hj]
  ·rw [if_neg h]
   have hq : z.eras.findIdx? p = none := by
    rw [List.findIdx?_eq_none_iff]
    intro x hx
    cases hpx : p x with
    | false => rfl
    | true => exact absurd (List.any_eq_true.2 ⟨x, hx, hpx⟩) h
   rw [hq]
   dsimp only
   rw [zGo_eq p a2 a3 hp l (k + 1)]
   cases l.findIdx? (fun z => z.eras.any p) with
   | none => rfl
   | some i => simp [Nat.add_comm, Nat.add_left_comm]
theorem vf_gen (f : Int) (a1 a2 a3 a4 : Bool) (s : DSource) (h1 : ¬ (f < 1 ∨ 3 < f)) (hn : (fun r : DRule => decide (r.save < 0) && decide (f = 3)) = negB a1)
  (hw : (fun e : DEra => (decide (kindF e.format.data.toList = 4) && !decide (f = 1)) || (decide (kindF e.format.data.toList = 5) && decide (f = 1))) = wrongB a2 a3) (h4 : f ≠ 3 ↔ a4 = false) : varFault f s = vfG a1 a2 a3 a4 s := by
 unfold varFault vfG
 rw [if_neg h1, hn]
 dsimp only
 rw [hw, zGo_eq (wrongB a2 a3) a2 a3 rfl]
 cases s.rules.findIdx? (negB a1) with
 | some i => rfl
 | none =>
  dsimp only
  cases s.zones.findIdx? (fun z => z.eras.any (wrongB a2 a3)) with
  | some i => simp
  | none =>
   dsimp only
   by_cases h5 : 0 < s.shifts.length ∧ f ≠ 3
   ·rw [if_pos h5, if_pos ⟨h5.1, h4.1 h5.2⟩]
   ·rw [if_neg h5, if_neg (fun h => h5 ⟨h.1, h4.2 h.2⟩)]
theorem vf_1 (s : DSource) : varFault 1 s = vfG true true false false s := vf_gen 1 _ _ _ _ s (by omega) (by funext r; simp [negB]) (by funext e; simp [wrongB]) (by simp)
theorem vf_2 (s : DSource) : varFault 2 s = vfG true false true false s := vf_gen 2 _ _ _ _ s (by omega) (by funext r; simp [negB]) (by funext e; simp [wrongB]) (by simp)
theorem vf_3 (s : DSource) : varFault 3 s = vfG false false true true s := vf_gen 3 _ _ _ _ s (by omega) (by funext r; simp [negB]) (by funext e; simp [wrongB]) (by simp)
theorem cellUp {w w' : World} {b j : Nat} {cs : List Value} {v : Value} (h : CellsAt w ⟨b, 0, none⟩ cs) (hw : Bel w.heap.size w w') (hv : cs[j]? = some v) : w'.cell? ((⟨b, 0, none⟩ : Addr).add j) = some v :=
 (hw.cell (World.block_lt_of_cell? w _ (h j v hv))).trans (h j v hv)
theorem PuVarC2 {G : Prop} (h : G := by (apply Pu_gtrB; rfl; rfl; exact bs)) : G := h
set_option maxHeartbeats 2000000 in
theorem varC_gen (Ar Az Al As : Option Addr) (cr cz cl cs : Nat) (a : DSource) (f : Int) (nm : ByteArray) (a1 a2 a3 a4 : Bool) (w : World) (hL : LibW w) (hA : RdSource w Ar Az Al As cr cz cl cs a) (hS : SrcOk a) (hZ : ∀ z ∈ a.zones, ∀ e ∈ z.eras, e.format.size ≤ 1000000000)
  (hof : ∀ w', Bel w.heap.size w w' → Does Tryz.prog 76 [.int .i64 f] w' (fun v O => v = .tuple #[.agg #[.string nm, .bool a1, .bool a2, .bool a3, .bool a4], .bool true] ∧ O = [])) :
  Does Tryz.prog 37 [srcV Ar Az Al As cr cz cl cs a, .int .i64 f] w (fun v O => v = ptV (vfG a1 a2 a3 a4 a) ∧ O = []) := by
 have hnz := hS.nz
 have hns := hS.ns
 have hru : ∀ b6 w', Bel w.heap.size w w' → CellsAt w' ⟨b6, 0, none⟩ [.string nm, .bool a1, .bool a2, .bool a3, .bool a4] → Does Tryz.prog 35 [.slice Ar a.rules.length cr, .func (.func 77) #[] #[.pointer (some ⟨b6, 0, none⟩)]] w' (fun v O => v = .int .i64 (findI (negB a1) a.rules 0) ∧ O = []) :=
  fun b6 w' hw h6 => indexFunc_spec Ar cr a.rules 77 [] [.pointer (some ⟨b6, 0, none⟩)] (negB a1) w' (hA.up hw).r fun r w2 hw2 => var1_spec r ⟨b6, 0, none⟩ a1 w2 (cellUp h6 hw2 rfl)
 rw [findI_idx] at hru
 unfold vfG
 generalize a.rules.findIdx? (negB a1) = ri at *
 refine Does_of_W Tryz.func37 rfl rfl rfl rfl ?_
 cases ri with
 | some i =>
  dsimp only at hru ⊢
  rw [Nat.zero_add] at hru
  have b0 : decide ((0 : Int) ≤ (i : Int)) = true := decide_eq_true (by omega)
  simp only [ptV, plV, DPlace.enc]
  repeat (first | (apply RL_pu; rfl; (apply Pu_geqB; rfl; rfl; exact b0)) | (refine js ?_; (first | (refine callE hof ?_) | (refine callO (fun w' hw hO => hru _ w' hw (hO.cells (by repeat' constructor))) ?_) | (refine bx ?_; intro bk))) | refine walk1 ?_)
  exact rtC
 | none =>
  dsimp only at hru ⊢
  obtain ⟨zr, hzr⟩ : ∃ zr, zGo a2 a3 a.zones 0 = zr := ⟨_, rfl⟩
  rw [hzr]
  repeat (first | (refine js ?_; (first | (refine callE hof ?_) | (refine callO (fun w' hw hO => hru _ w' hw (hO.cells (by repeat' constructor))) ?_) | (refine bx ?_; intro bk))) | refine walk ?_)
  obtain ⟨b6, hb6⟩ : ∃ b6, bk = b6 := ⟨_, rfl⟩
  rw [hb6]
  clear hb6 bk
  obtain ⟨b4, hb4⟩ : ∃ b4, bk = b4 := ⟨_, rfl⟩
  rw [hb4]
  clear hb4 bk
  obtain ⟨b2, hb2⟩ : ∃ b2, bk = b2 := ⟨_, rfl⟩
  rw [hb2]
  clear hb2 bk
  refine W_loopF [(2, .pointer (some ⟨b2, 0, none⟩)), (4, .pointer (some ⟨b4, 0, none⟩)), (6, .pointer (some ⟨b6, 0, none⟩)), (9, .func (.func 78) #[] #[.pointer (some ⟨b6, 0, none⟩)]), (31, .slice Az a.zones.length cz), (32, .int .i64 a.zones.length)] [.blk b6 [.string nm, .bool a1, .bool a2, .bool a3, .bool a4] 130, .blk b4 [.int .i64 0, .int .i64 0, .int .i64 0] 54, .blk b2 [.slice Ar a.rules.length cr, .slice Az a.zones.length cz, .slice Al a.links.length cl, .slice As a.shifts.length cs] 31]
   (fun k : Nat => [(33, .int .i64 k)]) (fun _ => []) (fun k => k ≤ a.zones.length ∧ zGo a2 a3 (a.zones.drop k) k = zr) (fun k => a.zones.length - k) 0 SFA SOA ⟨Nat.zero_le _, hzr⟩ ?_
  clear hzr
  rintro i ⟨hil, hi⟩
  repeat (first | (refine js ?_; (refine bx ?_; intro bk)) | refine walk ?_)
  refine W_cond rfl (fun hc => ?_) (fun hc => ?_)
  ·simp only [decide_eq_true_eq, Int.ofNat_lt] at hc
   obtain ⟨hna, cs1, ⟨Ae, ce, hEz, rfl⟩, hca⟩ := hA.z i _ (List.getElem?_eq_getElem hc)
   have hmem := List.getElem_mem hc
   rw [drop_cons hc, zGo] at hi
   generalize a.zones[i] = z at *
   have her : ∀ b6 w', Bel w.heap.size w w' → CellsAt w' ⟨b6, 0, none⟩ [.string nm, .bool a1, .bool a2, .bool a3, .bool a4] → Does Tryz.prog 36 [.slice Ae z.eras.length ce, .func (.func 78) #[] #[.pointer (some ⟨b6, 0, none⟩)]] w' (fun v O => v = .int .i64 (findI (wrongB a2 a3) z.eras 0) ∧ O = []) :=
    fun b6 w' hw h6 => indexEr_spec Ae ce z.eras 78 [] [.pointer (some ⟨b6, 0, none⟩)] (wrongB a2 a3) w' (hEz.up hw) fun r hr w2 hw2 => var2_spec r ⟨b6, 0, none⟩ a2 a3 w2 ((hL.up hw).up hw2) (hZ z hmem r hr) (cellUp h6 hw2 rfl) (cellUp h6 hw2 rfl)
   rw [findI_idx] at her
   generalize z.eras.findIdx? (wrongB a2 a3) = ei at *
   cases ei with
   | some j =>
    dsimp only at her hi
    rw [Nat.zero_add] at her
    have b0 : decide ((0 : Int) ≤ (j : Int)) = true := decide_eq_true (by omega)
    subst hi
    simp only [ptV, plV, DPlace.enc]
    repeat (first | (apply RL_pu; rfl; (first | exact PuI | (apply Pu_geqB; rfl; rfl; exact b0))) | (refine js ?_; (first | (refine callO (fun w' hw hO => her _ w' hw (hO.cells (by repeat' constructor))) ?_) | (refine bx ?_; intro bk))) | refine walk1 ?_)
    exact rtC
   | none =>
    dsimp only at her hi
    repeat (first | (apply RL_pu; rfl; exact PuI) | (refine js ?_; (first | (refine callO (fun w' hw hO => her _ w' hw (hO.cells (by repeat' constructor))) ?_) | (refine bx ?_; intro bk))) | refine walk1 ?_)
    exact ⟨i + 1, OA, ⟨OA, hi⟩, SFA, SOA⟩
  ·simp only [decide_eq_false_iff_not, Int.ofNat_lt] at hc
   rw [List.drop_eq_nil_of_le (by omega), zGo] at hi
   subst hi
   dsimp only
   by_cases hsn : 0 < a.shifts.length
   ·have bs : decide ((0 : Int) < a.shifts.length) = true := decide_eq_true (by omega)
    cases a4 with
    | false =>
     rw [if_pos ⟨hsn, rfl⟩]
     simp only [ptV, plV, DPlace.enc]
     repeat (first | (apply RL_pu; rfl; exact PuVarC2) | (refine js ?_; (refine bx ?_; intro bk)) | refine walk1 ?_)
     exact rtC
    | true =>
     rw [if_neg (by rintro ⟨_, h⟩; cases h)]
     repeat (first | (apply RL_pu; rfl; exact PuVarC2) | (refine js ?_; (refine bx ?_; intro bk)) | refine walk1 ?_)
     exact rtC
   ·have bs : decide ((0 : Int) < a.shifts.length) = false := decide_eq_false (by omega)
    rw [if_neg (fun h => hsn h.1)]
    repeat (first | (apply RL_pu; rfl; exact PuVarC2) | (refine js ?_; (refine bx ?_; intro bk)) | refine walk1 ?_)
    exact rtC
theorem varC_spec (Ar Az Al As : Option Addr) (cr cz cl cs : Nat) (a : DSource) (f : Int) (w : World) (hL : LibW w) (hG : Glob w) (hA : RdSource w Ar Az Al As cr cz cl cs a) (hS : SrcOk a) (hZ : ∀ z ∈ a.zones, ∀ e ∈ z.eras, e.format.size ≤ 1000000000) :
  Does Tryz.prog 37 [srcV Ar Az Al As cr cz cl cs a, .int .i64 f] w (fun v O => v = ptV (varFault f a) ∧ O = []) := by
 by_cases hb : f < 1 ∨ 3 < f
 ·have hof := fun w' => of_bad f hb w'
  unfold varFault
  rw [if_pos hb]
  simp only [ptV, plV, DPlace.enc]
  refine Does_of_W Tryz.func37 rfl rfl rfl rfl ?_
  repeat (first | (refine js ?_; (first | (refine callE (fun w' hw => hof w') ?_) | (refine bx ?_; intro bk))) | refine walk ?_)
  exact rtC
 ·obtain rfl | rfl | rfl : f = 1 ∨ f = 2 ∨ f = 3 := by omega
  ·rw [vf_1]
   exact varC_gen Ar Az Al As cr cz cl cs a 1 _ _ _ _ _ w hL hA hS hZ fun w' hw => of_1 w' (hG.up hw)
  ·rw [vf_2]
   exact varC_gen Ar Az Al As cr cz cl cs a 2 _ _ _ _ _ w hL hA hS hZ fun w' hw => of_2 w' (hG.up hw)
  ·rw [vf_3]
   exact varC_gen Ar Az Al As cr cz cl cs a 3 _ _ _ _ _ w hL hA hS hZ fun w' hw => of_3 w' (hG.up hw)
end Go.Proofs.YtbjkhnlnedfceaaGreatDoor
