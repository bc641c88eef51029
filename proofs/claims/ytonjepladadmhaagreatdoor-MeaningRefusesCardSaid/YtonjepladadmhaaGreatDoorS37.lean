/- Contract: looker.zones. Contract: accept.Check. A source that accept looks at, and its contract. Plain: sources of few and short parts; drafts are such; then accept's contract holds. Plain: drafts of layer 23 are sources of few and short parts; every name of theirs is found. Plain law: sources and rules that are refused (layer 38). Plain law: the year behind which nothing else happens (layer 38), and drafts of layer 23. Plain functions: what goes on for ever in a zone (layer 38), and the chapter's examples. Contracts: footer.abbr, always, twice, find. -/
import Derived.Test.YtonjepladadmhaaGreatDoorS34
import Derived.Test.YtonjepladadmhaaGreatDoorS36
import Derived.Test.YtonjepladadmhaaGreatDoorS26
import Derived.Test.YtonjepladadmhaaGreatDoorS28
import Derived.Test.YtonjepladadmhaaGreatDoorS19
import Derived.Test.YtonjepladadmhaaGreatDoorS08
import Derived.Test.YtonjepladadmhaaGreatDoorS25
set_option maxHeartbeats 4000000
set_option linter.unusedVariables false
set_option linter.unusedSimpArgs false
namespace Go.Proofs.YtonjepladadmhaaGreatDoor
open Go Go.RowKit Go.Wk
attribute [local irreducible] W RL Does thenQ blockQ retQ Calls Pu Stp RD Qy Ay DoesIn
structure ZnG where
 k : Nat
 p : Int
theorem PuAccI0 {G : Prop} (h : G := by (first | exact PuI | (apply Pu_eqlB; rfl; rfl; exact hb))) : G := h
theorem PuAccI1 {G : Prop} (h : G := by (first | exact PuI | (apply Pu_eqlB; rfl; rfl; exact hbk))) : G := h
theorem PuAccI2 {G : Prop} (h : G := by (first | exact PuAccI1 | (apply Pu_neqB'; rfl; rfl; exact hb2))) : G := h
set_option maxHeartbeats 2000000 in
theorem azones_spec (Ar Az Al As : Option Addr) (cr cz cl cs : Nat) (a : DSource) (w : World) (hL : LibW w) (hG : Glob w) (hA : RdSource w Ar Az Al As cr cz cl cs a) (hS : SrcOk a) (hV : SavOk a) (hZ : ∀ z ∈ a.zones, ∀ e ∈ z.eras, EraOk e) :
  Does Tryz.prog 58 [srcV Ar Az Al As cr cz cl cs a] w (fun v O => v = ptV (zonesGo a.rules a.zones 0) ∧ O = []) := by
 have hnz := hS.nz
 obtain ⟨res, hres⟩ : ∃ res, zonesGo a.rules a.zones 0 = res := ⟨_, rfl⟩
 rw [hres]
 refine Does_of_W Tryz.func58 rfl rfl rfl rfl ?_
 repeat (first | (refine js ?_; (refine bx ?_; intro bk)) | refine walk ?_)
 rename_i b1
 obtain ⟨b2, hb2⟩ : ∃ b2, bk = b2 := ⟨_, rfl⟩
 rw [hb2]
 clear hb2 bk
 refine W_loopF [(1, .pointer (some ⟨b1, 0, none⟩)), (2, .pointer (some ⟨b2, 0, none⟩)), (13, .slice Az a.zones.length cz), (14, .int .i64 a.zones.length)] [.blk b2 [.int .i64 0, .int .i64 0, .int .i64 0] 65, .blk b1 [.slice Ar a.rules.length cr, .slice Az a.zones.length cz, .slice Al a.links.length cl, .slice As a.shifts.length cs] 137]
  (fun k : Nat => [(15, .int .i64 k)]) (fun _ => []) (fun k => k ≤ a.zones.length ∧ zonesGo a.rules (a.zones.drop k) k = res) (fun k => a.zones.length - k) 0 SFA SOA ⟨Nat.zero_le _, hres⟩ ?_
 clear hres
 rintro i ⟨hil, hi⟩
 repeat (first | (refine js ?_; (refine bx ?_; intro bk)) | refine walk ?_)
 refine W_cond rfl (fun hc => ?_) (fun hc => ?_)
 ·simp only [decide_eq_true_eq, Int.ofNat_lt] at hc
  obtain ⟨hna, cs1, ⟨Ae, ce, hEz, rfl⟩, hca⟩ := hA.z i _ (List.getElem?_eq_getElem hc)
  have hmem := List.getElem_mem hc
  rw [drop_cons hc, zonesGo] at hi
  generalize a.zones[i] = z at *
  have hel := (hS.zs z hmem).2.1
  by_cases hz0 : z.eras = []
  ·rw [if_pos hz0] at hi
   subst hi
   have hb : decide ((z.eras.length : Int) = 0) = true := by rw [hz0]; rfl
   simp only [ptV, plV, DPlace.enc]
   repeat (first | (apply RL_pu; rfl; exact PuAccI0) | (refine js ?_; (refine bx ?_; intro bk)) | refine walk1 ?_)
   exact rtC
  have hb : decide ((z.eras.length : Int) = 0) = false := decide_eq_false (fun h => hz0 (List.eq_nil_of_length_eq_zero (by omega)))
  rw [if_neg hz0] at hi
  obtain ⟨r2, hr2⟩ : ∃ r2, erasGo a.rules z.eras i z.eras.length 0 = r2 := ⟨_, rfl⟩
  rw [hr2] at hi
  have hfw : r2 = none → ∀ w', Bel w.heap.size w w' → Does Tryz.prog 115 [srcV Ar Az Al As cr cz cl cs a, .agg #[.string z.name, .slice Ae z.eras.length ce]] w' (fun v O => v = .bool (fewB25 a.rules z) ∧ O = []) := fun hn w' hw =>
   afew_spec Ar Az Al As cr cz cl cs a z Ae ce w' (hL.up hw) (hA.up hw) (hEz.up hw) hS hV hel (fun e he => hZ z hmem e he) (eras_hours (hr2.trans hn))
  generalize fewB25 a.rules z = fw at *
  repeat (first | (apply RL_pu; rfl; exact PuAccI0) | (refine js ?_; (refine bx ?_; intro bk)) | refine walk1 ?_)
  rename_i b5
  obtain ⟨b6, hb6⟩ : ∃ b6, bk = b6 := ⟨_, rfl⟩
  rw [hb6]
  clear hb6 bk
  refine W_loopF [(1, .pointer (some ⟨b1, 0, none⟩)), (2, .pointer (some ⟨b2, 0, none⟩)), (4, .int .i64 i), (5, .pointer (some ⟨b5, 0, none⟩)), (6, .pointer (some ⟨b6, 0, none⟩)), (13, .slice Az a.zones.length cz), (14, .int .i64 a.zones.length), (15, .int .i64 i), (28, .slice Ae z.eras.length ce), (29, .int .i64 z.eras.length)] [.blk b5 [.string z.name, .slice Ae z.eras.length ce] 51, .blk b2 [.int .i64 0, .int .i64 0, .int .i64 0] 65, .blk b1 [.slice Ar a.rules.length cr, .slice Az a.zones.length cz, .slice Al a.links.length cl, .slice As a.shifts.length cs] 137]
   (fun g : ZnG => [(30, .int .i64 g.k)]) (fun g => [.blk b6 [.int .i64 2, .int .i64 i, .int .i64 g.p] 65]) (fun g => g.k ≤ z.eras.length ∧ erasGo a.rules z.eras i (z.eras.length - g.k) g.k = r2) (fun g => z.eras.length - g.k) ⟨0, 0⟩ SFA SOA ⟨Nat.zero_le _, hr2⟩ ?_
  clear hr2
  rintro ⟨k, p⟩ ⟨hkl, hi2⟩
  dsimp only at hkl hi2 ⊢
  repeat (first | (refine js ?_; (refine bx ?_; intro bk)) | refine walk ?_)
  refine W_cond rfl (fun hc2 => ?_) (fun hc2 => ?_)
  ·simp only [decide_eq_true_eq, Int.ofNat_lt] at hc2
   clear hna hca
   obtain ⟨hna, hca⟩ := hEz.rd k _ (List.getElem?_eq_getElem hc2)
   have hem := List.getElem_mem hc2
   have hgd : z.eras.getD k dE0 = z.eras[k] := by rw [List.getD_eq_getElem?_getD, List.getElem?_eq_getElem hc2]; rfl
   obtain ⟨f, hf⟩ : ∃ f, z.eras.length - k = f + 1 := ⟨z.eras.length - k - 1, by omega⟩
   rw [hf, erasGo, hgd] at hi2
   generalize z.eras[k] = e at *
   have hbk : decide ((k : Int) = 0) = decide (k = 0) := by rw [decide_eq_decide]; omega
   generalize decide (k = 0) = fst at *
   have her := fun w' (hw : Bel w.heap.size w w') => lera_spec Ar Az Al As cr cz cl cs a e fst w' (hL.up hw) (hA.up hw) hS hV (hZ z hmem e hem)
   have hen := fun w' (hw : Bel w.heap.size w w') => lend_spec Ar Az Al As cr cz cl cs a Ae ce z.eras k w' (hG.up hw) (hA.up hw) hS hV (hEz.up hw) hel hc2
   generalize eraChk a.rules e fst = ec at *
   generalize endChk a.rules z.eras k = nc at *
   obtain ⟨off, kind, save, set, format, ⟨is, year, month, ⟨dk, dw, dd⟩, ⟨us, ub⟩⟩⟩ := e
   simp only [DEra.enc] at her hca
   by_cases h1 : ec = 0
   ·rw [if_neg (fun h => h h1)] at hi2
    subst h1
    by_cases h2 : nc = 0
    ·rw [if_neg (fun h => h h2)] at hi2
     subst h2
     repeat (first | (apply RL_pu; rfl; exact PuAccI1) | (refine js ?_; (first | (refine callE her ?_) | (refine callE hen ?_) | (refine bx ?_; intro bk))) | refine walk1 ?_)
     exact ⟨⟨k + 1, k⟩, OA, ⟨OA, by dsimp only; rw [show z.eras.length - (k + 1) = f by omega]; exact hi2⟩, SFA, SOA⟩
    ·rw [if_pos h2] at hi2
     subst hi2
     dsimp only at hi
     subst hi
     have hb2 : (!decide (nc = 0)) = true := by rw [decide_eq_false h2]; rfl
     simp only [ptV, plV, DPlace.enc]
     repeat (first | (apply RL_pu; rfl; exact PuAccI2) | (refine js ?_; (first | (refine callE her ?_) | (refine callE hen ?_) | (refine bx ?_; intro bk))) | refine walk1 ?_)
     exact rtC
   ·rw [if_pos h1] at hi2
    subst hi2
    dsimp only at hi
    subst hi
    have hb2 : (!decide (ec = 0)) = true := by rw [decide_eq_false h1]; rfl
    simp only [ptV, plV, DPlace.enc]
    repeat (first | (apply RL_pu; rfl; exact PuAccI2) | (refine js ?_; (first | (refine callE her ?_) | (refine bx ?_; intro bk))) | refine walk1 ?_)
    exact rtC
  ·simp only [decide_eq_false_iff_not, Int.ofNat_lt] at hc2
   rw [show z.eras.length - k = 0 by omega, erasGo] at hi2
   subst hi2
   replace hfw := hfw rfl
   dsimp only at hi
   cases fw with
   | false =>
    rw [if_pos rfl] at hi
    subst hi
    simp only [ptV, plV, DPlace.enc]
    repeat (first | (refine js ?_; (first | (refine callE hfw ?_) | (refine bx ?_; intro bk))) | refine walk ?_)
    exact rtC
   | true =>
    rw [if_neg (by decide)] at hi
    repeat (first | (refine js ?_; (first | (refine callE hfw ?_) | (refine bx ?_; intro bk))) | refine walk ?_)
    exact ⟨i + 1, OA, ⟨OA, hi⟩, SFA, SOA⟩
 ·simp only [decide_eq_false_iff_not, Int.ofNat_lt] at hc
  rw [List.drop_eq_nil_of_le (by omega), zonesGo] at hi
  subst hi
  repeat (first | (refine js ?_; (refine bx ?_; intro bk)) | refine walk ?_)
  exact rtC
end Go.Proofs.YtonjepladadmhaaGreatDoor
namespace Go.Proofs.YtonjepladadmhaaGreatDoor
open Go Go.RowKit Go.Wk
attribute [local irreducible] W RL Does thenQ blockQ retQ Calls Pu Stp RD Qy Ay DoesIn RW
theorem sizesD_ne {s : DSource} {p : DPlace} {e : Int} (h : sizesD s = some (p, e)) : e ≠ 0 := by
 unfold sizesD at h
 repeat' split at h
 all_goals first | (simp only [Option.some.injEq, Prod.mk.injEq] at h; omega) | cases h
theorem setFault_ne {rs : List DRule} {x : ByteArray} {i : Nat} {e : Int} (h : setFault rs x = some (i, e)) : e ≠ 0 := by
 unfold setFault at h
 split at h
 ·simp only [Option.some.injEq, Prod.mk.injEq] at h; omega
 ·split at h
  ·rename_i h2
   simp only [Option.some.injEq] at h
   rw [h] at h2
   exact h2
  ·split at h
   ·simp only [Option.some.injEq, Prod.mk.injEq] at h; omega
   ·cases h
theorem setsGo_ne (rs : List DRule) : ∀ (l : List ByteArray) {p : DPlace} {e : Int}, setsGo rs l = some (p, e) → e ≠ 0
 | [], _, _, h => by cases h
 | x :: l, p, e, h => by
  rw [setsGo] at h
  split at h
  ·rename_i i e2 h2
   simp only [Option.some.injEq, Prod.mk.injEq] at h
   rw [← h.2]
   exact setFault_ne h2
  ·exact setsGo_ne rs l h
theorem shiftsGo_ne (s : DSource) : ∀ (l seen : List ByteArray) (i : Nat) {p : DPlace} {e : Int}, shiftsGo s l seen i = some (p, e) → e ≠ 0
 | [], _, _, _, _, h => by cases h
 | x :: l, seen, i, p, e, h => by
  rw [shiftsGo] at h
  split at h
  ·simp only [Option.some.injEq, Prod.mk.injEq] at h; omega
  ·split at h
   ·simp only [Option.some.injEq, Prod.mk.injEq] at h; omega
   ·split at h
    ·simp only [Option.some.injEq, Prod.mk.injEq] at h; omega
    ·exact shiftsGo_ne s l _ _ h
theorem linkFault_ne (s : DSource) : ∀ (l : List DLink) (i : Nat) {p : DPlace} {e : Int}, linkFault s l i = some (p, e) → e ≠ 0
 | [], _, _, _, h => by cases h
 | x :: l, i, p, e, h => by
  rw [linkFault] at h
  repeat' split at h
  all_goals first | (simp only [Option.some.injEq, Prod.mk.injEq] at h; omega) | exact linkFault_ne s l _ h
theorem loopFault_ne (s : DSource) : ∀ (l : List DLink) (i : Nat) {p : DPlace} {e : Int}, loopFault s l i = some (p, e) → e ≠ 0
 | [], _, _, _, h => by cases h
 | x :: l, i, p, e, h => by
  rw [loopFault] at h
  split at h
  ·simp only [Option.some.injEq, Prod.mk.injEq] at h; omega
  ·exact loopFault_ne s l _ h
theorem linksD_ne {s : DSource} {p : DPlace} {e : Int} (h : linksD s = some (p, e)) : e ≠ 0 := by
 unfold linksD at h
 cases h1 : zoneFault s s.zones 0 with
 | some x => rw [h1] at h; simp only [Option.some_or, Option.some.injEq] at h; subst h; exact zoneFault_ne s _ _ _ _ h1
 | none =>
  rw [h1, Option.none_or] at h
  cases h2 : linkFault s s.links 0 with
  | some x => rw [h2] at h; simp only [Option.some_or, Option.some.injEq] at h; subst h; exact linkFault_ne s _ _ h2
  | none =>
   rw [h2, Option.none_or] at h
   exact loopFault_ne s _ _ h
theorem erasGo_ne (rs : List DRule) (l : List DEra) (i : Nat) : ∀ (f k : Nat) {p : DPlace} {e : Int}, erasGo rs l i f k = some (p, e) → e ≠ 0
 | 0, _, _, _, h => by cases h
 | f + 1, k, p, e, h => by
  rw [erasGo] at h
  split at h
  ·rename_i h2; simp only [Option.some.injEq, Prod.mk.injEq] at h; rw [← h.2]; exact h2
  ·split at h
   ·rename_i h2; simp only [Option.some.injEq, Prod.mk.injEq] at h; rw [← h.2]; exact h2
   ·exact erasGo_ne rs l i f _ h
theorem zonesGo_ne (rs : List DRule) : ∀ (l : List DZone) (i : Nat) {p : DPlace} {e : Int}, zonesGo rs l i = some (p, e) → e ≠ 0
 | [], _, _, _, h => by cases h
 | z :: l, i, p, e, h => by
  rw [zonesGo] at h
  split at h
  ·simp only [Option.some.injEq, Prod.mk.injEq] at h; omega
  ·split at h
   ·rename_i x h2
    simp only [Option.some.injEq] at h
    subst h
    exact erasGo_ne rs _ _ _ _ h2
   ·split at h
    ·simp only [Option.some.injEq, Prod.mk.injEq] at h; omega
    ·exact zonesGo_ne rs l _ h
instance : ZeroT Tryz.prog 138 [.nilFunc] := ⟨by kernel_rfl⟩
theorem PuAccJ0 {G : Prop} (h : G := by (first | (apply Pu_loadBi; rfl; (focus repeat' constructor); rfl) | (apply Pu_neqB'; rfl; rfl; exact hb))) : G := h
theorem PuAccJ1 {G : Prop} (h : G := by (apply Pu_loadBi; rfl; (focus repeat' constructor); rfl)) : G := h
set_option maxHeartbeats 2000000 in
theorem acc_spec (Ar Az Al As : Option Addr) (cr cz cl cs : Nat) (a : DSource) (w : World) (hL : LibW w) (hG : Glob w) (hA : RdSource w Ar Az Al As cr cz cl cs a) (hS : SrcOk a) (hV : SavI a) (hZ : ∀ z ∈ a.zones, ∀ e ∈ z.eras, EraOk e) :
  Does Tryz.prog 19 [srcV Ar Az Al As cr cz cl cs a] w (fun v O => v = ptV (accD a) ∧ O = []) := by
 have h1 : ∀ w', Bel w.heap.size w w' → Does Tryz.prog 54 ([srcV Ar Az Al As cr cz cl cs a] ++ [] ++ []) w' (fun v O => v = ptV (sizesD a) ∧ O = []) := fun w' hw => sizes_spec Ar Az Al As cr cz cl cs a w' (hA.up hw) hS.nz
 have h2 : ∀ w', Bel w.heap.size w w' → Does Tryz.prog 55 ([srcV Ar Az Al As cr cz cl cs a] ++ [] ++ []) w' (fun v O => v = ptV (setsD a) ∧ O = []) := fun w' hw => lsets_spec Ar Az Al As cr cz cl cs a w' (hG.up hw) (hA.up hw) hS hV
 have h3 : ∀ w', Bel w.heap.size w w' → Does Tryz.prog 56 ([srcV Ar Az Al As cr cz cl cs a] ++ [] ++ []) w' (fun v O => v = ptV (shiftsGo a a.shifts [] 0) ∧ O = []) := fun w' hw => lshifts_spec Ar Az Al As cr cz cl cs a w' (hA.up hw) hS
 have h4 : ∀ w', Bel w.heap.size w w' → Does Tryz.prog 57 ([srcV Ar Az Al As cr cz cl cs a] ++ [] ++ []) w' (fun v O => v = ptV (linksD a) ∧ O = []) := fun w' hw => lnames_spec Ar Az Al As cr cz cl cs a w' (hA.up hw) hS
 have h5 : setsD a = none → ∀ w', Bel w.heap.size w w' → Does Tryz.prog 58 ([srcV Ar Az Al As cr cz cl cs a] ++ [] ++ []) w' (fun v O => v = ptV (zonesGo a.rules a.zones 0) ∧ O = []) := fun hs w' hw => azones_spec Ar Az Al As cr cz cl cs a w' (hL.up hw) (hG.up hw) (hA.up hw) hS (setsD_sav hs) hZ
 have n1 := fun {p e} => @sizesD_ne a p e
 have n2 : ∀ {p e}, setsD a = some (p, e) → e ≠ 0 := fun h => setsGo_ne a.rules _ h
 have n3 : ∀ {p e}, shiftsGo a a.shifts [] 0 = some (p, e) → e ≠ 0 := fun h => shiftsGo_ne a _ _ _ h
 have n4 := fun {p e} => @linksD_ne a p e
 have n5 : ∀ {p e}, zonesGo a.rules a.zones 0 = some (p, e) → e ≠ 0 := fun h => zonesGo_ne a.rules _ _ h
 unfold accD
 generalize sizesD a = o1 at *
 generalize setsD a = o2 at *
 generalize shiftsGo a a.shifts [] 0 = o3 at *
 generalize linksD a = o4 at *
 generalize zonesGo a.rules a.zones 0 = o5 at *
 refine Does_of_W Tryz.func19 rfl rfl rfl rfl ?_
 repeat (first | (refine js ?_; (refine bx ?_; intro bk)) | refine walkB ?_)
 refine W_block (W_rounds 6 (RW_succ ?_))
 cases o1 with
 | some x =>
  obtain ⟨⟨p1, p2, p3⟩, e⟩ := x
  have hb : (!decide (e = 0)) = true := by rw [decide_eq_false (n1 rfl)]; rfl
  simp only [Option.some_or, ptV, plV, DPlace.enc] at h1 ⊢
  repeat (first | (apply RL_pu; rfl; exact PuAccJ0) | (refine js ?_; (first | (refine callV (fun w' hw _ => h1 w' hw) ?_) | (refine bx ?_; intro bk))) | refine walk1 ?_)
  exact rtC
 | none =>
 simp only [ptV, plV, DPlace.enc] at h1
 rw [Option.none_or]
 repeat (first | (apply RL_pu; rfl; exact PuAccJ1) | (refine js ?_; (first | (refine callV (fun w' hw _ => h1 w' hw) ?_) | (refine bx ?_; intro bk))) | refine walk1 ?_)
 refine RW_succ ?_
 cases o2 with
 | some x =>
  obtain ⟨⟨p1, p2, p3⟩, e⟩ := x
  have hb : (!decide (e = 0)) = true := by rw [decide_eq_false (n2 rfl)]; rfl
  simp only [Option.some_or, ptV, plV, DPlace.enc] at h2 ⊢
  repeat (first | (apply RL_pu; rfl; exact PuAccJ0) | (refine js ?_; (first | (refine callV (fun w' hw _ => h2 w' hw) ?_) | (refine bx ?_; intro bk))) | refine walk1 ?_)
  exact rtC
 | none =>
 replace h5 := h5 rfl
 simp only [ptV, plV, DPlace.enc] at h2
 rw [Option.none_or]
 repeat (first | (apply RL_pu; rfl; exact PuAccJ1) | (refine js ?_; (first | (refine callV (fun w' hw _ => h2 w' hw) ?_) | (refine bx ?_; intro bk))) | refine walk1 ?_)
 refine RW_succ ?_
 cases o3 with
 | some x =>
  obtain ⟨⟨p1, p2, p3⟩, e⟩ := x
  have hb : (!decide (e = 0)) = true := by rw [decide_eq_false (n3 rfl)]; rfl
  simp only [Option.some_or, ptV, plV, DPlace.enc] at h3 ⊢
  repeat (first | (apply RL_pu; rfl; exact PuAccJ0) | (refine js ?_; (first | (refine callV (fun w' hw _ => h3 w' hw) ?_) | (refine bx ?_; intro bk))) | refine walk1 ?_)
  exact rtC
 | none =>
 simp only [ptV, plV, DPlace.enc] at h3
 rw [Option.none_or]
 repeat (first | (apply RL_pu; rfl; exact PuAccJ1) | (refine js ?_; (first | (refine callV (fun w' hw _ => h3 w' hw) ?_) | (refine bx ?_; intro bk))) | refine walk1 ?_)
 refine RW_succ ?_
 cases o4 with
 | some x =>
  obtain ⟨⟨p1, p2, p3⟩, e⟩ := x
  have hb : (!decide (e = 0)) = true := by rw [decide_eq_false (n4 rfl)]; rfl
  simp only [Option.some_or, ptV, plV, DPlace.enc] at h4 ⊢
  repeat (first | (apply RL_pu; rfl; exact PuAccJ0) | (refine js ?_; (first | (refine callV (fun w' hw _ => h4 w' hw) ?_) | (refine bx ?_; intro bk))) | refine walk1 ?_)
  exact rtC
 | none =>
 simp only [ptV, plV, DPlace.enc] at h4
 rw [Option.none_or]
 repeat (first | (apply RL_pu; rfl; exact PuAccJ1) | (refine js ?_; (first | (refine callV (fun w' hw _ => h4 w' hw) ?_) | (refine bx ?_; intro bk))) | refine walk1 ?_)
 refine RW_succ ?_
 cases o5 with
 | some x =>
  obtain ⟨⟨p1, p2, p3⟩, e⟩ := x
  have hb : (!decide (e = 0)) = true := by rw [decide_eq_false (n5 rfl)]; rfl
  simp only [ptV, plV, DPlace.enc] at h5 ⊢
  repeat (first | (apply RL_pu; rfl; exact PuAccJ0) | (refine js ?_; (first | (refine callV (fun w' hw _ => h5 w' hw) ?_) | (refine bx ?_; intro bk))) | refine walk1 ?_)
  exact rtC
 | none =>
 simp only [ptV, plV, DPlace.enc] at h5 ⊢
 repeat (first | (apply RL_pu; rfl; exact PuAccJ1) | (refine js ?_; (first | (refine callV (fun w' hw _ => h5 w' hw) ?_) | (refine bx ?_; intro bk))) | refine walk1 ?_)
 refine RW_succ ?_
 repeat (first | (refine js ?_; (refine bx ?_; intro bk)) | refine walk ?_)
 exact rtC
end Go.Proofs.YtonjepladadmhaaGreatDoor
namespace Go.Proofs.YtonjepladadmhaaGreatDoor
open Go Go.RowKit Go.Wk
attribute [local irreducible] W RL Does thenQ blockQ retQ Calls Pu Stp RD Qy Ay DoesIn
theorem accD_ne {s : DSource} {p : DPlace} {e : Int} (h : accD s = some (p, e)) : e ≠ 0 := by
 unfold accD at h
 cases h1 : sizesD s with
 | some x => rw [h1] at h; simp only [Option.some_or, Option.some.injEq] at h; subst h; exact sizesD_ne h1
 | none =>
  rw [h1, Option.none_or] at h
  cases h2 : setsD s with
  | some x => rw [h2] at h; simp only [Option.some_or, Option.some.injEq] at h; subst h; exact setsGo_ne _ _ h2
  | none =>
   rw [h2, Option.none_or] at h
   cases h3 : shiftsGo s s.shifts [] 0 with
   | some x => rw [h3] at h; simp only [Option.some_or, Option.some.injEq] at h; subst h; exact shiftsGo_ne _ _ _ _ h3
   | none =>
    rw [h3, Option.none_or] at h
    cases h4 : linksD s with
    | some x => rw [h4] at h; simp only [Option.some_or, Option.some.injEq] at h; subst h; exact linksD_ne h4
    | none =>
     rw [h4, Option.none_or] at h
     exact zonesGo_ne _ _ _ h
structure AccOk (w : World) (Ar Az Al As : Option Addr) (cr cz cl cs : Nat) (a : DSource) : Prop where
 L : LibW w
 G : Glob w
 A : RdSource w Ar Az Al As cr cz cl cs a
 S : SrcOk a
 V : SavI a
 Z : ∀ z ∈ a.zones, ∀ e ∈ z.eras, EraOk e
theorem AccOk.up {w w' : World} {Ar Az Al As : Option Addr} {cr cz cl cs : Nat} {a : DSource} (h : AccOk w Ar Az Al As cr cz cl cs a) (hb : Bel w.heap.size w w') : AccOk w' Ar Az Al As cr cz cl cs a :=
 ⟨h.L.up hb, h.G.up hb, h.A.up hb, h.S, h.V, h.Z⟩
end Go.Proofs.YtonjepladadmhaaGreatDoor
namespace Go.Proofs.YtonjepladadmhaaGreatDoor
open Go Go.RowKit Go.Wk
structure SmE (e : DEra) : Prop where
 set : e.set.size ≤ 100
 fmt : e.format.size ≤ 100
 off : -1000000 ≤ e.off ∧ e.off ≤ 1000000
 save : -1000000 ≤ e.save ∧ e.save ≤ 1000000
 kind : -1000000 ≤ e.kind ∧ e.kind ≤ 1000000
structure Sml (s : DSource) : Prop where
 nr : s.rules.length ≤ 100
 nz : s.zones.length ≤ 100
 nl : s.links.length ≤ 100
 ns : s.shifts.length ≤ 100
 rs : ∀ r ∈ s.rules, r.name.size ≤ 100 ∧ r.letter.size ≤ 100 ∧ -1000000 ≤ r.save ∧ r.save ≤ 1000000
 zs : ∀ z ∈ s.zones, z.name.size ≤ 100 ∧ z.eras.length ≤ 100 ∧ ∀ e ∈ z.eras, SmE e
 ls : ∀ l ∈ s.links, l.target.size ≤ 100 ∧ l.name.size ≤ 100
theorem Sml.acc {w : World} {Ar Az Al As : Option Addr} {cr cz cl cs : Nat} {a : DSource} (h : Sml a) (hL : LibW w) (hG : Glob w) (hA : RdSource w Ar Az Al As cr cz cl cs a) : AccOk w Ar Az Al As cr cz cl cs a where
 L := hL
 G := hG
 A := hA
 S := ⟨by have := h.nr; omega, by have := h.nz; omega, by have := h.nl; omega, by have := h.ns; omega, fun r hr => by obtain ⟨h1, h2, _⟩ := h.rs r hr; omega, fun z hz => by
  obtain ⟨h1, h2, h3⟩ := h.zs z hz
  exact ⟨by omega, by omega, fun e he => by have h4 := (h3 e he).set; have h5 := (h3 e he).fmt; omega⟩, fun l hl => by obtain ⟨h1, h2⟩ := h.ls l hl; omega⟩
 V := fun r hr => by obtain ⟨_, _, h1, h2⟩ := h.rs r hr; omega
 Z := fun z hz e he => by
  have h1 := (h.zs z hz).2.2 e he
  have h2 := h1.off
  have h3 := h1.save
  have h4 := h1.kind
  have h5 := h1.fmt
  exact ⟨by unfold I64; omega, by unfold I64; omega, by unfold I64; omega, by omega⟩
theorem let_size {x : ByteArray} (h : x ∈ [ByteArray.empty, (⟨#[83]⟩ : ByteArray), ⟨#[68]⟩, ⟨#[68, 84]⟩]) : x.size ≤ 100 := by
 have : ∀ x ∈ [ByteArray.empty, (⟨#[83]⟩ : ByteArray), ⟨#[68]⟩, ⟨#[68, 84]⟩], x.size ≤ 100 := by decide
 exact this x h
theorem fmt_size {f : ByteArray} (h : f ∈ fmtU) : f.size ≤ 100 := by
 have h1 : ∀ f ∈ fmtU, f.size ≤ 100 := by decide
 exact h1 f h
theorem DrEra.sm {rs : List DRule} {e : DEra} {first : Bool} (h : DrEra rs e first) (hn : ∀ r ∈ rs, r.name.size ≤ 100) : SmE e := by
 refine ⟨?_, fmt_size h.fmt, ?_, ?_, ?_⟩
 ·rcases h with ⟨_, _, h, _⟩ | ⟨_, _, h, _⟩ | ⟨_, _, _, _, _, _, h, _⟩
  ·rw [h]; exact Nat.zero_le _
  ·rw [h]; exact Nat.zero_le _
  ·obtain ⟨_, _, _, ⟨r, hr, _⟩, _⟩ := h.saves
   obtain ⟨h1, h2⟩ := List.mem_filter.1 hr
   have h3 : r.name = e.set := by simpa using h2
   rw [← h3]
   exact hn r h1
 ·rcases h with ⟨_, _, _, h1, h2, _⟩ | ⟨_, _, _, h1, h2, _⟩ | ⟨_, _, _, h1, h2, _⟩ <;> omega
 ·rcases h with ⟨_, h1, _⟩ | ⟨_, h1, _⟩ | ⟨_, _, h1, _⟩ <;> omega
 ·rcases h with ⟨h1, _⟩ | ⟨h1, _⟩ | ⟨h1, _⟩ <;> omega
theorem sN_size : ∀ i : Fin 3, (sN i.val).size ≤ 100 := by decide +kernel
theorem zoneN23_size (j : Nat) : (zoneN23.getD j ByteArray.empty).size ≤ 100 := by
 rcases j with _ | _ | _ | j
 ·decide
 ·decide
 ·decide
 ·exact Nat.zero_le _
theorem linkN23_size (j : Nat) : (linkN23.getD j ByteArray.empty).size ≤ 100 := by
 rcases j with _ | _ | _ | _ | j
 ·decide
 ·decide
 ·decide
 ·decide
 ·exact Nat.zero_le _
theorem made23_dr (d : DD23) : ∀ r ∈ (made23 d).rules, DrRule r ∧ r.name.size ≤ 100 := fun r hr => by
 obtain ⟨j, h1, h2⟩ := rules23_names d.sets d.ns r hr
 have hS := (rules23_set d.sets d.ns (ns23 d).2 j h1).1
 have h3 := (ns23 d).2
 exact ⟨hS.rule r (List.mem_filter.2 ⟨hr, decide_eq_true h2⟩), h2 ▸ sN_size ⟨j, by omega⟩⟩
theorem lks23_size (nz : Nat) (c : Nat → Nat) : ∀ n, ∀ l ∈ lks23 nz c n, l.target.size ≤ 100 ∧ l.name.size ≤ 100
 | 0, l, h => by cases h
 | n + 1, l, h => by
  rw [lks23, List.mem_append, List.mem_singleton] at h
  rcases h with h | rfl
  ·exact lks23_size nz c n l h
  ·refine ⟨?_, linkN23_size n⟩
   show (lkT23 nz (c n)).size ≤ 100
   unfold lkT23
   split
   ·exact zoneN23_size _
   ·exact linkN23_size _
theorem zns23_name : ∀ n, ∀ z ∈ zns23 n, z.name.size ≤ 100
 | 0, z, h => by cases h
 | n + 1, z, h => by
  rw [zns23, List.mem_append, List.mem_singleton] at h
  rcases h with h | rfl
  ·exact zns23_name n z h
  ·exact zoneN23_size n
theorem made23_nz (d : DD23) : (made23 d).zones.length = (zl23 d.zones).length := zones23_len _ _ _
theorem made23_nl (d : DD23) : (made23 d).links.length ≤ 4 := by
 show (links23 (zl23 d.zones).length (d.links.take 4) (d.links.take 4).length).length ≤ 4
 rw [links23_len, List.length_take]; omega
theorem made23_sml (d : DD23) : Sml (made23 d) := by
 have h1 := rules23_len d.sets d.ns
 have hm := (ns23 d).2
 obtain ⟨z1, z3⟩ := zl23_len d.zones
 have hb := zones23_bare d.ns (zl23 d.zones) _ z3
 refine ⟨?_, ?_, ?_, ?_, ?_, ?_, ?_⟩
 ·show (rules23 d.sets d.ns).length ≤ 100
  omega
 ·rw [made23_nz]; omega
 ·have := made23_nl d; omega
 ·exact Nat.zero_le _
 ·intro r hr
  obtain ⟨q1, q2⟩ := made23_dr d r hr
  have := q1.save
  exact ⟨q2, let_size q1.letter, by omega, by omega⟩
 ·intro z hz
  obtain ⟨Y, hY⟩ := made23_zones d z hz
  have hl := hY.len
  refine ⟨?_, by omega, fun e he => ?_⟩
  ·refine zns23_name (zl23 d.zones).length (bare' z) ?_
   rw [← hb]
   exact List.mem_map_of_mem hz
  ·obtain ⟨k, hk⟩ := List.getElem?_of_mem he
   exact (hY.era k e hk).sm fun r hr => (made23_dr d r hr).2
 ·obtain ⟨c, q1, q2⟩ := links23_lks (zl23 d.zones).length z1 z3 (d.links.take 4) (d.links.take 4).length (by rw [List.length_take]; omega)
  intro l hl
  refine lks23_size (zl23 d.zones).length c (d.links.take 4).length l ?_
  rw [← q2]
  exact hl
def draftN23 (nz nl : Nat) : List ByteArray := zoneN23.take nz ++ linkN23.take nl
theorem zns23_names : ∀ n, n ≤ 3 → (zns23 n).map (·.name) = zoneN23.take n
 | 0, _ => rfl
 | n + 1, h => by
  rw [zns23, List.map_append, zns23_names n (by omega)]
  have hc : n = 0 ∨ n = 1 ∨ n = 2 := by omega
  rcases hc with rfl | rfl | rfl <;> rfl
theorem lks23_names (nz : Nat) (c : Nat → Nat) : ∀ n, n ≤ 4 → (lks23 nz c n).map (·.name) = linkN23.take n
 | 0, _ => rfl
 | n + 1, h => by
  rw [lks23, List.map_append, lks23_names nz c n (by omega)]
  have hc : n = 0 ∨ n = 1 ∨ n = 2 ∨ n = 3 := by omega
  rcases hc with rfl | rfl | rfl | rfl <;> rfl
theorem find23_all : ∀ nz : Fin 4, ∀ nl : Fin 5, ∀ a : Fin 3, ∀ b : Fin 4, ∀ c : Fin 5, ∀ d : Fin 6, a.val < nz.val → b.val < nz.val + 1 → c.val < nz.val + 2 → d.val < nz.val + 3 → ∀ x ∈ draftN23 nz.val nl.val,
  (followD ⟨[], zns23 nz.val, lks23 nz.val (ch4 a.val b.val c.val d.val) nl.val, []⟩ (nl.val + 1) [] x).2 = 0 ∧ (followD ⟨[], zns23 nz.val, lks23 nz.val (ch4 a.val b.val c.val d.val) nl.val, []⟩ (nl.val + 1) [] x).1 < nz.val := by decide +kernel
theorem made23_allN (d : DD23) : (made23 d).zones.map (·.name) = zoneN23.take (zl23 d.zones).length ∧ (made23 d).links.map (·.name) = linkN23.take (d.links.take 4).length := by
 obtain ⟨z1, z3⟩ := zl23_len d.zones
 have hl : (d.links.take 4).length ≤ 4 := by rw [List.length_take]; omega
 obtain ⟨c, q1, q2⟩ := links23_lks (zl23 d.zones).length z1 z3 (d.links.take 4) (d.links.take 4).length hl
 refine ⟨?_, ?_⟩
 ·have hb := congrArg (List.map (·.name)) (zones23_bare d.ns (zl23 d.zones) _ z3)
  rw [List.map_map, zns23_names _ z3] at hb
  exact hb
 ·show (links23 _ _ _).map _ = _
  rw [q2, lks23_names _ _ _ hl]
theorem made23_find (d : DD23) (x : ByteArray) (hx : x ∈ draftN23 (zl23 d.zones).length (d.links.take 4).length) :
  (followD (made23 d) ((made23 d).links.length + 1) [] x).2 = 0 ∧ (followD (made23 d) ((made23 d).links.length + 1) [] x).1 < (made23 d).zones.length := by
 obtain ⟨z1, z3⟩ := zl23_len d.zones
 have hl : (d.links.take 4).length ≤ 4 := by rw [List.length_take]; omega
 obtain ⟨c, q1, q2⟩ := links23_lks (zl23 d.zones).length z1 z3 (d.links.take 4) (d.links.take 4).length hl
 have hln : (made23 d).links.length = (d.links.take 4).length := links23_len _ _ _
 have r0 := q1 0
 have r1 := q1 1
 have r2 := q1 2
 have r3 := q1 3
 have hf := find23_all ⟨_, by omega⟩ ⟨_, by omega⟩ ⟨c 0, by omega⟩ ⟨c 1, by omega⟩ ⟨c 2, by omega⟩ ⟨c 3, by omega⟩ (by dsimp only; omega) (by dsimp only; omega) (by dsimp only; omega) (by dsimp only; omega) x hx
 rw [← followD_bare, hln, made23_nz]
 unfold bareS
 rw [show (made23 d).zones.map bare' = zns23 _ from zones23_bare d.ns (zl23 d.zones) _ z3, show (made23 d).links = links23 (zl23 d.zones).length (d.links.take 4) (d.links.take 4).length from rfl, q2, lks23_congr _ c (ch4 (c 0) (c 1) (c 2) (c 3)) _ fun i hi => by
  have hc : i = 0 ∨ i = 1 ∨ i = 2 ∨ i = 3 := by omega
  rcases hc with rfl | rfl | rfl | rfl <;> rfl]
 exact hf
def lkBad : DLink := ⟨⟨#[78, 111, 119, 104, 101, 114, 101]⟩, ⟨#[88]⟩⟩
def badS (s : DSource) : DSource := { s with links := s.links ++ [lkBad] }
def codeN (o : Option (DPlace × Int)) : Bool := match o with | some p => !decide (p.2 = 0) | none => false
theorem bad23_all : ∀ nz : Fin 4, ∀ nl : Fin 5, ∀ a : Fin 3, ∀ b : Fin 4, ∀ c : Fin 5, ∀ d : Fin 6, a.val < nz.val → b.val < nz.val + 1 → c.val < nz.val + 2 → d.val < nz.val + 3 →
  codeN (linksD ⟨[], zns23 nz.val, lks23 nz.val (ch4 a.val b.val c.val d.val) nl.val ++ [lkBad], []⟩) = true := by decide +kernel
theorem bad23_links (d : DD23) : codeN (linksD (badS (made23 d))) = true := by
 obtain ⟨z1, z3⟩ := zl23_len d.zones
 have hl : (d.links.take 4).length ≤ 4 := by rw [List.length_take]; omega
 obtain ⟨c, q1, q2⟩ := links23_lks (zl23 d.zones).length z1 z3 (d.links.take 4) (d.links.take 4).length hl
 rw [linksD_bare]
 unfold made23 badS bareS
 dsimp only
 rw [zones23_bare _ _ _ z3, q2, lks23_congr _ c (ch4 (c 0) (c 1) (c 2) (c 3)) _ fun i hi => by
  have hc : i = 0 ∨ i = 1 ∨ i = 2 ∨ i = 3 := by omega
  rcases hc with rfl | rfl | rfl | rfl <;> rfl]
 have r0 := q1 0
 have r1 := q1 1
 have r2 := q1 2
 have r3 := q1 3
 exact bad23_all ⟨_, by omega⟩ ⟨_, by omega⟩ ⟨c 0, by omega⟩ ⟨c 1, by omega⟩ ⟨c 2, by omega⟩ ⟨c 3, by omega⟩ (by dsimp only; omega) (by dsimp only; omega) (by dsimp only; omega) (by dsimp only; omega)
theorem bad23_sizes (d : DD23) : sizesD (badS (made23 d)) = none := by
 have h1 := rules23_len d.sets d.ns
 have hm := (ns23 d).2
 obtain ⟨z1, z3⟩ := zl23_len d.zones
 have hr : (badS (made23 d)).rules.length ≤ 15 := by
  show (rules23 d.sets d.ns).length ≤ 15
  omega
 have hz : (badS (made23 d)).zones.length ≤ 3 := by
  show (zones23 d.ns (zl23 d.zones) (zl23 d.zones).length).length ≤ 3
  rw [zones23_len]; exact z3
 have hk : (badS (made23 d)).links.length ≤ 5 := by
  have := made23_nl d
  show ((made23 d).links ++ [lkBad]).length ≤ 5
  rw [List.length_append, List.length_singleton]; omega
 have hf : (badS (made23 d)).zones.findIdx? (fun z => decide (60 < z.eras.length)) = none := by
  rw [List.findIdx?_eq_none_iff]
  intro z hz
  obtain ⟨Y, h⟩ := made23_zones d z hz
  have := h.len
  exact decide_eq_false (by omega)
 unfold sizesD
 rw [if_neg (by omega), if_neg (by omega), hf]
 dsimp only
 rw [if_neg (by omega), if_neg (by show ¬ 2000 < ([] : List ByteArray).length; decide)]
theorem bad23_acc (d : DD23) : ∃ p e, accD (badS (made23 d)) = some (p, e) ∧ e ≠ 0 := by
 have hl := bad23_links d
 have hs : setsD (badS (made23 d)) = none := made23_sets d
 unfold accD
 rw [bad23_sizes d, hs]
 cases h : linksD (badS (made23 d)) with
 | none => rw [h] at hl; cases hl
 | some p =>
  rw [h] at hl
  obtain ⟨p, e⟩ := p
  refine ⟨p, e, rfl, fun he => ?_⟩
  subst he
  cases hl
def eireN : ByteArray := ⟨#[69, 105, 114, 101]⟩
def ruleF (m : Int) (d : DDay) (sec save : Int) : DRule := ⟨eireN, 1972, 1048576, m, d, ⟨sec, 2⟩, save, ByteArray.empty⟩
def sunD (n : Int) : DDay := ⟨3, 0, n⟩
structure DPosix where
 std : ByteArray
 stdOff : Int
 dst : ByteArray
 dstOff : Int
 start : DDate
 fin : DDate
deriving DecidableEq
def DPosix.enc (p : DPosix) : List Value := [.string p.std, .int .i64 p.stdOff, .string p.dst, .int .i64 p.dstOff, .int .i64 p.start.kind, .int .i64 p.start.day, .int .i64 p.start.month, .int .i64 p.start.week, .int .i64 p.start.sec, .int .i64 p.fin.kind, .int .i64 p.fin.day, .int .i64 p.fin.month, .int .i64 p.fin.week, .int .i64 p.fin.sec]
def abbrE (e : DEra) (save : Int) (letter : ByteArray) : ByteArray := ⟨(abbrF e.format.data.toList e.off save letter.data.toList).1.toArray⟩
def xxxB : ByteArray := ⟨#[88, 88, 88]⟩
def alwaysF (e : DEra) (save : Int) (letter : ByteArray) : DPosix :=
 if save = 0 then ⟨abbrE e save letter, e.off, ByteArray.empty, 0, dt0, dt0⟩
 else ⟨xxxB, e.off, abbrE e save letter, e.off + save, ⟨2, 0, 0, 0, 0⟩, ⟨1, 365, 0, 0, 86400 + save⟩⟩
def untN : DUntil := ⟨false, 0, 0, ⟨0, 0, 0⟩, ⟨0, 0⟩⟩
def w38one : DRule := { ruleF 10 ⟨1, 0, 31⟩ 7200 (-3600) with from_ := 1971, to := 1971 }
def w38mar : DRule := ruleF 3 (sunD 15) 7200 0
def w38oct : DRule := ruleF 10 ⟨2, 0, 0⟩ 3600 (-3600)
def w38era1 : DEra := ⟨0, 0, 0, ByteArray.empty, ⟨#[71, 77, 84]⟩, ⟨true, 1968, 10, ⟨1, 0, 27⟩, ⟨0, 0⟩⟩⟩
def w38era2 : DEra := ⟨3600, 2, 0, eireN, ⟨#[73, 83, 84, 47, 71, 77, 84]⟩, untN⟩
def dubN : ByteArray := ⟨#[69, 117, 114, 111, 112, 101, 47, 68, 117, 98, 108, 105, 110]⟩
def eireS : DSource := ⟨[w38one, w38mar, w38oct], [⟨dubN, [w38era1, w38era2]⟩], [], []⟩
def w38eraM : DEra := ⟨3600, 1, 3600, ByteArray.empty, ⟨#[77, 83, 84]⟩, untN⟩
def mstP : DPosix := ⟨xxxB, 3600, ⟨#[77, 83, 84]⟩, 7200, ⟨2, 0, 0, 0, 0⟩, ⟨1, 365, 0, 0, 90000⟩⟩
theorem eire_acc : accD eireS = none := by decide +kernel
theorem two_of : alwaysF w38eraM 3600 ByteArray.empty = mstP := by decide +kernel
attribute [local irreducible] W RL Does thenQ blockQ retQ Calls Pu Stp RD Qy Ay DoesIn
theorem accTe (Ar Az Al As : Option Addr) (cr cz cl cs : Nat) (a : DSource) (p : DPlace) (e : Int) (w : World) (h : AccOk w Ar Az Al As cr cz cl cs a) (hf : accD a = some (p, e)) :
  Does Tryz.prog 19 [srcV Ar Az Al As cr cz cl cs a] w (fun v O => (∃ p1 p2 p3, v = .tuple #[.agg #[.int .i64 p1, .int .i64 p2, .int .i64 p3], .int .i64 e]) ∧ O = []) := by
 have := acc_spec Ar Az Al As cr cz cl cs a w h.L h.G h.A h.S h.V h.Z
 rw [hf] at this
 exact this.mono fun v O hv => ⟨⟨p.part, p.index, p.era, hv.1⟩, hv.2⟩
theorem accTn (Ar Az Al As : Option Addr) (cr cz cl cs : Nat) (a : DSource) (w : World) (h : AccOk w Ar Az Al As cr cz cl cs a) (hf : accD a = none) :
  Does Tryz.prog 19 [srcV Ar Az Al As cr cz cl cs a] w (fun v O => v = .tuple #[.agg #[.int .i64 0, .int .i64 0, .int .i64 0], .int .i64 0] ∧ O = []) := by
 have := acc_spec Ar Az Al As cr cz cl cs a w h.L h.G h.A h.S h.V h.Z
 rwa [hf] at this
end Go.Proofs.YtonjepladadmhaaGreatDoor
