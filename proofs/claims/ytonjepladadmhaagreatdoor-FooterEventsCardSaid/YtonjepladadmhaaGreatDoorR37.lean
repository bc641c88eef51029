/- Contract: looker.zones. Contract: accept.Check. A source that accept looks at, and its contract. Plain: sources of few and short parts; drafts are such; then accept's contract holds. Plain: drafts of layer 23 are sources of few and short parts; every name of theirs is found. Plain law: sources and rules that are refused (layer 38). Plain law: the year behind which nothing else happens (layer 38), and drafts of layer 23. Plain functions: what goes on for ever in a zone (layer 38), and the chapter's examples. Contracts: footer.abbr, always, twice, find. Contracts: slices.Equal at three types. Contract: slices.Equal at numbers. -/
import Derived.Test.YtonjepladadmhaaGreatDoorR34
import Derived.Test.YtonjepladadmhaaGreatDoorR36
import Derived.Test.YtonjepladadmhaaGreatDoorR17
import Derived.Test.YtonjepladadmhaaGreatDoorR20
import Derived.Test.YtonjepladadmhaaGreatDoorR14
import Derived.Test.YtonjepladadmhaaGreatDoorR16
import Derived.Test.YtonjepladadmhaaGreatDoorR15
import Derived.Test.YtonjepladadmhaaGreatDoorR30
import Derived.Test.YtonjepladadmhaaGreatDoorR08
import Derived.Test.YtonjepladadmhaaGreatDoorR26
set_option maxHeartbeats 4000000
set_option linter.unusedVariables false
set_option linter.unusedSimpArgs false
namespace Go.Proofs.YtonjepladadmhaaGreatDoor
open Go Go.RowKit Go.Wk
attribute [local irreducible] W RL Does thenQ blockQ retQ Calls Pu Stp RD Qy Ay DoesIn
structure ZnG where
 k : Nat
 p : Int
theorem PuAccI0 {G : Prop} (h : G := by (first | exact PuI | (apply Pu_eqlB; rfl; rfl; exact hb))) : G := h
theorem PuAccI1 {G : Prop} (h : G := by (first | exact PuI | (apply Pu_eqlB; rfl; rfl; exact hbk))) : G := h
theorem PuAccI2 {G : Prop} (h : G := by (first | exact PuAccI1 | (apply Pu_neqB'; rfl; rfl; exact hb2))) : G := h
set_option maxHeartbeats 2000000 in
theorem azones_spec (Ar Az Al As : Option Addr) (cr cz cl cs : Nat) (a : DSource) (w : World) (hL : LibW w) (hG : Glob w) (hA : RdSource w Ar Az Al As cr cz cl cs a) (hS : SrcOk a) (hV : SavOk a) (hZ : ∀ z ∈ a.zones, ∀ e ∈ z.eras, EraOk e) :
  Does Tryz.prog 58 [srcV Ar Az Al As cr cz cl cs a] w (fun v O => v = ptV (zonesGo a.rules a.zones 0) ∧ O = []) := by
 have hnz := hS.nz
 obtain ⟨res, hres⟩ : ∃ res, zonesGo a.rules a.zones 0 = res := ⟨_, rfl⟩
 rw [hres]
 refine Does_of_W Tryz.func58 rfl rfl rfl rfl ?_
 repeat (first | (refine js ?_; (refine bx ?_; intro bk)) | refine walk ?_)
 rename_i b1
 obtain ⟨b2, hb2⟩ : ∃ b2, bk = b2 := ⟨_, rfl⟩
 rw [hb2]
 clear hb2 bk
 refine W_loopF [(1, .pointer (some ⟨b1, 0, none⟩)), (2, .pointer (some ⟨b2, 0, none⟩)), (13, .slice Az a.zones.length cz), (14, .int .i64 a.zones.length)] [.blk b2 [.int .i64 0, .int .i64 0, .int .i64 0] 65, .blk b1 [.slice Ar a.rules.length cr, .slice Az a.zones.length cz, .slice Al a.links.length cl, .slice As a.shifts.length cs] 137]
  (fun k : Nat => [(15, .int .i64 k)]) (fun _ => []) (fun k => k ≤ a.zones.length ∧ zonesGo a.rules (a.zones.drop k) k = res) (fun k => a.zones.length - k) 0 SFA SOA ⟨Nat.zero_le _, hres⟩ ?_
 clear hres
 rintro i ⟨hil, hi⟩
 repeat (first | (refine js ?_; (refine bx ?_; intro bk)) | refine walk ?_)
 refine W_cond rfl (fun hc => ?_) (fun hc => ?_)
 ·simp only [decide_eq_true_eq, Int.ofNat_lt] at hc
  obtain ⟨hna, cs1, ⟨Ae, ce, hEz, rfl⟩, hca⟩ := hA.z i _ (List.getElem?_eq_getElem hc)
  have hmem := List.getElem_mem hc
  rw [drop_cons hc, zonesGo] at hi
  generalize a.zones[i] = z at *
  have hel := (hS.zs z hmem).2.1
  by_cases hz0 : z.eras = []
  ·rw [if_pos hz0] at hi
   subst hi
   have hb : decide ((z.eras.length : Int) = 0) = true := by rw [hz0]; rfl
   simp only [ptV, plV, DPlace.enc]
   repeat (first | (apply RL_pu; rfl; exact PuAccI0) | (refine js ?_; (refine bx ?_; intro bk)) | refine walk1 ?_)
   exact rtC
  have hb : decide ((z.eras.length : Int) = 0) = false := decide_eq_false (fun h => hz0 (List.eq_nil_of_length_eq_zero (by omega)))
  rw [if_neg hz0] at hi
  obtain ⟨r2, hr2⟩ : ∃ r2, erasGo a.rules z.eras i z.eras.length 0 = r2 := ⟨_, rfl⟩
  rw [hr2] at hi
  have hfw : r2 = none → ∀ w', Bel w.heap.size w w' → Does Tryz.prog 115 [srcV Ar Az Al As cr cz cl cs a, .agg #[.string z.name, .slice Ae z.eras.length ce]] w' (fun v O => v = .bool (fewB25 a.rules z) ∧ O = []) := fun hn w' hw =>
   afew_spec Ar Az Al As cr cz cl cs a z Ae ce w' (hL.up hw) (hA.up hw) (hEz.up hw) hS hV hel (fun e he => hZ z hmem e he) (eras_hours (hr2.trans hn))
  generalize fewB25 a.rules z = fw at *
  repeat (first | (apply RL_pu; rfl; exact PuAccI0) | (refine js ?_; (refine bx ?_; intro bk)) | refine walk1 ?_)
  rename_i b5
  obtain ⟨b6, hb6⟩ : ∃ b6, bk = b6 := ⟨_, rfl⟩
  rw [hb6]
  clear hb6 bk
  refine W_loopF [(1, .pointer (some ⟨b1, 0, none⟩)), (2, .pointer (some ⟨b2, 0, none⟩)), (4, .int .i64 i), (5, .pointer (some ⟨b5, 0, none⟩)), (6, .pointer (some ⟨b6, 0, none⟩)), (13, .slice Az a.zones.length cz), (14, .int .i64 a.zones.length), (15, .int .i64 i), (28, .slice Ae z.eras.length ce), (29, .int .i64 z.eras.length)] [.blk b5 [.string z.name, .slice Ae z.eras.length ce] 51, .blk b2 [.int .i64 0, .int .i64 0, .int .i64 0] 65, .blk b1 [.slice Ar a.rules.length cr, .slice Az a.zones.length cz, .slice Al a.links.length cl, .slice As a.shifts.length cs] 137]
   (fun g : ZnG => [(30, .int .i64 g.k)]) (fun g => [.blk b6 [.int .i64 2, .int .i64 i, .int .i64 g.p] 65]) (fun g => g.k ≤ z.eras.length ∧ erasGo a.rules z.eras i (z.eras.length - g.k) g.k = r2) (fun g => z.eras.length - g.k) ⟨0, 0⟩ SFA SOA ⟨Nat.zero_le _, hr2⟩ ?_
  clear hr2
  rintro ⟨k, p⟩ ⟨hkl, hi2⟩
  dsimp only at hkl hi2 ⊢
  repeat (first | (refine js ?_; (refine bx ?_; intro bk)) | refine walk ?_)
  refine W_cond rfl (fun hc2 => ?_) (fun hc2 => ?_)
  ·simp only [decide_eq_true_eq, Int.ofNat_lt] at hc2
   clear hna hca
   obtain ⟨hna, hca⟩ := hEz.rd k _ (List.getElem?_eq_getElem hc2)
   have hem := List.getElem_mem hc2
   have hgd : z.eras.getD k dE0 = z.eras[k] := by rw [List.getD_eq_getElem?_getD, List.getElem?_eq_getElem hc2]; rfl
   obtain ⟨f, hf⟩ : ∃ f, z.eras.length - k = f + 1 := ⟨z.eras.length - k - 1, by omega⟩
   rw [hf, erasGo, hgd] at hi2
   generalize z.eras[k] = e at *
   have hbk : decide ((k : Int) = 0) = decide (k = 0) := by rw [decide_eq_decide]; omega
   generalize decide (k = 0) = fst at *
   have her := fun w' (hw : Bel w.heap.size w w') => lera_spec Ar Az Al As cr cz cl cs a e fst w' (hL.up hw) (hA.up hw) hS hV (hZ z hmem e hem)
   have hen := fun w' (hw : Bel w.heap.size w w') => lend_spec Ar Az Al As cr cz cl cs a Ae ce z.eras k w' (hG.up hw) (hA.up hw) hS hV (hEz.up hw) hel hc2
   generalize eraChk a.rules e fst = ec at *
   generalize endChk a.rules z.eras k = nc at *
   obtain ⟨off, kind, save, set, format, ⟨is, year, month, ⟨dk, dw, dd⟩, ⟨us, ub⟩⟩⟩ := e
   simp only [DEra.enc] at her hca
   by_cases h1 : ec = 0
   ·rw [if_neg (fun h => h h1)] at hi2
    subst h1
    by_cases h2 : nc = 0
    ·rw [if_neg (fun h => h h2)] at hi2
     subst h2
     repeat (first | (apply RL_pu; rfl; exact PuAccI1) | (refine js ?_; (first | (refine callE her ?_) | (refine callE hen ?_) | (refine bx ?_; intro bk))) | refine walk1 ?_)
     exact ⟨⟨k + 1, k⟩, OA, ⟨OA, by dsimp only; rw [show z.eras.length - (k + 1) = f by omega]; exact hi2⟩, SFA, SOA⟩
    ·rw [if_pos h2] at hi2
     subst hi2
     dsimp only at hi
     subst hi
     have hb2 : (!decide (nc = 0)) = true := by rw [decide_eq_false h2]; rfl
     simp only [ptV, plV, DPlace.enc]
     repeat (first | (apply RL_pu; rfl; exact PuAccI2) | (refine js ?_; (first | (refine callE her ?_) | (refine callE hen ?_) | (refine bx ?_; intro bk))) | refine walk1 ?_)
     exact rtC
   ·rw [if_pos h1] at hi2
    subst hi2
    dsimp only at hi
    subst hi
    have hb2 : (!decide (ec = 0)) = true := by rw [decide_eq_false h1]; rfl
    simp only [ptV, plV, DPlace.enc]
    repeat (first | (apply RL_pu; rfl; exact PuAccI2) | (refine js ?_; (first | (refine callE her ?_) | (refine bx ?_; intro bk))) | refine walk1 ?_)
    exact rtC
  ·simp only [decide_eq_false_iff_not, Int.ofNat_lt] at hc2
   rw [show z.eras.length - k = 0 by omega, erasGo] at hi2
   subst hi2
   replace hfw := hfw rfl
   dsimp only at hi
   cases fw with
   | false =>
    rw [if_pos rfl] at hi
    subst hi
    simp only [ptV, plV, DPlace.enc]
    repeat (first | (refine js ?_; (first | (refine callE hfw ?_) | (refine bx ?_; intro bk))) | refine walk ?_)
    exact rtC
   | true =>
    rw [if_neg (by decide)] at hi
    repeat (first | (refine js ?_; (first | (refine callE hfw ?_) | (refine bx ?_; intro bk))) | refine walk ?_)
    exact ⟨i + 1, OA, ⟨OA, hi⟩, SFA, SOA⟩
 ·simp only [decide_eq_false_iff_not, Int.ofNat_lt] at hc
  rw [List.drop_eq_nil_of_le (by omega), zonesGo] at hi
  subst hi
  repeat (first | (refine js ?_; (refine bx ?_; intro bk)) | refine walk ?_)
  exact rtC
end Go.Proofs.YtonjepladadmhaaGreatDoor
namespace Go.Proofs.YtonjepladadmhaaGreatDoor
open Go Go.RowKit Go.Wk
attribute [local irreducible] W RL Does thenQ blockQ retQ Calls Pu Stp RD Qy Ay DoesIn RW
theorem sizesD_ne {s : DSource} {p : DPlace} {e : Int} (h : sizesD s = some (p, e)) : e ≠ 0 := by
 unfold sizesD at h
 repeat' split at h
 all_goals first | (simp only [Option.some.injEq, Prod.mk.injEq] at h; omega) | cases h
theorem setFault_ne {rs : List DRule} {x : ByteArray} {i : Nat} {e : Int} (h : setFault rs x = some (i, e)) : e ≠ 0 := by
 unfold setFault at h
 split at h
 ·simp only [Option.some.injEq, Prod.mk.injEq] at h; omega
 ·split at h
  ·rename_i h2
   simp only [Option.some.injEq] at h
   rw [h] at h2
   exact h2
  ·split at h
   ·simp only [Option.some.injEq, Prod.mk.injEq] at h; omega
   ·cases h
theorem setsGo_ne (rs : List DRule) : ∀ (l : List ByteArray) {p : DPlace} {e : Int}, setsGo rs l = some (p, e) → e ≠ 0
 | [], _, _, h => by cases h
 | x :: l, p, e, h => by
  rw [setsGo] at h
  split at h
  ·rename_i i e2 h2
   simp only [Option.some.injEq, Prod.mk.injEq] at h
   rw [← h.2]
   exact setFault_ne h2
  ·exact setsGo_ne rs l h
theorem shiftsGo_ne (s : DSource) : ∀ (l seen : List ByteArray) (i : Nat) {p : DPlace} {e : Int}, shiftsGo s l seen i = some (p, e) → e ≠ 0
 | [], _, _, _, _, h => by cases h
 | x :: l, seen, i, p, e, h => by
  rw [shiftsGo] at h
  split at h
  ·simp only [Option.some.injEq, Prod.mk.injEq] at h; omega
  ·split at h
   ·simp only [Option.some.injEq, Prod.mk.injEq] at h; omega
   ·split at h
    ·simp only [Option.some.injEq, Prod.mk.injEq] at h; omega
    ·exact shiftsGo_ne s l _ _ h
theorem linkFault_ne (s : DSource) : ∀ (l : List DLink) (i : Nat) {p : DPlace} {e : Int}, linkFault s l i = some (p, e) → e ≠ 0
 | [], _, _, _, h => by cases h
 | x :: l, i, p, e, h => by
  rw [linkFault] at h
  repeat' split at h
  all_goals first | (simp only [Option.some.injEq, Prod.mk.injEq] at h; omega) | exact linkFault_ne s l _ h
theorem loopFault_ne (s : DSource) : ∀ (l : List DLink) (i : Nat) {p : DPlace} {e : Int}, loopFault s l i = some (p, e) → e ≠ 0
 | [], _, _, _, h => by cases h
 | x :: l, i, p, e, h => by
  rw [loopFault] at h
  split at h
  ·simp only [Option.some.injEq, Prod.mk.injEq] at h; omega
  ·exact loopFault_ne s l _ h
theorem linksD_ne {s : DSource} {p : DPlace} {e : Int} (h : linksD s = some (p, e)) : e ≠ 0 := by
 unfold linksD at h
 cases h1 : zoneFault s s.zones 0 with
 | some x => rw [h1] at h; simp only [Option.some_or, Option.some.injEq] at h; subst h; exact zoneFault_ne s _ _ _ _ h1
 | none =>
  rw [h1, Option.none_or] at h
  cases h2 : linkFault s s.links 0 with
  | some x => rw [h2] at h; simp only [Option.some_or, Option.some.injEq] at h; subst h; exact linkFault_ne s _ _ h2
  | none =>
   rw [h2, Option.none_or] at h
   exact loopFault_ne s _ _ h
theorem erasGo_ne (rs : List DRule) (l : List DEra) (i : Nat) : ∀ (f k : Nat) {p : DPlace} {e : Int}, erasGo rs l i f k = some (p, e) → e ≠ 0
 | 0, _, _, _, h => by cases h
 | f + 1, k, p, e, h => by
  rw [erasGo] at h
  split at h
  ·rename_i h2; simp only [Option.some.injEq, Prod.mk.injEq] at h; rw [← h.2]; exact h2
  ·split at h
   ·rename_i h2; simp only [Option.some.injEq, Prod.mk.injEq] at h; rw [← h.2]; exact h2
   ·exact erasGo_ne rs l i f _ h
theorem zonesGo_ne (rs : List DRule) : ∀ (l : List DZone) (i : Nat) {p : DPlace} {e : Int}, zonesGo rs l i = some (p, e) → e ≠ 0
 | [], _, _, _, h => by cases h
 | z :: l, i, p, e, h => by
  rw [zonesGo] at h
  split at h
  ·simp only [Option.some.injEq, Prod.mk.injEq] at h; omega
  ·split at h
   ·rename_i x h2
    simp only [Option.some.injEq] at h
    subst h
    exact erasGo_ne rs _ _ _ _ h2
   ·split at h
    ·simp only [Option.some.injEq, Prod.mk.injEq] at h; omega
    ·exact zonesGo_ne rs l _ h
instance : ZeroT Tryz.prog 138 [.nilFunc] := ⟨by kernel_rfl⟩
theorem PuAccJ0 {G : Prop} (h : G := by (first | (apply Pu_loadBi; rfl; (focus repeat' constructor); rfl) | (apply Pu_neqB'; rfl; rfl; exact hb))) : G := h
theorem PuAccJ1 {G : Prop} (h : G := by (apply Pu_loadBi; rfl; (focus repeat' constructor); rfl)) : G := h
set_option maxHeartbeats 2000000 in
theorem acc_spec (Ar Az Al As : Option Addr) (cr cz cl cs : Nat) (a : DSource) (w : World) (hL : LibW w) (hG : Glob w) (hA : RdSource w Ar Az Al As cr cz cl cs a) (hS : SrcOk a) (hV : SavI a) (hZ : ∀ z ∈ a.zones, ∀ e ∈ z.eras, EraOk e) :
  Does Tryz.prog 19 [srcV Ar Az Al As cr cz cl cs a] w (fun v O => v = ptV (accD a) ∧ O = []) := by
 have h1 : ∀ w', Bel w.heap.size w w' → Does Tryz.prog 54 ([srcV Ar Az Al As cr cz cl cs a] ++ [] ++ []) w' (fun v O => v = ptV (sizesD a) ∧ O = []) := fun w' hw => sizes_spec Ar Az Al As cr cz cl cs a w' (hA.up hw) hS.nz
 have h2 : ∀ w', Bel w.heap.size w w' → Does Tryz.prog 55 ([srcV Ar Az Al As cr cz cl cs a] ++ [] ++ []) w' (fun v O => v = ptV (setsD a) ∧ O = []) := fun w' hw => lsets_spec Ar Az Al As cr cz cl cs a w' (hG.up hw) (hA.up hw) hS hV
 have h3 : ∀ w', Bel w.heap.size w w' → Does Tryz.prog 56 ([srcV Ar Az Al As cr cz cl cs a] ++ [] ++ []) w' (fun v O => v = ptV (shiftsGo a a.shifts [] 0) ∧ O = []) := fun w' hw => lshifts_spec Ar Az Al As cr cz cl cs a w' (hA.up hw) hS
 have h4 : ∀ w', Bel w.heap.size w w' → Does Tryz.prog 57 ([srcV Ar Az Al As cr cz cl cs a] ++ [] ++ []) w' (fun v O => v = ptV (linksD a) ∧ O = []) := fun w' hw => lnames_spec Ar Az Al As cr cz cl cs a w' (hA.up hw) hS
 have h5 : setsD a = none → ∀ w', Bel w.heap.size w w' → Does Tryz.prog 58 ([srcV Ar Az Al As cr cz cl cs a] ++ [] ++ []) w' (fun v O => v = ptV (zonesGo a.rules a.zones 0) ∧ O = []) := fun hs w' hw => azones_spec Ar Az Al As cr cz cl cs a w' (hL.up hw) (hG.up hw) (hA.up hw) hS (setsD_sav hs) hZ
 have n1 := fun {p e} => @sizesD_ne a p e
 have n2 : ∀ {p e}, setsD a = some (p, e) → e ≠ 0 := fun h => setsGo_ne a.rules _ h
 have n3 : ∀ {p e}, shiftsGo a a.shifts [] 0 = some (p, e) → e ≠ 0 := fun h => shiftsGo_ne a _ _ _ h
 have n4 := fun {p e} => @linksD_ne a p e
 have n5 : ∀ {p e}, zonesGo a.rules a.zones 0 = some (p, e) → e ≠ 0 := fun h => zonesGo_ne a.rules _ _ h
 unfold accD
 generalize sizesD a = o1 at *
 generalize setsD a = o2 at *
 generalize shiftsGo a a.shifts [] 0 = o3 at *
 generalize linksD a = o4 at *
 generalize zonesGo a.rules a.zones 0 = o5 at *
 refine Does_of_W Tryz.func19 rfl rfl rfl rfl ?_
 repeat (first | (refine js ?_; (refine bx ?_; intro bk)) | refine walkB ?_)
 refine W_block (W_rounds 6 (RW_succ ?_))
 cases o1 with
 | some x =>
  obtain ⟨⟨p1, p2, p3⟩, e⟩ := x
  have hb : (!decide (e = 0)) = true := by rw [decide_eq_false (n1 rfl)]; rfl
  simp only [Option.some_or, ptV, plV, DPlace.enc] at h1 ⊢
  repeat (first | (apply RL_pu; rfl; exact PuAccJ0) | (refine js ?_; (first | (refine callV (fun w' hw _ => h1 w' hw) ?_) | (refine bx ?_; intro bk))) | refine walk1 ?_)
  exact rtC
 | none =>
 simp only [ptV, plV, DPlace.enc] at h1
 rw [Option.none_or]
 repeat (first | (apply RL_pu; rfl; exact PuAccJ1) | (refine js ?_; (first | (refine callV (fun w' hw _ => h1 w' hw) ?_) | (refine bx ?_; intro bk))) | refine walk1 ?_)
 refine RW_succ ?_
 cases o2 with
 | some x =>
  obtain ⟨⟨p1, p2, p3⟩, e⟩ := x
  have hb : (!decide (e = 0)) = true := by rw [decide_eq_false (n2 rfl)]; rfl
  simp only [Option.some_or, ptV, plV, DPlace.enc] at h2 ⊢
  repeat (first | (apply RL_pu; rfl; exact PuAccJ0) | (refine js ?_; (first | (refine callV (fun w' hw _ => h2 w' hw) ?_) | (refine bx ?_; intro bk))) | refine walk1 ?_)
  exact rtC
 | none =>
 replace h5 := h5 rfl
 simp only [ptV, plV, DPlace.enc] at h2
 rw [Option.none_or]
 repeat (first | (apply RL_pu; rfl; exact PuAccJ1) | (refine js ?_; (first | (refine callV (fun w' hw _ => h2 w' hw) ?_) | (refine bx ?_; intro bk))) | refine walk1 ?_)
 refine RW_succ ?_
 cases o3 with
 | some x =>
  obtain ⟨⟨p1, p2, p3⟩, e⟩ := x
  have hb : (!decide (e = 0)) = true := by rw [decide_eq_false (n3 rfl)]; rfl
  simp only [Option.some_or, ptV, plV, DPlace.enc] at h3 ⊢
  repeat (first | (apply RL_pu; rfl; exact PuAccJ0) | (refine js ?_; (first | (refine callV (fun w' hw _ => h3 w' hw) ?_) | (refine bx ?_; intro bk))) | refine walk1 ?_)
  exact rtC
 | none =>
 simp only [ptV, plV, DPlace.enc] at h3
 rw [Option.none_or]
 repeat (first | (apply RL_pu; rfl; exact PuAccJ1) | (refine js ?_; (first | (refine callV (fun w' hw _ => h3 w' hw) ?_) | (refine bx ?_; intro bk))) | refine walk1 ?_)
 refine RW_succ ?_
 cases o4 with
 | some x =>
  obtain ⟨⟨p1, p2, p3⟩, e⟩ := x
  have hb : (!decide (e = 0)) = true := by rw [decide_eq_false (n4 rfl)]; rfl
  simp only [Option.some_or, ptV, plV, DPlace.enc] at h4 ⊢
  repeat (first | (apply RL_pu; rfl; exact PuAccJ0) | (refine js ?_; (first | (refine callV (fun w' hw _ => h4 w' hw) ?_) | (refine bx ?_; intro bk))) | refine walk1 ?_)
  exact rtC
 | none =>
 simp only [ptV, plV, DPlace.enc] at h4
 rw [Option.none_or]
 repeat (first | (apply RL_pu; rfl; exact PuAccJ1) | (refine js ?_; (first | (refine callV (fun w' hw _ => h4 w' hw) ?_) | (refine bx ?_; intro bk))) | refine walk1 ?_)
 refine RW_succ ?_
 cases o5 with
 | some x =>
  obtain ⟨⟨p1, p2, p3⟩, e⟩ := x
  have hb : (!decide (e = 0)) = true := by rw [decide_eq_false (n5 rfl)]; rfl
  simp only [ptV, plV, DPlace.enc] at h5 ⊢
  repeat (first | (apply RL_pu; rfl; exact PuAccJ0) | (refine js ?_; (first | (refine callV (fun w' hw _ => h5 w' hw) ?_) | (refine bx ?_; intro bk))) | refine walk1 ?_)
  exact rtC
 | none =>
 simp only [ptV, plV, DPlace.enc] at h5 ⊢
 repeat (first | (apply RL_pu; rfl; exact PuAccJ1) | (refine js ?_; (first | (refine callV (fun w' hw _ => h5 w' hw) ?_) | (refine bx ?_; intro bk))) | refine walk1 ?_)
 refine RW_succ ?_
 repeat (first | (refine js ?_; (refine bx ?_; intro bk)) | refine walk ?_)
 exact rtC
end Go.Proofs.YtonjepladadmhaaGreatDoor
namespace Go.Proofs.YtonjepladadmhaaGreatDoor
open Go Go.RowKit Go.Wk
attribute [local irreducible] W RL Does thenQ blockQ retQ Calls Pu Stp RD Qy Ay DoesIn
structure AccOk (w : World) (Ar Az Al As : Option Addr) (cr cz cl cs : Nat) (a : DSource) : Prop where
 L : LibW w
 G : Glob w
 A : RdSource w Ar Az Al As cr cz cl cs a
 S : SrcOk a
 V : SavI a
 Z : ∀ z ∈ a.zones, ∀ e ∈ z.eras, EraOk e
theorem AccOk.up {w w' : World} {Ar Az Al As : Option Addr} {cr cz cl cs : Nat} {a : DSource} (h : AccOk w Ar Az Al As cr cz cl cs a) (hb : Bel w.heap.size w w') : AccOk w' Ar Az Al As cr cz cl cs a :=
 ⟨h.L.up hb, h.G.up hb, h.A.up hb, h.S, h.V, h.Z⟩
end Go.Proofs.YtonjepladadmhaaGreatDoor
namespace Go.Proofs.YtonjepladadmhaaGreatDoor
open Go Go.RowKit Go.Wk
structure SmE (e : DEra) : Prop where
 set : e.set.size ≤ 100
 fmt : e.format.size ≤ 100
 off : -1000000 ≤ e.off ∧ e.off ≤ 1000000
 save : -1000000 ≤ e.save ∧ e.save ≤ 1000000
 kind : -1000000 ≤ e.kind ∧ e.kind ≤ 1000000
structure Sml (s : DSource) : Prop where
 nr : s.rules.length ≤ 100
 nz : s.zones.length ≤ 100
 nl : s.links.length ≤ 100
 ns : s.shifts.length ≤ 100
 rs : ∀ r ∈ s.rules, r.name.size ≤ 100 ∧ r.letter.size ≤ 100 ∧ -1000000 ≤ r.save ∧ r.save ≤ 1000000
 zs : ∀ z ∈ s.zones, z.name.size ≤ 100 ∧ z.eras.length ≤ 100 ∧ ∀ e ∈ z.eras, SmE e
 ls : ∀ l ∈ s.links, l.target.size ≤ 100 ∧ l.name.size ≤ 100
theorem Sml.acc {w : World} {Ar Az Al As : Option Addr} {cr cz cl cs : Nat} {a : DSource} (h : Sml a) (hL : LibW w) (hG : Glob w) (hA : RdSource w Ar Az Al As cr cz cl cs a) : AccOk w Ar Az Al As cr cz cl cs a where
 L := hL
 G := hG
 A := hA
 S := ⟨by have := h.nr; omega, by have := h.nz; omega, by have := h.nl; omega, by have := h.ns; omega, fun r hr => by obtain ⟨h1, h2, _⟩ := h.rs r hr; omega, fun z hz => by
  obtain ⟨h1, h2, h3⟩ := h.zs z hz
  exact ⟨by omega, by omega, fun e he => by have h4 := (h3 e he).set; have h5 := (h3 e he).fmt; omega⟩, fun l hl => by obtain ⟨h1, h2⟩ := h.ls l hl; omega⟩
 V := fun r hr => by obtain ⟨_, _, h1, h2⟩ := h.rs r hr; omega
 Z := fun z hz e he => by
  have h1 := (h.zs z hz).2.2 e he
  have h2 := h1.off
  have h3 := h1.save
  have h4 := h1.kind
  have h5 := h1.fmt
  exact ⟨by unfold I64; omega, by unfold I64; omega, by unfold I64; omega, by omega⟩
def eireN : ByteArray := ⟨#[69, 105, 114, 101]⟩
def ruleF (m : Int) (d : DDay) (sec save : Int) : DRule := ⟨eireN, 1972, 1048576, m, d, ⟨sec, 2⟩, save, ByteArray.empty⟩
def sunD (n : Int) : DDay := ⟨3, 0, n⟩
def yrR : List DRule → Int → Int
 | [], y => y
 | r :: l, y => yrR l (if r.to = 1048576 then max y r.from_ else max (max y r.from_) r.to)
def yr0 (l : List DEra) : Int := if 1 < l.length then (l.getD (l.length - 2) dE0).til.year else 1849
def lastE (l : List DEra) : DEra := l.getD (l.length - 1) dE0
def rulesE (s : DSource) (l : List DEra) : List DRule := if (lastE l).kind = 2 then ofB s.rules (lastE l).set else []
def yearD (s : DSource) (l : List DEra) : Int := yrR (rulesE s l) (yr0 l) + 1
structure DPosix where
 std : ByteArray
 stdOff : Int
 dst : ByteArray
 dstOff : Int
 start : DDate
 fin : DDate
deriving DecidableEq
def DPosix.enc (p : DPosix) : List Value := [.string p.std, .int .i64 p.stdOff, .string p.dst, .int .i64 p.dstOff, .int .i64 p.start.kind, .int .i64 p.start.day, .int .i64 p.start.month, .int .i64 p.start.week, .int .i64 p.start.sec, .int .i64 p.fin.kind, .int .i64 p.fin.day, .int .i64 p.fin.month, .int .i64 p.fin.week, .int .i64 p.fin.sec]
def abbrE (e : DEra) (save : Int) (letter : ByteArray) : ByteArray := ⟨(abbrF e.format.data.toList e.off save letter.data.toList).1.toArray⟩
def xxxB : ByteArray := ⟨#[88, 88, 88]⟩
def alwaysF (e : DEra) (save : Int) (letter : ByteArray) : DPosix :=
 if save = 0 then ⟨abbrE e save letter, e.off, ByteArray.empty, 0, dt0, dt0⟩
 else ⟨xxxB, e.off, abbrE e save letter, e.off + save, ⟨2, 0, 0, 0, 0⟩, ⟨1, 365, 0, 0, 86400 + save⟩⟩
def twiceF (e : DEra) (start fin : DRule) : DPosix :=
 ⟨abbrE e fin.save fin.letter, e.off, abbrE e start.save start.letter, e.off + start.save, (dateD start e.off 0).1, (dateD fin e.off start.save).1⟩
def seF : List DRule → Nat → Option Nat × Option Nat → Option Nat × Option Nat
 | [], _, a => a
 | r :: l, i, a => seF l (i + 1) (if r.to = 1048576 then (if r.save = 0 then (a.1, some i) else (some i, a.2)) else a)
def untN : DUntil := ⟨false, 0, 0, ⟨0, 0, 0⟩, ⟨0, 0⟩⟩
def w38one : DRule := { ruleF 10 ⟨1, 0, 31⟩ 7200 (-3600) with from_ := 1971, to := 1971 }
def w38mar : DRule := ruleF 3 (sunD 15) 7200 0
def w38oct : DRule := ruleF 10 ⟨2, 0, 0⟩ 3600 (-3600)
def w38era1 : DEra := ⟨0, 0, 0, ByteArray.empty, ⟨#[71, 77, 84]⟩, ⟨true, 1968, 10, ⟨1, 0, 27⟩, ⟨0, 0⟩⟩⟩
def w38era2 : DEra := ⟨3600, 2, 0, eireN, ⟨#[73, 83, 84, 47, 71, 77, 84]⟩, untN⟩
def dubN : ByteArray := ⟨#[69, 117, 114, 111, 112, 101, 47, 68, 117, 98, 108, 105, 110]⟩
def eireS : DSource := ⟨[w38one, w38mar, w38oct], [⟨dubN, [w38era1, w38era2]⟩], [], []⟩
def zoA : ByteArray := ⟨#[65]⟩
def w38eraI : DEra := ⟨19800, 0, 0, ByteArray.empty, ⟨#[73, 83, 84]⟩, untN⟩
def oneS : DSource := ⟨[], [⟨zoA, [w38eraI]⟩], [], []⟩
def w38eraG : DEra := ⟨0, 0, 0, ByteArray.empty, ⟨#[71, 77, 84]⟩, ⟨true, 1950, 1, ⟨1, 0, 1⟩, ⟨0, 0⟩⟩⟩
def w38eraM : DEra := ⟨3600, 1, 3600, ByteArray.empty, ⟨#[77, 83, 84]⟩, untN⟩
def twoS : DSource := ⟨[], [⟨zoA, [w38eraG, w38eraM]⟩], [], []⟩
def istP : DPosix := ⟨⟨#[73, 83, 84]⟩, 3600, ⟨#[71, 77, 84]⟩, 0, ⟨3, 0, 10, 5, 7200⟩, ⟨3, 0, 3, 3, 7200⟩⟩
def ist2P : DPosix := ⟨⟨#[73, 83, 84]⟩, 19800, ByteArray.empty, 0, dt0, dt0⟩
def mstP : DPosix := ⟨xxxB, 3600, ⟨#[77, 83, 84]⟩, 7200, ⟨2, 0, 0, 0, 0⟩, ⟨1, 365, 0, 0, 90000⟩⟩
theorem w38_d1 : dateD w38mar 3600 (-3600) = (⟨3, 0, 3, 3, 7200⟩, 0) := by decide +kernel
def w38std : DRule := { ruleF 10 ⟨1, 0, 31⟩ 7200 0 with at_ := ⟨7200, 1⟩ }
theorem w38_d2 : dateD w38std 0 3600 = (⟨1, 304, 0, 0, 10800⟩, 0) := by decide +kernel
theorem w38_f1 : dateD (ruleF 2 ⟨1, 0, 29⟩ 0 0) 0 0 = (dt0, 2) := by decide +kernel
theorem w38_f2 : dateD (ruleF 3 (sunD 9) 0 0) 0 0 = (dt0, 2) := by decide +kernel
theorem w38_f3 : dateD { w38mar with to := 2010 } 0 0 = (dt0, 2) := by decide +kernel
theorem eire_acc : accD eireS = none := by decide +kernel
theorem one_acc : accD oneS = none := by decide +kernel
theorem two_acc : accD twoS = none := by decide +kernel
theorem eire_of : twiceF w38era2 w38oct w38mar = istP := by decide +kernel
theorem one_of : alwaysF w38eraI 0 ByteArray.empty = ist2P := by decide +kernel
theorem two_of : alwaysF w38eraM 3600 ByteArray.empty = mstP := by decide +kernel
theorem eire_yr : yearD eireS [w38era1, w38era2] = 1973 := by decide +kernel
theorem one_yr : yearD oneS [w38eraI] = 1850 := by decide +kernel
theorem two_yr : yearD twoS [w38eraG, w38eraM] = 1951 := by decide +kernel
attribute [local irreducible] W RL Does thenQ blockQ retQ Calls Pu Stp RD Qy Ay DoesIn
structure FtE (e : DEra) : Prop where
 f : e.format.size ≤ 1000000000
 o : -1000000 ≤ e.off ∧ e.off ≤ 1000000
structure FtRu (r : DRule) : Prop where
 l : r.letter.size ≤ 1000000000
 v : -1000000 ≤ r.save ∧ r.save ≤ 1000000
theorem ftAbbr_spec (e : DEra) (r : DRule) (w : World) (hL : LibW w) (he : FtE e) (hr : FtRu r) :
  Does Tryz.prog 116 [.agg e.enc.toArray, .agg r.enc.toArray] w (fun v O => v = .string (abbrE e r.save r.letter) ∧ O = []) := by
 have h := fun w' (hw : Bel w.heap.size w w') => fabbr_spec e.format r.letter e.off r.save w' (hL.up hw) he.f hr.l (by have := he.o; unfold I64; omega) (by have := hr.v; unfold I64; omega)
 unfold xpV at h
 have h2 : ∀ w', Bel w.heap.size w w' → Does Tryz.prog 78 [.string e.format, .int .i64 e.off, .agg #[.int .i64 r.save, .string r.letter]] w' (fun v O => (∃ er, v = .tuple #[.string (abbrE e r.save r.letter), .int .i64 er]) ∧ O = []) := fun w' hw =>
  (h w' hw).mono fun v O hv => ⟨⟨_, hv.1⟩, hv.2⟩
 clear h
 generalize abbrE e r.save r.letter = res at *
 obtain ⟨nm, fr, to, mo, ⟨dk, dw, dd⟩, ⟨cs, cb⟩, sv, le⟩ := r
 obtain ⟨off, kd, esv, st, fm, ⟨ui, uy, um, ⟨ud1, ud2, ud3⟩, ⟨uc1, uc2⟩⟩⟩ := e
 show Does _ _ [.agg #[.int .i64 off, .int .i64 kd, .int .i64 esv, .string st, .string fm, .bool ui, .int .i64 uy, .int .i64 um, .int .i64 ud1, .int .i64 ud2, .int .i64 ud3, .int .i64 uc1, .int .i64 uc2], .agg #[.string nm, .int .i64 fr, .int .i64 to, .int .i64 mo, .int .i64 dk, .int .i64 dw, .int .i64 dd, .int .i64 cs, .int .i64 cb, .int .i64 sv, .string le]] w _
 refine Does_of_W Tryz.func116 rfl rfl rfl rfl ?_
 repeat (first | (refine js ?_; (first | (apply Stp_call (h := fun w' hw _ => h2 w' hw); rfl; rintro v O' ⟨⟨er, rfl⟩, rfl⟩) | (refine bx ?_; intro bk))) | refine walk ?_)
 exact rtA
theorem ftAlways_spec (e : DEra) (r : DRule) (w : World) (hL : LibW w) (he : FtE e) (hr : FtRu r) :
  Does Tryz.prog 59 [.agg e.enc.toArray, .agg r.enc.toArray] w (fun v O => v = .agg (alwaysF e r.save r.letter).enc.toArray ∧ O = []) := by
 have ha := fun w' (hw : Bel w.heap.size w w') => ftAbbr_spec e r w' (hL.up hw) he hr
 have ho := he.o
 have hv := hr.v
 unfold alwaysF
 generalize abbrE e r.save r.letter = res at *
 obtain ⟨nm, fr, to, mo, ⟨dk, dw, dd⟩, ⟨cs, cb⟩, sv, le⟩ := r
 obtain ⟨off, kd, esv, st, fm, ⟨ui, uy, um, ⟨ud1, ud2, ud3⟩, ⟨uc1, uc2⟩⟩⟩ := e
 dsimp only at ho hv ⊢
 show Does _ _ [.agg #[.int .i64 off, .int .i64 kd, .int .i64 esv, .string st, .string fm, .bool ui, .int .i64 uy, .int .i64 um, .int .i64 ud1, .int .i64 ud2, .int .i64 ud3, .int .i64 uc1, .int .i64 uc2], .agg #[.string nm, .int .i64 fr, .int .i64 to, .int .i64 mo, .int .i64 dk, .int .i64 dw, .int .i64 dd, .int .i64 cs, .int .i64 cb, .int .i64 sv, .string le]] w _
 refine Does_of_W Tryz.func59 rfl rfl rfl rfl ?_
 repeat (first | refine walk ?_ | (refine jn ?_; (try intro F); (first | (refine bx ?_; intro bk) | (refine stA ?_) | (apply Stp_pu; exact PuA)); refine fin ?_) | (apply RD_W; rfl; intro bk))
 refine W_cond rfl (fun hc => ?_) (fun hc => ?_)
 ·obtain rfl : sv = 0 := of_decide_eq_true hc
  rw [if_pos rfl]
  repeat (first | refine walk ?_ | (refine jg ?_; (try intro F); (first | (refine callE ha ?_) | (refine bx ?_; intro bk) | (refine stA ?_)); refine fin ?_) | (refine jn ?_; (try intro F); (first | (refine bx ?_; intro bk) | (refine stA ?_) | (apply Stp_pu; exact PuA)); refine fin ?_) | (apply RD_W; rfl; intro bk))
  exact ret_1 _ [] (.cellB rfl (by repeat' constructor) rfl rfl) .nil ⟨rfl, rfl⟩
 ·rw [if_neg (of_decide_eq_false hc)]
  repeat (first | refine walk ?_ | (refine jg ?_; (try intro F); (first | (refine callE ha ?_) | (refine bx ?_; intro bk) | (refine stA ?_)); refine fin ?_) | (refine jn ?_; (try intro F); (first | (refine bx ?_; intro bk) | (refine stA ?_) | (apply Stp_pu; exact PuA)); refine fin ?_) | (apply RD_W; rfl; intro bk))
  exact ret_1 _ [] (.cellB rfl (by repeat' constructor) rfl rfl) .nil ⟨rfl, rfl⟩
theorem ftTwice_spec (e : DEra) (r q : DRule) (w : World) (hL : LibW w) (hG : Glob w) (hF : FtG w) (he : FtE e) (hr : FtRu r) (hq : FtRu q) :
  Does Tryz.prog 60 [.agg e.enc.toArray, .agg r.enc.toArray, .agg q.enc.toArray] w (fun v O => v = .agg (twiceF e r q).enc.toArray ∧ O = []) := by
 have ha := fun w' (hw : Bel w.heap.size w w') => ftAbbr_spec e q w' (hL.up hw) he hq
 have hb := fun w' (hw : Bel w.heap.size w w') => ftAbbr_spec e r w' (hL.up hw) he hr
 have hc := fun w' (hw : Bel w.heap.size w w') => fdate_spec r e.off 0 w' (hG.up hw) (hF.up hw)
 have hd := fun w' (hw : Bel w.heap.size w w') => fdate_spec q e.off r.save w' (hG.up hw) (hF.up hw)
 have ho := he.o
 have hv := hr.v
 unfold twiceF
 unfold dErrV at hc hd
 generalize abbrE e q.save q.letter = res1 at *
 generalize abbrE e r.save r.letter = res2 at *
 generalize dateD r e.off 0 = x1 at *
 generalize dateD q e.off r.save = x2 at *
 obtain ⟨⟨x11, x12, x13, x14, x15⟩, x16⟩ := x1
 obtain ⟨⟨x21, x22, x23, x24, x25⟩, x26⟩ := x2
 obtain ⟨nm, fr, to, mo, ⟨dk, dw, dd⟩, ⟨cs, cb⟩, sv, le⟩ := r
 obtain ⟨nm2, fr2, to2, mo2, ⟨dk2, dw2, dd2⟩, ⟨cs2, cb2⟩, sv2, le2⟩ := q
 obtain ⟨off, kd, esv, st, fm, ⟨ui, uy, um, ⟨ud1, ud2, ud3⟩, ⟨uc1, uc2⟩⟩⟩ := e
 dsimp only [DDate.enc] at ho hv hc hd ⊢
 show Does _ _ [.agg #[.int .i64 off, .int .i64 kd, .int .i64 esv, .string st, .string fm, .bool ui, .int .i64 uy, .int .i64 um, .int .i64 ud1, .int .i64 ud2, .int .i64 ud3, .int .i64 uc1, .int .i64 uc2], .agg #[.string nm, .int .i64 fr, .int .i64 to, .int .i64 mo, .int .i64 dk, .int .i64 dw, .int .i64 dd, .int .i64 cs, .int .i64 cb, .int .i64 sv, .string le], .agg #[.string nm2, .int .i64 fr2, .int .i64 to2, .int .i64 mo2, .int .i64 dk2, .int .i64 dw2, .int .i64 dd2, .int .i64 cs2, .int .i64 cb2, .int .i64 sv2, .string le2]] w _
 refine Does_of_W Tryz.func60 rfl rfl rfl rfl ?_
 repeat (first | refine walk ?_ | (refine jg ?_; (try intro F); (first | (refine callE ha ?_) | (refine callE hb ?_) | (refine callE hc ?_) | (refine callE hd ?_) | (refine bx ?_; intro bk) | (refine stA ?_)); refine fin ?_) | (refine jn ?_; (try intro F); (first | (refine bx ?_; intro bk) | (refine stA ?_) | (apply Stp_pu; exact PuA)); refine fin ?_) | (apply RD_W; rfl; intro bk))
 exact ret_1 _ [] (.cellB rfl (by repeat' constructor) rfl rfl) .nil ⟨rfl, rfl⟩
theorem accTn (Ar Az Al As : Option Addr) (cr cz cl cs : Nat) (a : DSource) (w : World) (h : AccOk w Ar Az Al As cr cz cl cs a) (hf : accD a = none) :
  Does Tryz.prog 19 [srcV Ar Az Al As cr cz cl cs a] w (fun v O => v = .tuple #[.agg #[.int .i64 0, .int .i64 0, .int .i64 0], .int .i64 0] ∧ O = []) := by
 have := acc_spec Ar Az Al As cr cz cl cs a w h.L h.G h.A h.S h.V h.Z
 rwa [hf] at this
theorem PuFtF1 {G : Prop} (h : G := by (apply Pu_lssB; rfl; rfl; exact b1)) : G := h
theorem PuFtF2 {G : Prop} (h : G := by (first | exact PuFtF1 | (apply Pu_geqB; rfl; rfl; exact b2))) : G := h
def FindR (A : Option Addr) (n c : Nat) (R : List DRule) (v : Value) (O : List It) : Prop :=
 ∃ B d, v = .tuple #[.slice A n c, .slice B R.length d, .int .i64 0] ∧ O = [.row (.slice B R.length d) 27 11 R.length (R.flatMap DRule.enc)]
theorem PuFtF3 {G : Prop} (h : G := by (first | exact PuFtF2 | (apply Pu_indexAddr; rfl; rfl; omega; omega; first | exact hna | exact hna2) | (apply Pu_loadO1; rfl; exact hca 1 _ rfl) | (apply Pu_loadON; rfl; exact hca2; rfl) | (apply Pu_neqB'; rfl; rfl; exact b3))) : G := h
theorem find_ok (Ar Az Al As : Option Addr) (cr cz cl cs : Nat) (a : DSource) (k : Nat) (z : DZone) (A : Option Addr) (c : Nat) (w : World) (h : AccOk w Ar Az Al As cr cz cl cs a) (hf : accD a = none) (hk : a.zones[k]? = some z)
  (hna : Az ≠ none) (hca : CellsAt w ((adr Az).add (k * 2)) [.string z.name, .slice A z.eras.length c]) (hE : RdSl w A c DEra.enc 13 z.eras) (hne : z.eras ≠ []) :
  Does Tryz.prog 51 [srcV Ar Az Al As cr cz cl cs a, .int .i64 k] w (FindR A z.eras.length c (rulesE a z.eras)) := by
 have ha := fun w' (hw : Bel w.heap.size w w') => accTn Ar Az Al As cr cz cl cs a w' (h.up hw) hf
 have hl : 0 < z.eras.length := List.length_pos_iff.2 hne
 have hkl : k < a.zones.length := (List.getElem?_eq_some_iff.1 hk).1
 have hlz := h.A.zle
 have hlc := h.A.zcap
 have hel := hE.le
 have hec := hE.cap
 have hnr := h.S.nr
 obtain ⟨e, he⟩ : ∃ e, z.eras[z.eras.length - 1]? = some e := ⟨_, List.getElem?_eq_getElem (by omega)⟩
 have hle : lastE z.eras = e := by
  unfold lastE
  rw [List.getD_eq_getElem?_getD, he]; rfl
 have hof := fun w' (hw : Bel w.heap.size w w') => ofN_spec Ar Az Al As cr cz cl cs a e.set w' (h.A.up hw) hnr
 unfold rulesE
 rw [hle]
 obtain ⟨hna2, hca2⟩ := hE.rd _ _ he
 rw [show z.eras.length - 1 = ((z.eras.length : Int) - 1).toNat by omega] at hca2
 clear hle he
 have b1 : decide ((k : Int) < 0) = false := decide_eq_false (by omega)
 have b2 : decide ((a.zones.length : Int) ≤ (k : Int)) = false := decide_eq_false (by omega)
 simp only [maxLen] at hlc hec
 obtain ⟨off, kd, esv, st, fm, ⟨ui, uy, um, ⟨ud1, ud2, ud3⟩, ⟨uc1, uc2⟩⟩⟩ := e
 change CellsAt w _ [.int .i64 off, .int .i64 kd, .int .i64 esv, .string st, .string fm, .bool ui, .int .i64 uy, .int .i64 um, .int .i64 ud1, .int .i64 ud2, .int .i64 ud3, .int .i64 uc1, .int .i64 uc2] at hca2
 dsimp only at hof ⊢
 refine Does_of_W Tryz.func51 rfl rfl rfl rfl ?_
 by_cases hk2 : kd = 2
 ·have b3 : (!decide (kd = 2)) = false := by rw [decide_eq_true hk2]; rfl
  rw [if_pos hk2]
  repeat (first | (apply RL_pu; rfl; exact PuFtF3) | (refine js ?_; (first | (refine callE ha ?_) | (apply Stp_call (h := fun w' hw _ => hof w' hw); rfl; rintro v O' ⟨B, d, rfl, rfl⟩) | (refine bx ?_; intro bk))) | refine walk1 ?_)
  exact ret_3 _ _ _ [.row (.slice B (ofB a.rules st).length d) 27 11 (ofB a.rules st).length ((ofB a.rules st).flatMap DRule.enc)] (.tmp rfl) (.tmp rfl) (.tmp rfl) SOA ⟨B, d, rfl, rfl⟩
 ·have b3 : (!decide (kd = 2)) = true := by rw [decide_eq_false hk2]; rfl
  rw [if_neg hk2]
  refine W_nil 27 11 ?_
  repeat (first | (apply RL_pu; rfl; exact PuFtF3) | (refine js ?_; (first | (refine callE ha ?_) | (refine bx ?_; intro bk))) | refine walk1 ?_)
  exact ret_3 _ _ _ [.row (.slice none 0 0) 27 11 0 []] (.tmp rfl) (.tmp rfl) (.tmp rfl) SOA ⟨none, 0, rfl, rfl⟩
end Go.Proofs.YtonjepladadmhaaGreatDoor
namespace Go.Proofs.YtonjepladadmhaaGreatDoor
open Go Go.RowKit Go.Wk
attribute [local irreducible] W RL Does thenQ blockQ retQ Calls Pu Stp RD Qy Ay
end Go.Proofs.YtonjepladadmhaaGreatDoor
namespace Go.Proofs.YtonjepladadmhaaGreatDoor
open Go Go.RowKit Go.Wk
attribute [local irreducible] W RL Does thenQ blockQ retQ Calls Pu Stp RD Qy Ay DoesIn
end Go.Proofs.YtonjepladadmhaaGreatDoor
