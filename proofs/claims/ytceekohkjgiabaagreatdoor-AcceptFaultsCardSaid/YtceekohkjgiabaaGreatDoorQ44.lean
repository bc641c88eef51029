/- Contracts: the reference of layer 25: zones, Check, In, Forms (few's contract, layer 18's Check and Far handed in). Contracts: the reference of layer 25: In, Forms (few's contract handed in). -/
import Derived.Test.YtceekohkjgiabaaGreatDoorQ33
import Derived.Test.YtceekohkjgiabaaGreatDoorQ41
import Derived.Test.YtceekohkjgiabaaGreatDoorQ42
import Derived.Test.YtceekohkjgiabaaGreatDoorQ43
import Derived.Test.YtceekohkjgiabaaGreatDoorQ30
import Derived.Test.YtceekohkjgiabaaGreatDoorQ34
import Derived.Test.YtceekohkjgiabaaGreatDoorQ35
set_option maxHeartbeats 4000000
set_option linter.unusedVariables false
set_option linter.unusedSimpArgs false
namespace Go.Proofs.YtceekohkjgiabaaGreatDoor
open Go Go.RowKit Go.Wk
attribute [local irreducible] W RL Does thenQ blockQ retQ Calls Pu Stp RD Qy Ay DoesIn
def RfewS : Prop := ∀ (Ar Az Al As : Option Addr) (cr cz cl cs : Nat) (a : DSource) (z : DZone) (Ae : Option Addr) (ce : Nat) (w : World), RdSource w Ar Az Al As cr cz cl cs a → RdSl w Ae ce DEra.enc 13 z.eras → SrcOk a → SavOk a → z.eras.length ≤ 1000000 → (∀ e ∈ z.eras, EraOk e) → (∀ e ∈ z.eras, ∀ x ∈ statesOf a.rules e, hoursB e.off x.1 = true) →
  Does Tryz.prog 67 [srcV Ar Az Al As cr cz cl cs a, .agg #[.string z.name, .slice Ae z.eras.length ce]] w (fun v O => v = .bool (fewB25 a.rules z) ∧ O = [])
theorem endChk_nom {rs : List DRule} {l : List DEra} {j : Nat} (h : endChk rs l j = 0) (hj : j + 1 < l.length) : (nominalU (l.getD j dE0).til (leastD (setOf rs (l.getD j dE0)))).2 = 0 := by
 unfold endChk at h
 dsimp only at h
 by_cases h1 : (l.getD j dE0).til.is ≠ decide (j + 1 < l.length)
 ·rw [if_pos h1] at h; cases h
 rw [if_neg h1] at h
 have h2 : (l.getD j dE0).til.is = true := by rw [Decidable.not_not.1 h1, decide_eq_true hj]
 rw [if_neg (by rw [h2]; decide)] at h
 by_cases h3 : untilChk (l.getD j dE0).til (leastD (setOf rs (l.getD j dE0))) = 0
 ·exact nomU_0 h3
 ·rw [if_pos h3] at h; exact absurd h h3
theorem PuRfZ0 {G : Prop} (h : G := by (first | exact PuI | (apply Pu_eqlB; rfl; rfl; exact hb))) : G := h
theorem QyRfZ0 {G : Prop} (h : G := by first | (apply Qy_y; rfl; exact PuRfZ0) | exact QyA) : G := h
theorem QFRfZ0 {G : Prop} (h : G := by repeat (first | exact QF.nil | (apply QF.mk; rfl; rfl; decide +kernel; exact QyRfZ0))) : G := h
theorem PuRfZ1 {G : Prop} (h : G := by (first | exact PuI | (apply Pu_neqB'; rfl; rfl; exact hb2))) : G := h
theorem QyRfZ1 {G : Prop} (h : G := by first | (apply Qy_y; rfl; exact PuRfZ1) | exact QyA) : G := h
theorem QFRfZ1 {G : Prop} (h : G := by repeat (first | exact QF.nil | (apply QF.mk; rfl; rfl; decide +kernel; exact QyRfZ1))) : G := h
set_option maxHeartbeats 4000000 in
theorem rzones_spec (Ar Az Al As : Option Addr) (cr cz cl cs : Nat) (a : DSource) (w : World) (hF : FarS) (hW : RfewS) (hA : RdSource w Ar Az Al As cr cz cl cs a) (hS : SrcOk a) (hV : SavOk a) (hZ : ∀ z ∈ a.zones, ∀ e ∈ z.eras, EraOk e) :
  Does Tryz.prog 31 [srcV Ar Az Al As cr cz cl cs a] w (fun v O => v = ptV (zonesGo a.rules a.zones 0) ∧ O = []) := by
 have hnz := hS.nz
 obtain ⟨res, hres⟩ : ∃ res, zonesGo a.rules a.zones 0 = res := ⟨_, rfl⟩
 rw [hres]
 refine Does_of_W Tryz.func31 rfl rfl rfl rfl ?_
 repeat (first | refine walk ?_ | (refine jn ?_; (try intro F); (first | (refine bx ?_; intro bk) | (refine stA ?_) | (apply Stp_pu; exact PuA)); refine fin ?_) | (apply RD_W; rfl; intro bk))
 rename_i b1
 obtain ⟨b2, hb2⟩ : ∃ b2, bk = b2 := ⟨_, rfl⟩
 rw [hb2]
 clear hb2 bk
 refine W_loopF [(1, .pointer (some ⟨b1, 0, none⟩)), (2, .pointer (some ⟨b2, 0, none⟩))] [.blk b2 [.int .i64 0, .int .i64 0, .int .i64 0] 31, .blk b1 [.slice Ar a.rules.length cr, .slice Az a.zones.length cz, .slice Al a.links.length cl, .slice As a.shifts.length cs] 27]
  (fun k : Nat => [(4, .int .i64 k)]) (fun _ => []) (fun k => k ≤ a.zones.length ∧ zonesGo a.rules (a.zones.drop k) k = res) (fun k => a.zones.length - k) 0 SFA SOA ⟨Nat.zero_le _, hres⟩ ?_
 clear hres
 rintro i ⟨hil, hi⟩
 repeat (first | refine walk ?_ | (refine jn ?_; (try intro F); (first | (refine bx ?_; intro bk) | (refine stA ?_) | (apply Stp_pu; exact PuA)); refine fin ?_) | (apply RD_W; rfl; intro bk))
 refine W_cond rfl (fun hc => ?_) (fun hc => ?_)
 ·simp only [decide_eq_true_eq, Int.ofNat_lt] at hc
  obtain ⟨hna, cs1, ⟨Ae, ce, hEz, rfl⟩, hca⟩ := hA.z i _ (List.getElem?_eq_getElem hc)
  have hmem := List.getElem_mem hc
  rw [drop_cons hc, zonesGo] at hi
  generalize a.zones[i] = z at *
  have hel := (hS.zs z hmem).2.1
  by_cases hz0 : z.eras = []
  ·rw [if_pos hz0] at hi
   subst hi
   have hb : decide ((z.eras.length : Int) = 0) = true := by rw [hz0]; rfl
   simp only [ptV, plV, DPlace.enc]
   repeat (first | (apply RL_pu; rfl; exact PuRfZ0) | (apply RD_Q; rfl; rfl; decide +kernel; rfl; rfl; exact QyRfZ0) | refine walk1 ?_ | (refine jn ?_; (try intro F); (first | (refine bx ?_; intro bk) | (refine stA ?_) | (apply Stp_pu; first | exact PuRfZ0 | exact PuA)); first | refine ⟨_, EndsA, QFRfZ0, ?_⟩ | refine fin ?_) | (apply RD_W; rfl; intro bk))
   exact rtC
  have hb : decide ((z.eras.length : Int) = 0) = false := decide_eq_false (fun h => hz0 (List.eq_nil_of_length_eq_zero (by omega)))
  rw [if_neg hz0] at hi
  obtain ⟨r2, hr2⟩ : ∃ r2, erasGo a.rules z.eras i z.eras.length 0 = r2 := ⟨_, rfl⟩
  rw [hr2] at hi
  have hfw : r2 = none → ∀ w', Bel w.heap.size w w' → Does Tryz.prog 67 [srcV Ar Az Al As cr cz cl cs a, .agg #[.string z.name, .slice Ae z.eras.length ce]] w' (fun v O => v = .bool (fewB25 a.rules z) ∧ O = []) := fun hn w' hw =>
   hW Ar Az Al As cr cz cl cs a z Ae ce w' (hA.up hw) (hEz.up hw) hS hV hel (fun e he => hZ z hmem e he) (eras_hours (hr2.trans hn))
  generalize fewB25 a.rules z = fw at *
  repeat (first | (apply RL_pu; rfl; exact PuRfZ0) | (apply RD_Q; rfl; rfl; decide +kernel; rfl; rfl; exact QyRfZ0) | refine walk1 ?_ | (refine jn ?_; (try intro F); (first | (refine bx ?_; intro bk) | (refine stA ?_) | (apply Stp_pu; first | exact PuRfZ0 | exact PuA)); first | refine ⟨_, EndsA, QFRfZ0, ?_⟩ | refine fin ?_) | (apply RD_W; rfl; intro bk))
  obtain ⟨b5, hb5⟩ : ∃ b5, bk = b5 := ⟨_, rfl⟩
  rw [hb5]
  clear hb5 bk
  refine W_loopF [(1, .pointer (some ⟨b1, 0, none⟩)), (2, .pointer (some ⟨b2, 0, none⟩)), (4, .int .i64 i), (5, .pointer (some ⟨b5, 0, none⟩))] [.blk b5 [.string z.name, .slice Ae z.eras.length ce] 51, .blk b2 [.int .i64 0, .int .i64 0, .int .i64 0] 31, .blk b1 [.slice Ar a.rules.length cr, .slice Az a.zones.length cz, .slice Al a.links.length cl, .slice As a.shifts.length cs] 27]
   (fun k : Nat => [(6, .int .i64 k)]) (fun _ => []) (fun k => k ≤ z.eras.length ∧ erasGo a.rules z.eras i (z.eras.length - k) k = r2 ∧ ∀ j, k = j + 1 → endChk a.rules z.eras j = 0) (fun k => z.eras.length - k) 0 SFA SOA ⟨Nat.zero_le _, hr2, fun j h => by omega⟩ ?_
  clear hr2
  rintro k ⟨hkl, hi2, hpr⟩
  repeat (first | refine walk ?_ | (refine jn ?_; (try intro F); (first | (refine bx ?_; intro bk) | (refine stA ?_) | (apply Stp_pu; exact PuA)); refine fin ?_) | (apply RD_W; rfl; intro bk))
  refine W_cond rfl (fun hc2 => ?_) (fun hc2 => ?_)
  ·simp only [decide_eq_true_eq, Int.ofNat_lt] at hc2
   clear hna hca
   obtain ⟨hna, hca⟩ := hEz.rd k _ (List.getElem?_eq_getElem hc2)
   have hem := List.getElem_mem hc2
   have hgd : z.eras.getD k dE0 = z.eras[k] := by rw [List.getD_eq_getElem?_getD, List.getElem?_eq_getElem hc2]; rfl
   obtain ⟨f, hf⟩ : ∃ f, z.eras.length - k = f + 1 := ⟨z.eras.length - k - 1, by omega⟩
   rw [hf, erasGo, hgd] at hi2
   generalize z.eras[k] = e at *
   have her := fun w' (hw : Bel w.heap.size w w') => rkind25_spec Ar Az Al As cr cz cl cs a e k w' (hA.up hw) hS hV (hZ z hmem e hem)
   have hen := fun w' (hw : Bel w.heap.size w w') => rend25_spec Ar Az Al As cr cz cl cs a Ae ce z.eras k w' hF (hA.up hw) hS (hEz.up hw) hel hc2 (fun j hj => endChk_nom (hpr j hj) (by omega))
   generalize eraChk a.rules e (decide (k = 0)) = ec at *
   generalize hNC : endChk a.rules z.eras k = nc at *
   obtain ⟨off, kind, save, set, format, ⟨is, year, month, ⟨dk, dw, dd⟩, ⟨us, ub⟩⟩⟩ := e
   simp only [DEra.enc] at her hca
   by_cases h1 : ec = 0
   ·rw [if_neg (fun h => h h1)] at hi2
    subst h1
    by_cases h2 : nc = 0
    ·rw [if_neg (fun h => h h2)] at hi2
     subst h2
     repeat (first | (apply RL_pu; rfl; exact PuI) | (apply RD_Q; rfl; rfl; decide +kernel; rfl; rfl; exact QyI) | refine walk1 ?_ | (refine jg ?_; (try intro F); (first | (refine callE her ?_) | (refine callE hen ?_) | (refine bx ?_; intro bk) | (refine stA ?_)); first | refine ⟨_, EndsA, QFI, ?_⟩ | refine fin ?_) | (refine jn ?_; (try intro F); (first | (refine bx ?_; intro bk) | (refine stA ?_) | (apply Stp_pu; first | exact PuI | exact PuA)); first | refine ⟨_, EndsA, QFI, ?_⟩ | refine fin ?_) | (apply RD_W; rfl; intro bk))
     exact ⟨k + 1, OA, ⟨OA, by rw [show z.eras.length - (k + 1) = f by omega]; exact hi2, fun j hj => by rw [show j = k by omega]; exact hNC⟩, SFA, SOA⟩
    ·rw [if_pos h2] at hi2
     subst hi2
     dsimp only at hi
     subst hi
     have hb2 : (!decide (nc = 0)) = true := by rw [decide_eq_false h2]; rfl
     simp only [ptV, plV, DPlace.enc]
     repeat (first | (apply RL_pu; rfl; exact PuRfZ1) | (apply RD_Q; rfl; rfl; decide +kernel; rfl; rfl; exact QyRfZ1) | refine walk1 ?_ | (refine jg ?_; (try intro F); (first | (refine callE her ?_) | (refine callE hen ?_) | (refine bx ?_; intro bk) | (refine stA ?_)); first | refine ⟨_, EndsA, QFRfZ1, ?_⟩ | refine fin ?_) | (refine jn ?_; (try intro F); (first | (refine bx ?_; intro bk) | (refine stA ?_) | (apply Stp_pu; first | exact PuRfZ1 | exact PuA)); first | refine ⟨_, EndsA, QFRfZ1, ?_⟩ | refine fin ?_) | (apply RD_W; rfl; intro bk))
     exact rtC
   ·rw [if_pos h1] at hi2
    subst hi2
    dsimp only at hi
    subst hi
    have hb2 : (!decide (ec = 0)) = true := by rw [decide_eq_false h1]; rfl
    simp only [ptV, plV, DPlace.enc]
    repeat (first | (apply RL_pu; rfl; exact PuRfZ1) | (apply RD_Q; rfl; rfl; decide +kernel; rfl; rfl; exact QyRfZ1) | refine walk1 ?_ | (refine jg ?_; (try intro F); (first | (refine callE her ?_) | (refine bx ?_; intro bk) | (refine stA ?_)); first | refine ⟨_, EndsA, QFRfZ1, ?_⟩ | refine fin ?_) | (refine jn ?_; (try intro F); (first | (refine bx ?_; intro bk) | (refine stA ?_) | (apply Stp_pu; first | exact PuRfZ1 | exact PuA)); first | refine ⟨_, EndsA, QFRfZ1, ?_⟩ | refine fin ?_) | (apply RD_W; rfl; intro bk))
    exact rtC
  ·simp only [decide_eq_false_iff_not, Int.ofNat_lt] at hc2
   rw [show z.eras.length - k = 0 by omega, erasGo] at hi2
   subst hi2
   replace hfw := hfw rfl
   dsimp only at hi
   cases fw with
   | false =>
    rw [if_pos rfl] at hi
    subst hi
    simp only [ptV, plV, DPlace.enc]
    repeat (first | refine walk ?_ | (refine jg ?_; (try intro F); (first | (refine callE hfw ?_) | (refine bx ?_; intro bk) | (refine stA ?_)); refine fin ?_) | (refine jn ?_; (try intro F); (first | (refine bx ?_; intro bk) | (refine stA ?_) | (apply Stp_pu; exact PuA)); refine fin ?_) | (apply RD_W; rfl; intro bk))
    exact rtC
   | true =>
    rw [if_neg (by decide)] at hi
    repeat (first | refine walk ?_ | (refine jg ?_; (try intro F); (first | (refine callE hfw ?_) | (refine bx ?_; intro bk) | (refine stA ?_)); refine fin ?_) | (refine jn ?_; (try intro F); (first | (refine bx ?_; intro bk) | (refine stA ?_) | (apply Stp_pu; exact PuA)); refine fin ?_) | (apply RD_W; rfl; intro bk))
    exact ⟨i + 1, OA, ⟨OA, hi⟩, SFA, SOA⟩
 ·simp only [decide_eq_false_iff_not, Int.ofNat_lt] at hc
  rw [List.drop_eq_nil_of_le (by omega), zonesGo] at hi
  subst hi
  simp only [ptV, plV, DPlace.enc]
  repeat (first | refine walk ?_ | (refine jn ?_; (try intro F); (first | (refine bx ?_; intro bk) | (refine stA ?_) | (apply Stp_pu; exact PuA)); refine fin ?_) | (apply RD_W; rfl; intro bk))
  exact rtC
theorem PuRfZ2 {G : Prop} (h : G := by (apply Pu_neqB'; rfl; rfl; exact hb)) : G := h
set_option maxHeartbeats 4000000 in
theorem rchk25_spec (Ar Az Al As : Option Addr) (cr cz cl cs : Nat) (a : DSource) (w : World) (hP : RapS) (hF : FarS) (hW : RfewS) (hA : RdSource w Ar Az Al As cr cz cl cs a) (hS : SrcOk a) (hV : SavI a) (hZ : ∀ z ∈ a.zones, ∀ e ∈ z.eras, EraOk e) :
  Does Tryz.prog 7 [srcV Ar Az Al As cr cz cl cs a] w (fun v O => v = ptV (accD a) ∧ O = []) := by
 have h1 := fun w' (hw : Bel w.heap.size w w') => rsizes_spec Ar Az Al As cr cz cl cs a w' (hA.up hw) hS
 have h2 := fun w' (hw : Bel w.heap.size w w') => rsets_spec Ar Az Al As cr cz cl cs a w' hP (hA.up hw) hS hV
 have h3 := fun w' (hw : Bel w.heap.size w w') => rshifts_spec Ar Az Al As cr cz cl cs a w' (hA.up hw) hS
 have h4 := fun w' (hw : Bel w.heap.size w w') => r15chk_spec Ar Az Al As cr cz cl cs a w' (hA.up hw) hS
 have h5 : setsD a = none → ∀ w', Bel w.heap.size w w' → Does Tryz.prog 31 [srcV Ar Az Al As cr cz cl cs a] w' (fun v O => v = ptV (zonesGo a.rules a.zones 0) ∧ O = []) := fun hs w' hw => rzones_spec Ar Az Al As cr cz cl cs a w' hF hW (hA.up hw) hS (setsD_sav hs) hZ
 have n1 := fun {p e} => @sizesD_ne a p e
 have n2 : ∀ {p e}, setsD a = some (p, e) → e ≠ 0 := fun h => setsGo_ne a.rules _ h
 have n3 : ∀ {p e}, shiftsGo a a.shifts [] 0 = some (p, e) → e ≠ 0 := fun h => shiftsGo_ne a _ _ _ h
 have n4 := fun {p e} => @linksD_ne a p e
 unfold accD
 generalize sizesD a = o1 at *
 generalize setsD a = o2 at *
 generalize shiftsGo a a.shifts [] 0 = o3 at *
 generalize linksD a = o4 at *
 generalize zonesGo a.rules a.zones 0 = o5 at *
 refine Does_of_W Tryz.func7 rfl rfl rfl rfl ?_
 cases o1 with
 | some x =>
  obtain ⟨⟨p1, p2, p3⟩, e⟩ := x
  have hb : (!decide (e = 0)) = true := by rw [decide_eq_false (n1 rfl)]; rfl
  simp only [Option.some_or, ptV, plV, DPlace.enc] at h1 ⊢
  repeat (first | (apply RL_pu; rfl; exact PuRfZ2) | (refine js ?_; (first | (refine callE h1 ?_) | (refine bx ?_; intro bk))) | refine walk1 ?_)
  exact rtC
 | none =>
 simp only [ptV, plV, DPlace.enc] at h1
 rw [Option.none_or]
 cases o2 with
 | some x =>
  obtain ⟨⟨p1, p2, p3⟩, e⟩ := x
  have hb : (!decide (e = 0)) = true := by rw [decide_eq_false (n2 rfl)]; rfl
  simp only [Option.some_or, ptV, plV, DPlace.enc] at h2 ⊢
  repeat (first | (apply RL_pu; rfl; exact PuRfZ2) | (refine js ?_; (first | (refine callE h1 ?_) | (refine callE h2 ?_) | (refine bx ?_; intro bk))) | refine walk1 ?_)
  exact rtC
 | none =>
 replace h5 := h5 rfl
 simp only [ptV, plV, DPlace.enc] at h2
 rw [Option.none_or]
 cases o3 with
 | some x =>
  obtain ⟨⟨p1, p2, p3⟩, e⟩ := x
  have hb : (!decide (e = 0)) = true := by rw [decide_eq_false (n3 rfl)]; rfl
  simp only [Option.some_or, ptV, plV, DPlace.enc] at h3 ⊢
  repeat (first | (apply RL_pu; rfl; exact PuRfZ2) | (refine js ?_; (first | (refine callE h1 ?_) | (refine callE h2 ?_) | (refine callE h3 ?_) | (refine bx ?_; intro bk))) | refine walk1 ?_)
  exact rtC
 | none =>
 simp only [ptV, plV, DPlace.enc] at h3
 rw [Option.none_or]
 cases o4 with
 | some x =>
  obtain ⟨⟨p1, p2, p3⟩, e⟩ := x
  have hb : (!decide (e = 0)) = true := by rw [decide_eq_false (n4 rfl)]; rfl
  simp only [Option.some_or, ptV, plV, DPlace.enc] at h4 ⊢
  repeat (first | (apply RL_pu; rfl; exact PuRfZ2) | (refine js ?_; (first | (refine callE h1 ?_) | (refine callE h2 ?_) | (refine callE h3 ?_) | (refine callE h4 ?_) | (refine bx ?_; intro bk))) | refine walk1 ?_)
  exact rtC
 | none =>
 simp only [ptV, plV, DPlace.enc] at h4
 rw [Option.none_or]
 rw [ptV_eq] at h5 ⊢
 generalize ptP o5 = y at *
 obtain ⟨⟨p1, p2, p3⟩, e⟩ := y
 simp only [plV, DPlace.enc] at h5 ⊢
 repeat (first | (refine js ?_; (first | (refine callE h1 ?_) | (refine callE h2 ?_) | (refine callE h3 ?_) | (refine callE h4 ?_) | (refine callE h5 ?_) | (refine bx ?_; intro bk))) | refine walk ?_)
 exact rtC
theorem raccS (hW : RfewS) {w : World} {Ar Az Al As : Option Addr} {cr cz cl cs : Nat} {a : DSource} (h : AccOk w Ar Az Al As cr cz cl cs a) : Does Tryz.prog 7 [srcV Ar Az Al As cr cz cl cs a] w (fun v O => v = ptV (accD a) ∧ O = []) :=
 rchk25_spec Ar Az Al As cr cz cl cs a w rapS farS hW h.A h.S h.V h.Z
theorem rvarS {w : World} {Ar Az Al As : Option Addr} {cr cz cl cs : Nat} {a : DSource} (h : AccOk w Ar Az Al As cr cz cl cs a) (f : Int) : Does Tryz.prog 33 [srcV Ar Az Al As cr cz cl cs a, .int .i64 f] w (fun v O => v = ptV (varFault f a) ∧ O = []) :=
 rvar_spec Ar Az Al As cr cz cl cs a f w h.A h.S fun z hz e he => (h.Z z hz e he).fmt
theorem PuRgD1 {G : Prop} (h : G := by (apply Pu_lssB; rfl; rfl; exact b1)) : G := h
theorem PuRgD2 {G : Prop} (h : G := by (first | exact PuRgD1 | (apply Pu_gtrB; rfl; rfl; exact b2))) : G := h
theorem rIn25_spec (hW : RfewS) (Ar Az Al As : Option Addr) (cr cz cl cs : Nat) (a : DSource) (f : Int) (w : World) (h : AccOk w Ar Az Al As cr cz cl cs a) :
  Does Tryz.prog 9 [srcV Ar Az Al As cr cz cl cs a, .int .i64 f] w (fun v O => v = ptV (inD a f) ∧ O = []) := by
 have hac := fun w' (hw : Bel w.heap.size w w') => raccS hW (h.up hw)
 have hva := fun w' (hw : Bel w.heap.size w w') => rvarS (h.up hw) f
 have hne := fun {p e} => @accD_ne a p e
 have hvb : (f < 1 ∨ 3 < f) → varFault f a = some (⟨0, 0, 0⟩, 2) := fun hb => by unfold varFault; rw [if_pos hb]
 unfold inD
 generalize accD a = o1 at *
 generalize varFault f a = o2 at *
 refine Does_of_W Tryz.func9 rfl rfl rfl rfl ?_
 cases o1 with
 | some x =>
  obtain ⟨⟨p1, p2, p3⟩, e⟩ := x
  have hb : (!decide (e = 0)) = true := by rw [decide_eq_false (hne rfl)]; rfl
  simp only [Option.some_or, ptV, plV, DPlace.enc] at hac ⊢
  repeat (first | (apply RL_pu; rfl; (apply Pu_neqB'; rfl; rfl; exact hb)) | (refine js ?_; (first | (refine callE hac ?_) | (refine bx ?_; intro bk))) | refine walk1 ?_)
  exact rtC
 | none =>
  rw [Option.none_or]
  by_cases h1 : f < 1
  ·have b1 : decide (f < 1) = true := decide_eq_true h1
   rw [hvb (.inl h1)]
   simp only [ptV, plV, DPlace.enc] at hac ⊢
   repeat (first | refine und ?_ | (apply RL_pu; rfl; exact PuRgD1) | (refine js ?_; (first | (refine callE hac ?_) | (refine bx ?_; intro bk))) | refine walk1 ?_)
   exact rtC
  have b1 : decide (f < 1) = false := decide_eq_false h1
  by_cases h2 : 3 < f
  ·have b2 : decide (3 < f) = true := decide_eq_true h2
   rw [hvb (.inr h2)]
   simp only [ptV, plV, DPlace.enc] at hac ⊢
   repeat (first | refine und ?_ | (apply RL_pu; rfl; exact PuRgD2) | (refine js ?_; (first | (refine callE hac ?_) | (refine bx ?_; intro bk))) | refine walk1 ?_)
   exact rtC
  have b2 : decide (3 < f) = false := decide_eq_false h2
  cases o2 with
  | none =>
   simp only [ptV, plV, DPlace.enc] at hac hva ⊢
   repeat (first | refine und ?_ | (apply RL_pu; rfl; exact PuRgD2) | (refine js ?_; (first | (refine callE hac ?_) | (refine callE hva ?_) | (refine bx ?_; intro bk))) | refine walk1 ?_)
   exact rtC
  | some x =>
   obtain ⟨⟨p1, p2, p3⟩, e⟩ := x
   simp only [ptV, plV, DPlace.enc] at hac hva ⊢
   repeat (first | refine und ?_ | (apply RL_pu; rfl; exact PuRgD2) | (refine js ?_; (first | (refine callE hac ?_) | (refine callE hva ?_) | (refine bx ?_; intro bk))) | refine walk1 ?_)
   exact rtC
theorem inD_ne {a : DSource} {f : Int} {p : DPlace} {e : Int} (h : inD a f = some (p, e)) : e ≠ 0 := by
 unfold inD at h
 cases h1 : accD a with
 | some x => rw [h1] at h; simp only [Option.some_or, Option.some.injEq] at h; subst h; exact accD_ne h1
 | none => rw [h1, Option.none_or] at h; exact varFault_ne h
def okJ (a : DSource) (f : Int) : Bool := (inD a f).isNone
theorem formsD_okJ (a : DSource) : ([1, 2, 3] : List Int).filter (okJ a) = formsD a := by
 unfold formsD okJ inD
 cases accD a with
 | none => simp
 | some x => simp
theorem PuRgD3 {G : Prop} (h : G := by (apply Pu_leqB; rfl; rfl; exact b3)) : G := h
theorem rforms25_spec (hW : RfewS) (Ar Az Al As : Option Addr) (cr cz cl cs : Nat) (a : DSource) (w : World) (h : AccOk w Ar Az Al As cr cz cl cs a) :
  Does Tryz.prog 12 [srcV Ar Az Al As cr cz cl cs a] w (NewSl 3 1 iEnc (formsD a)) := by
 have hvf := fun f w' (hw : Bel w.heap.size w w') => rIn25_spec hW Ar Az Al As cr cz cl cs a f w' (h.up hw)
 rw [← formsD_okJ]
 refine Does_of_W Tryz.func12 rfl rfl rfl rfl ?_
 repeat (first | (refine js ?_; (refine bx ?_; intro bk)) | refine walk ?_)
 obtain ⟨b1, hb1⟩ : ∃ b1, bk = b1 := ⟨_, rfl⟩
 rw [hb1]
 clear hb1 bk
 refine W_nil 3 1 ?_
 refine W_loopF [(1, .pointer (some ⟨b1, 0, none⟩))] [.blk b1 [.slice Ar a.rules.length cr, .slice Az a.zones.length cz, .slice Al a.links.length cl, .slice As a.shifts.length cs] 27] (fun g : FoG => [(3, .slice g.A g.m g.c), (4, .int .i64 ((g.k : Int) + 1))]) (fun g => [.row (.slice g.A g.m g.c) 3 1 g.m g.ys])
  (fun g => g.k ≤ 3 ∧ g.m ≤ g.k ∧ g.m = g.acc.length ∧ g.ys = g.acc.flatMap iEnc ∧ g.acc = (([1, 2, 3] : List Int).take g.k).filter (okJ a)) (fun g => 3 - g.k) ⟨0, none, 0, 0, [], []⟩ SFA SOA ⟨Nat.zero_le _, Nat.le_refl _, rfl, rfl, rfl⟩ ?_
 rintro ⟨k, A1, c1, m, ys, acc⟩ ⟨hk, hmk, hm, hy, hi⟩
 dsimp only at hk hmk hm hy hi ⊢
 by_cases hk3 : k < 3
 ·have b3 : decide ((k : Int) + 1 ≤ 3) = true := decide_eq_true (by omega)
  have hg := f123 hk3
  have hva := hvf ((k : Int) + 1)
  have htk : (([1, 2, 3] : List Int).take (k + 1)).filter (okJ a) = acc ++ (if okJ a ((k : Int) + 1) then [(k : Int) + 1] else []) := by
   rw [List.take_add_one, hg, List.filter_append, ← hi]
   congr 1
   simp only [Option.toList, List.filter_cons, List.filter_nil]
  rw [show okJ a ((k : Int) + 1) = (inD a ((k : Int) + 1)).isNone from rfl] at htk
  cases hv : inD a ((k : Int) + 1) with
  | none =>
   rw [hv] at hva htk
   simp only [ptV, plV, DPlace.enc] at hva
   repeat (first | (apply RL_pu; rfl; exact PuRgD3) | (refine js ?_; (first | (refine callE hva ?_) | (apply Stp_append; rfl; rfl; (intro A' c'; (focus repeat' constructor)); (intro w' _ hO; exact blkRaw (hO.of (by repeat' constructor))); rfl; rfl; (simp only [maxLen]; omega); omega; intro A' c' hc1 hc2 hc3) | (refine bx ?_; intro bk))) | refine walk1 ?_)
   refine ⟨⟨k + 1, A', c', m + 1, ys ++ [.int .i64 ((k : Int) + 1)], acc ++ [(k : Int) + 1]⟩, OA, ⟨OA, OA, by simp [hm], by rw [hy]; simp [iEnc], by dsimp only; rw [htk]; simp⟩, ?_, SOA⟩
   exact SFA
  | some x =>
   obtain ⟨⟨p1, p2, p3⟩, e⟩ := x
   have be : decide (e = 0) = false := decide_eq_false (inD_ne hv)
   rw [hv] at hva htk
   simp only [ptV, plV, DPlace.enc] at hva
   repeat (first | (apply RL_pu; rfl; (first | exact PuRgD3 | (apply Pu_eqlB; rfl; rfl; exact be))) | (refine js ?_; (first | (refine callE hva ?_) | (refine bx ?_; intro bk))) | refine walk1 ?_)
   refine ⟨⟨k + 1, A1, c1, m, ys, acc⟩, OA, ⟨OA, OA, hm, hy, by dsimp only; rw [htk]; simp⟩, ?_, SOA⟩
   exact SFA
 ·obtain rfl : k = 3 := by omega
  have b3 : decide (((3 : Nat) : Int) + 1 ≤ 3) = false := by decide
  subst hm hy
  repeat (first | (apply RL_pu; rfl; exact PuRgD3) | (refine js ?_; (refine bx ?_; intro bk)) | refine walk1 ?_)
  exact ret_1 _ [.row (.slice A1 acc.length c1) 3 1 acc.length (acc.flatMap iEnc)] (.tmp rfl) SOA (by rw [show ([1, 2, 3] : List Int).filter (okJ a) = acc from hi.symm]; exact ⟨A1, c1, rfl, rfl⟩)
end Go.Proofs.YtceekohkjgiabaaGreatDoor
