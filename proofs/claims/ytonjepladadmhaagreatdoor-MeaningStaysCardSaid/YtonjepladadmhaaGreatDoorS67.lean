/- Contract: analemmalaw26.MeaningStays. -/
import Derived.Test.YtonjepladadmhaaGreatDoorS40
import Derived.Test.YtonjepladadmhaaGreatDoorS48
set_option maxHeartbeats 4000000
set_option linter.unusedVariables false
set_option linter.unusedSimpArgs false
namespace Go.Wk
open Go Go.RowKit
structure StyG where
 i : Nat
 e : DEvent
end Go.Wk
namespace Go.Proofs.YtonjepladadmhaaGreatDoor
open Go Go.RowKit Go.Wk
attribute [local irreducible] W RL Does thenQ blockQ retQ Calls Pu Stp RD Qy Ay DoesIn made23
theorem DrSet.evR {l : List DRule} (h : DrSet l) {v : DEvent} (hv : EvOf l v) : 0 ≤ v.rule ∧ v.rule < l.length := by
 obtain ⟨j, r, y, h1, h2⟩ := hv
 obtain ⟨_, e2, _⟩ := (h.rule r (List.mem_of_getElem? h1)).ev h.least h2
 have := (List.getElem?_eq_some_iff.1 h1).1
 omega
theorem PuMeY0 {G : Prop} (h : G := by (first | (apply Pu_indexAddrH; rfl; rfl; omega; omega; (intro w' _ hO; exact row_some (hO.of (A := rowZ Z1 z1 Zs1) (by repeat' constructor)) (by omega))) | (apply Pu_loadRN (vs := [.string q.z.name, .slice q.A q.z.eras.length q.c]); rfl; (focus repeat' constructor); exact hzN; rfl) | (apply Pu_neqB'; rfl; rfl; first | exact e3 | exact c1) | (apply Pu_lssB; rfl; rfl; exact c2) | (apply Pu_gtrB; rfl; rfl; exact c3) | (apply Pu_geqB; rfl; rfl; exact c4) | (apply Pu_eqEB (i := (⟨a1, a2, a3⟩ : DLocal)) (j := ⟨b1, b2, b3⟩) (enc := DLocal.enc); rfl; rfl; exact n0))) : G := h
theorem QyMeY0 {G : Prop} (h : G := by first | (apply Qy_y; rfl; exact PuMeY0) | exact QyA) : G := h
theorem QFMeY0 {G : Prop} (h : G := by repeat (first | exact QF.nil | (apply QF.mk; rfl; rfl; decide +kernel; exact QyMeY0))) : G := h
theorem wkMeY0 {G G' : Prop} (k : G') (h : Hold G' → G := by intro k9; (first | refine und ?_ | (apply RL_pu; rfl; exact PuMeY0) | (apply RD_Q; rfl; rfl; decide +kernel; rfl; rfl; exact QyMeY0) | refine walk1 ?_ | (refine jg ?_; (try intro F); (first | (refine callE (fun w' _ => hpz w') ?_) | (refine callO (fun w' hw hO => ka w' hw (src_rd hZ1 (hO.of (A := rowR R1 r1 _) (by repeat' constructor)) (hO.of (A := rowZ Z1 z1 _) (by repeat' constructor)) (hO.of (A := rowL L1 l1 _) (by repeat' constructor)) (hO.of (A := rowS H1 h1 _) (by repeat' constructor)) (hO.of (A := .fact S1 (ErasAt Zs1)) (by repeat' constructor)))) ?_) | (refine callO (fun w' hw hO => kb w' hw (src_rd hZ1 (hO.of (A := rowR R1 r1 _) (by repeat' constructor)) (hO.of (A := rowZ Z1 z1 _) (by repeat' constructor)) (hO.of (A := rowL L1 l1 _) (by repeat' constructor)) (hO.of (A := rowS H1 h1 _) (by repeat' constructor)) (hO.of (A := .fact S1 (ErasAt Zs1)) (by repeat' constructor)))) ?_) | (refine callO (fun w' hw hO => ke w' hw (src_rd hZ1 (hO.of (A := rowR R1 r1 _) (by repeat' constructor)) (hO.of (A := rowZ Z1 z1 _) (by repeat' constructor)) (hO.of (A := rowL L1 l1 _) (by repeat' constructor)) (hO.of (A := rowS H1 h1 _) (by repeat' constructor)) (hO.of (A := .fact S1 (ErasAt Zs1)) (by repeat' constructor)))) ?_) | (refine callO (fun w' hw hO => kf w' hw (src_rd hZ1 (hO.of (A := rowR R1 r1 _) (by repeat' constructor)) (hO.of (A := rowZ Z1 z1 _) (by repeat' constructor)) (hO.of (A := rowL L1 l1 _) (by repeat' constructor)) (hO.of (A := rowS H1 h1 _) (by repeat' constructor)) (hO.of (A := .fact S1 (ErasAt Zs1)) (by repeat' constructor)))) ?_) | (refine callE hwk ?_) | (refine stA ?_)); first | refine ⟨_, EndsA, QFMeY0, ?_⟩ | refine fin ?_) | (refine jn ?_; (try intro F); (first | (refine stA ?_) | (apply Stp_pu; first | exact PuMeY0 | exact PuA)); first | refine ⟨_, EndsA, QFMeY0, ?_⟩ | refine fin ?_)); exact k9.out) : G := h ⟨k⟩
theorem PuMeY1 {G : Prop} (h : G := by (first | (apply Pu_indexAddrH; rfl; rfl; omega; omega; (intro w' _ hO; exact row_some (hO.of (A := rowZ Z1 z1 Zs1) (by repeat' constructor)) (by omega))) | (apply Pu_loadRN (vs := [.string q.z.name, .slice q.A q.z.eras.length q.c]); rfl; (focus repeat' constructor); exact hzN; rfl))) : G := h
theorem QyMeY1 {G : Prop} (h : G := by first | (apply Qy_y; rfl; exact PuMeY1) | exact QyA) : G := h
theorem QFMeY1 {G : Prop} (h : G := by repeat (first | exact QF.nil | (apply QF.mk; rfl; rfl; decide +kernel; exact QyMeY1))) : G := h
theorem PuMeY2 {G : Prop} (h : G := by (first | (apply Pu_indexAddrH; rfl; rfl; omega; omega; (intro w' _ hO; exact row_some (hO.of (A := rowZ Z1 z1 Zs1) (by repeat' constructor)) (by omega))) | (apply Pu_neqB'; rfl; rfl; first | exact e3 | exact c1) | (apply Pu_lssB; rfl; rfl; exact c2) | (apply Pu_gtrB; rfl; rfl; exact c3) | (apply Pu_geqB; rfl; rfl; exact c4) | (apply Pu_eqEB (i := (⟨a1, a2, a3⟩ : DLocal)) (j := ⟨b1, b2, b3⟩) (enc := DLocal.enc); rfl; rfl; exact n0) | (apply Pu_indexAddrH; rfl; rfl; omega; omega; (intro w' _ hO; exact (((fact_at (S := S1) (p := ErasAt Zs1) (hO.of (by repeat' constructor))) q hm1).rd k _ hek).1)) | (apply Pu_load1; rfl; (intro w' _ hO; exact (((fact_at (S := S1) (p := ErasAt Zs1) (hO.of (by repeat' constructor))) q hm1).rd k _ hek).2 3 (.string e.set) rfl)) | (apply Pu_load1; rfl; (intro w' _ hO; exact (((fact_at (S := S1) (p := ErasAt Zs1) (hO.of (by repeat' constructor))) q hm1).rd k _ hek).2 0 (.int .i64 e.off) rfl)) | (apply Pu_load1; rfl; (intro w' _ hO; exact (((fact_at (S := S1) (p := ErasAt Zs1) (hO.of (by repeat' constructor))) q hm1).rd k _ hek).2 1 (.int .i64 e.kind) rfl)))) : G := h
theorem QyMeY2 {G : Prop} (h : G := by first | (apply Qy_y; rfl; exact PuMeY2) | exact QyA) : G := h
theorem QFMeY2 {G : Prop} (h : G := by repeat (first | exact QF.nil | (apply QF.mk; rfl; rfl; decide +kernel; exact QyMeY2))) : G := h
theorem PuMeY3 {G : Prop} (h : G := by (first | (apply Pu_lssB; rfl; rfl; first | exact d0 | exact d1) | (apply Pu_indexAddrH; rfl; rfl; omega; omega; (intro w' _ hO; exact (((fact_at (S := S1) (p := ErasAt Zs1) (hO.of (by repeat' constructor))) q hm1).rd k _ hek).1)) | (apply Pu_load1; rfl; (intro w' _ hO; exact (((fact_at (S := S1) (p := ErasAt Zs1) (hO.of (by repeat' constructor))) q hm1).rd k _ hek).2 3 (.string e.set) rfl)) | (apply Pu_load1; rfl; (intro w' _ hO; exact (((fact_at (S := S1) (p := ErasAt Zs1) (hO.of (by repeat' constructor))) q hm1).rd k _ hek).2 0 (.int .i64 e.off) rfl)) | (apply Pu_load1; rfl; (intro w' _ hO; exact (((fact_at (S := S1) (p := ErasAt Zs1) (hO.of (by repeat' constructor))) q hm1).rd k _ hek).2 1 (.int .i64 e.kind) rfl)) | (apply Pu_gtrB; rfl; rfl; exact d2) | (apply Pu_leqB; rfl; rfl; exact d3) | (apply Pu_eqlB; rfl; rfl; exact d4))) : G := h
theorem QyMeY3 {G : Prop} (h : G := by first | (apply Qy_y; rfl; exact PuMeY3) | exact QyA) : G := h
theorem QFMeY3 {G : Prop} (h : G := by repeat (first | exact QF.nil | (apply QF.mk; rfl; rfl; decide +kernel; exact QyMeY3))) : G := h
theorem PuMeY4 {G : Prop} (h : G := by (first | (apply Pu_lssB; rfl; rfl; first | exact d0 | exact d1) | (apply Pu_indexAddrH; rfl; rfl; omega; omega; (intro w' _ hO; exact (((fact_at (S := S1) (p := ErasAt Zs1) (hO.of (by repeat' constructor))) q hm1).rd k _ hek).1)) | (apply Pu_load1; rfl; (intro w' _ hO; exact (((fact_at (S := S1) (p := ErasAt Zs1) (hO.of (by repeat' constructor))) q hm1).rd k _ hek).2 3 (.string e.set) rfl)) | (apply Pu_load1; rfl; (intro w' _ hO; exact (((fact_at (S := S1) (p := ErasAt Zs1) (hO.of (by repeat' constructor))) q hm1).rd k _ hek).2 0 (.int .i64 e.off) rfl)) | (apply Pu_load1; rfl; (intro w' _ hO; exact (((fact_at (S := S1) (p := ErasAt Zs1) (hO.of (by repeat' constructor))) q hm1).rd k _ hek).2 1 (.int .i64 e.kind) rfl)) | (apply Pu_gtrB; rfl; rfl; exact d2) | (apply Pu_leqB; rfl; rfl; exact d3))) : G := h
theorem QyMeY4 {G : Prop} (h : G := by first | (apply Qy_y; rfl; exact PuMeY4) | exact QyA) : G := h
theorem QFMeY4 {G : Prop} (h : G := by repeat (first | exact QF.nil | (apply QF.mk; rfl; rfl; decide +kernel; exact QyMeY4))) : G := h
theorem wkMeY1 {G G' : Prop} (k : G') (h : Hold G' → G := by intro k9; (first | refine und ?_ | (apply RL_pu; rfl; exact PuMeY4) | (apply RD_Q; rfl; rfl; decide +kernel; rfl; rfl; exact QyMeY4) | refine walk1 ?_ | (refine jg ?_; (try intro F); (first | (refine callO (fun w' hw hO => hin A3 c3 w' hw (rowRd DRule.len (hO.of (by repeat' constructor)))) ?_) | (refine callO (fun w' hw hO => hnx A3 c3 w' hw (rowRd DRule.len (hO.of (by repeat' constructor)))) ?_) | (refine stA ?_)); first | refine ⟨_, EndsA, QFMeY4, ?_⟩ | refine fin ?_) | (refine jn ?_; (try intro F); (first | (refine stA ?_) | (apply Stp_pu; first | exact PuMeY4 | exact PuA)); first | refine ⟨_, EndsA, QFMeY4, ?_⟩ | refine fin ?_)); exact k9.out) : G := h ⟨k⟩
set_option maxHeartbeats 8000000 in
set_option maxRecDepth 20000 in
theorem meaningStays_spec (As Az Al : Option Addr) (cs cz cl : Nat) (d : DD23) (zone sec later : Int) (w : World) (hL : LibW w) (hG : Glob w) (hM : MeG w) (hS : RdLL w As cs byEnc 1 d.sets) (hZ : RdLL w Az cz E23.enc 8 d.zones) (hD : RdSl w Al cl byEnc 1 d.links) (hrs : ∀ l ∈ d.sets, ∀ x ∈ l, inR .u8 x) (hrz : ∀ l ∈ d.zones, ∀ x ∈ l, x.ok) (hrl : ∀ x ∈ d.links, inR .u8 x) (hzo : inR .u8 zone) (hse : inR .i32 sec) (hla : inR .u32 later) :
  Does Tryz.prog 8 [d23V As Az Al cs cz cl d, .int .u8 zone, .int .i32 sec, .int .u32 later] w (fun v O => v = .bool true ∧ O = []) := by
 have hwk := fun w' (hw : Bel w.heap.size w w') => works26_spec w' (hL.up hw) (hG.up hw) (hM.up hw)
 have hmk := fun w' (hw : Bel w.heap.size w w') => (made23_spec As Az Al cs cz cl d w' (hS.up hw) (hZ.up hw) (hD.up hw) hrs hrz hrl).monoO fun _ _ h => newSrc_of h
 have hm := mn23 d
 have hsm := made23_sml d
 have hzs := made23_zones d
 have h12 := n12_23 d
 have hnz : 1 ≤ (made23 d).zones.length := by
  rw [made23_nz]
  exact (zl23_len d.zones).1
 generalize made23 d = s at *
 rw [inR_u8] at hzo
 have hse' : -2147483648 ≤ sec ∧ sec ≤ 2147483647 := inR_i32.1 hse
 have hla' : 0 ≤ later ∧ later ≤ 4294967295 := inR_u32.1 hla
 have hzl : s.zones.length ≤ 100 := hsm.nz
 have hrn : s.rules.length ≤ 1000000 := by have := hsm.nr; omega
 refine Does_of_W Tryz.func8 rfl rfl rfl rfl ?_
 repeat (first | refine und ?_ | refine walk ?_ | (refine jg ?_; (try intro F); (first | (apply Stp_call (h := fun w' hw _ => hmk w' hw); rfl; rintro v O' ⟨R1, r1, Z1, z1, L1, l1, H1, h1, Zs1, S1, rfl, hZ1, rfl⟩) | (refine bx ?_; intro bk) | (refine stA ?_)); refine fin ?_) | (refine jn ?_; (try intro F); (first | (refine bx ?_; intro bk) | (refine stA ?_) | (apply Stp_pu; exact PuA)); refine fin ?_) | (apply RD_W; rfl; intro bk))
 have e0 : decide ((s.zones.length : Int) = 0) = false := decide_eq_false (by omega)
 rw [e0]
 clear hmk hS hZ hD hrs hrz hrl
 obtain ⟨i, hpm, hil⟩ := emod_nat zone s.zones.length (by omega)
 obtain ⟨z, hz⟩ : ∃ z, s.zones[i]? = some z := ⟨_, List.getElem?_eq_getElem hil⟩
 obtain ⟨Y, hY⟩ := hzs z (List.mem_of_getElem? hz)
 have hzm := List.mem_of_getElem? hz
 have hzz := zoneD_zone hm.acc hz
 have hlen := hY.len
 obtain ⟨to, hto⟩ : ∃ to, sec + later % 7776000 = to := ⟨_, rfl⟩
 obtain ⟨res, hr⟩ := hY.sp
 obtain ⟨hmo, hnl⟩ := eraAt_mono hr (fun hh => by rw [hh] at hlen; simp at hlen) (a := sec) (b := to) (by omega) (by omega) (by omega)
 have hpz := fun w' => pick26_spec zone s.zones.length hzo (Int.natCast_nonneg _) w'
 rw [← hpm] at hpz
 have ht1 : tOk sec = true := tOk_iff.2 (by omega)
 have ht2 : tOk to = true := tOk_iff.2 (by omega)
 have ka := fun w' (hw : Bel w.heap.size w w') (hA : RdSource w' R1 Z1 L1 H1 r1 z1 l1 h1 s) => mAt R1 Z1 L1 H1 r1 z1 l1 h1 s z.name sec w' (hsm.acc (hL.up hw) (hG.up hw) hA) (hM.up hw) (by omega) hm ht1 hzz hz
 have kb := fun w' (hw : Bel w.heap.size w w') (hA : RdSource w' R1 Z1 L1 H1 r1 z1 l1 h1 s) => mAt R1 Z1 L1 H1 r1 z1 l1 h1 s z.name to w' (hsm.acc (hL.up hw) (hG.up hw) hA) (hM.up hw) (by omega) hm ht2 hzz hz
 have ke := fun w' (hw : Bel w.heap.size w w') (hA : RdSource w' R1 Z1 L1 H1 r1 z1 l1 h1 s) => mEra R1 Z1 L1 H1 r1 z1 l1 h1 s z.name sec w' (hsm.acc (hL.up hw) (hG.up hw) hA) (by omega) hm ht1 hzz hz
 have kf := fun w' (hw : Bel w.heap.size w w') (hA : RdSource w' R1 Z1 L1 H1 r1 z1 l1 h1 s) => mEra R1 Z1 L1 H1 r1 z1 l1 h1 s z.name to w' (hsm.acc (hL.up hw) (hG.up hw) hA) (by omega) hm ht2 hzz hz
 have hst := fun k e (he : z.eras[k]? = some e) hka hkb hne => hY.stays he (a := sec) (b := to) (by omega) (by omega) (by omega) hka hkb hne
 have hera := hY.era
 obtain ⟨La, hLa⟩ : ∃ La, locAt s.rules z.eras sec = La := ⟨_, rfl⟩
 obtain ⟨Lb, hLb⟩ : ∃ Lb, locAt s.rules z.eras to = Lb := ⟨_, rfl⟩
 obtain ⟨k, hk⟩ : ∃ k, eraAt s.rules z.eras sec = k := ⟨_, rfl⟩
 obtain ⟨n, hn⟩ : ∃ n, eraAt s.rules z.eras to = n := ⟨_, rfl⟩
 rw [hLa] at ka
 rw [hLb] at kb
 rw [hk] at ke hmo hst
 rw [hn] at kf hmo hnl hst
 rw [hLa, hLb] at hst
 obtain ⟨e, hek⟩ : ∃ e, z.eras[k]? = some e := ⟨_, List.getElem?_eq_getElem (by omega)⟩
 have hof := fun w' (hw : Bel w.heap.size w w') (hA : RdSource w' R1 Z1 L1 H1 r1 z1 l1 h1 s) => ofN_spec R1 Z1 L1 H1 r1 z1 l1 h1 s e.set w' hA hrn
 have hE := hera k e hek
 have e3 : (!decide ((0 : Int) = 0)) = false := rfl
 have c2 : decide ((k : Int) < 0) = false := decide_eq_false (by omega)
 have c3 : decide ((n : Int) < (k : Int)) = false := decide_eq_false (by omega)
 have c4 : decide ((z.eras.length : Int) ≤ (n : Int)) = false := decide_eq_false (by omega)
 obtain ⟨q, hq, hqe⟩ := ze_at26 hZ1 hz
 subst hqe
 have hm1 : q ∈ Zs1 := List.mem_of_getElem? hq
 have hjl : i < Zs1.length := (List.getElem?_eq_some_iff.1 hq).1
 have hzN : ∀ (j : Nat) (v : Value), ([.string q.z.name, .slice q.A q.z.eras.length q.c] : List Value)[j]? = some v → (Zs1.flatMap ZE.enc)[((i : Int)).toNat * 2 + j]? = some v := fun j v hj => flat_get ZE.len Zs1 i q j v hq hj
 obtain ⟨a1, a2, a3⟩ := La
 obtain ⟨b1, b2, b3⟩ := Lb
 simp only [DLocal.enc] at ka kb
 clear hmo hr hlen hzz hzs hm hpm hLa hLb
 subst hto
 by_cases hkn : k = n
 ·have c1 : (!decide ((k : Int) = (n : Int))) = false := by rw [decide_eq_true (by omega)]; rfl
  by_cases hab : (⟨a1, a2, a3⟩ : DLocal) = ⟨b1, b2, b3⟩
  ·have n0 : decide ((⟨a1, a2, a3⟩ : DLocal) = ⟨b1, b2, b3⟩) = true := decide_eq_true hab
   repeat (first | refine wkMeY0 ?_ | (refine jg ?_; (try intro F); (refine bx ?_; intro bk); first | refine ⟨_, EndsA, QFMeY0, ?_⟩ | refine fin ?_) | (refine jn ?_; (try intro F); (refine bx ?_; intro bk); first | refine ⟨_, EndsA, QFMeY0, ?_⟩ | refine fin ?_) | (apply RD_W; rfl; intro bk))
   exact rtA
  ·have n0 : decide ((⟨a1, a2, a3⟩ : DLocal) = ⟨b1, b2, b3⟩) = false := decide_eq_false hab
   obtain ⟨h2, f, hf1, hf2, hf3⟩ := hst k e hek rfl hkn.symm hab
   obtain ⟨_, ho, hSt, hp, h5⟩ := hE.set2 h2
   have hR : RsSm (ofB s.rules e.set) := by
    have := hE.rs
    unfold ruEr at this
    rwa [if_pos h2] at this
   generalize ofB s.rules e.set = rr at *
   have hRo : RsOk rr := fun r hr => ⟨hR.r r hr, hR.f r hr⟩
   have hnf := hSt.inst_near ho f
   have haf := fun A3 c3 w' (hw : Bel w.heap.size w w') hA => after_spec A3 c3 rr (sec - 259200) w' (hG.up hw) hA hR.n hRo (by omega)
   obtain ⟨v0, g1, g2⟩ := hSt.afterD_full (n := sec - 259200) (by omega) (by omega) hf1 (by omega)
   obtain ⟨g3, g4⟩ := afterD_ev g1
   rw [g1] at haf
   obtain ⟨ve, vr, vn⟩ := v0
   simp only [evV, DEvent.enc, Option.isSome] at haf
   dsimp only at g2 g4
   repeat (first | refine und ?_ | (apply RL_pu; rfl; exact PuMeY1) | (apply RD_Q; rfl; rfl; decide +kernel; rfl; rfl; exact QyMeY1) | refine walk1 ?_ | (refine jg ?_; (try intro F); (first | (refine callE (fun w' _ => hpz w') ?_) | (refine bx ?_; intro bk) | (refine stA ?_)); first | refine ⟨_, EndsA, QFMeY1, ?_⟩ | refine fin ?_) | (refine jn ?_; (try intro F); (first | (refine bx ?_; intro bk) | (refine stA ?_) | (apply Stp_pu; first | exact PuMeY1 | exact PuA)); first | refine ⟨_, EndsA, QFMeY1, ?_⟩ | refine fin ?_) | (apply RD_W; rfl; intro bk))
   generalize bk = bZ
   repeat (first | refine und ?_ | (apply RL_pu; rfl; exact PuMeY2) | (apply RD_Q; rfl; rfl; decide +kernel; rfl; rfl; exact QyMeY2) | refine walk1 ?_ | (refine jg ?_; (try intro F); (first | (refine callO (fun w' hw hO => ka w' hw (src_rd hZ1 (hO.of (A := rowR R1 r1 _) (by repeat' constructor)) (hO.of (A := rowZ Z1 z1 _) (by repeat' constructor)) (hO.of (A := rowL L1 l1 _) (by repeat' constructor)) (hO.of (A := rowS H1 h1 _) (by repeat' constructor)) (hO.of (A := .fact S1 (ErasAt Zs1)) (by repeat' constructor)))) ?_) | (refine callO (fun w' hw hO => kb w' hw (src_rd hZ1 (hO.of (A := rowR R1 r1 _) (by repeat' constructor)) (hO.of (A := rowZ Z1 z1 _) (by repeat' constructor)) (hO.of (A := rowL L1 l1 _) (by repeat' constructor)) (hO.of (A := rowS H1 h1 _) (by repeat' constructor)) (hO.of (A := .fact S1 (ErasAt Zs1)) (by repeat' constructor)))) ?_) | (refine callO (fun w' hw hO => ke w' hw (src_rd hZ1 (hO.of (A := rowR R1 r1 _) (by repeat' constructor)) (hO.of (A := rowZ Z1 z1 _) (by repeat' constructor)) (hO.of (A := rowL L1 l1 _) (by repeat' constructor)) (hO.of (A := rowS H1 h1 _) (by repeat' constructor)) (hO.of (A := .fact S1 (ErasAt Zs1)) (by repeat' constructor)))) ?_) | (refine callO (fun w' hw hO => kf w' hw (src_rd hZ1 (hO.of (A := rowR R1 r1 _) (by repeat' constructor)) (hO.of (A := rowZ Z1 z1 _) (by repeat' constructor)) (hO.of (A := rowL L1 l1 _) (by repeat' constructor)) (hO.of (A := rowS H1 h1 _) (by repeat' constructor)) (hO.of (A := .fact S1 (ErasAt Zs1)) (by repeat' constructor)))) ?_) | (apply Stp_call (h := fun w' hw hO => hof w' hw (src_rd hZ1 (hO.of (A := rowR R1 r1 _) (by repeat' constructor)) (hO.of (A := rowZ Z1 z1 _) (by repeat' constructor)) (hO.of (A := rowL L1 l1 _) (by repeat' constructor)) (hO.of (A := rowS H1 h1 _) (by repeat' constructor)) (hO.of (A := .fact S1 (ErasAt Zs1)) (by repeat' constructor)))); rfl; rintro v O' ⟨A3, c3, rfl, rfl⟩) | (refine callO (fun w' hw hO => haf A3 c3 w' hw (rowRd DRule.len (hO.of (by repeat' constructor)))) ?_) | (refine bx ?_; intro bk) | (refine stA ?_)); first | refine ⟨_, EndsA, QFMeY2, ?_⟩ | refine fin ?_) | (refine jn ?_; (try intro F); (first | (refine bx ?_; intro bk) | (refine stA ?_) | (apply Stp_pu; first | exact PuMeY2 | exact PuA)); first | refine ⟨_, EndsA, QFMeY2, ?_⟩ | refine fin ?_) | (apply RD_W; rfl; intro bk))
   generalize bk = bE
   refine W_loopF [(11, .int .i64 sec), (12, .int .i64 (sec + later % 7776000)), (17, .int .i64 k), (10, .pointer (some ⟨bZ, 0, none⟩)), (21, .slice A3 rr.length c3), (22, .pointer (some ⟨bE, 0, none⟩))] [.row (.slice A3 rr.length c3) 27 11 rr.length (rr.flatMap DRule.enc), .blk bZ [.string q.z.name, .slice q.A q.z.eras.length q.c] 51, .fact S1 (ErasAt Zs1)]
    (fun g : StyG => [(23, .bool true), (24, .int .i64 g.i)]) (fun g => [.blk bE [.int .i64 g.e.year, .int .i64 g.e.rule, .int .i64 g.e.nominal] 84])
    (fun g => EvOf rr g.e ∧ g.e.nominal ≤ f.nominal ∧ sec - 259200 + 2588400 * g.i ≤ g.e.nominal) (fun g => 20 - g.i) ⟨0, ⟨ve, vr, vn⟩⟩ SFA SOA ⟨g3, g2, by dsimp only; omega⟩ ?_
   clear haf g1 g3 g4 g2
   rintro ⟨j, ⟨ye, yr, yn⟩⟩ ⟨i1, i2, i3⟩
   dsimp only at i1 i2 i3 ⊢
   have hj : j ≤ 3 := by omega
   have d0 : decide ((j : Int) < 20) = true := decide_eq_true (by omega)
   have d1 : decide (yn < sec + later % 7776000 + 259200) = true := decide_eq_true (by omega)
   have hrn2 := hSt.evR i1
   dsimp only at hrn2
   have hni := hSt.inst_near ho ⟨ye, yr, yn⟩
   have hin := fun A3 c3 w' (hw : Bel w.heap.size w w') hA => inst_spec A3 c3 rr ⟨ye, yr, yn⟩ e.off w' (hG.up hw) hA hR hrn2 (by dsimp only; omega) (by omega)
   simp only [DEvent.enc] at hin
   have hlow := hSt.low i1
   dsimp only at hni hlow
   by_cases hT : sec < instE rr ⟨ye, yr, yn⟩ e.off ∧ instE rr ⟨ye, yr, yn⟩ e.off ≤ sec + later % 7776000
   ·have d2 : decide (sec < instE rr ⟨ye, yr, yn⟩ e.off) = true := decide_eq_true hT.1
    have d3 : decide (instE rr ⟨ye, yr, yn⟩ e.off ≤ sec + later % 7776000) = true := decide_eq_true hT.2
    have d4 : decide (e.kind = 2) = true := decide_eq_true h2
    generalize instE rr ⟨ye, yr, yn⟩ e.off = T at *
    repeat (first | refine und ?_ | (apply RL_pu; rfl; exact PuMeY3) | (apply RD_Q; rfl; rfl; decide +kernel; rfl; rfl; exact QyMeY3) | refine walk1 ?_ | (refine jg ?_; (try intro F); (first | (refine callO (fun w' hw hO => hin A3 c3 w' hw (rowRd DRule.len (hO.of (by repeat' constructor)))) ?_) | (refine callE hwk ?_) | (refine bx ?_; intro bk) | (refine stA ?_)); first | refine ⟨_, EndsA, QFMeY3, ?_⟩ | refine fin ?_) | (refine jn ?_; (try intro F); (first | (refine bx ?_; intro bk) | (refine stA ?_) | (apply Stp_pu; first | exact PuMeY3 | exact PuA)); first | refine ⟨_, EndsA, QFMeY3, ?_⟩ | refine fin ?_) | (apply RD_W; rfl; intro bk))
    exact rtA
   ·have hne : (⟨ye, yr, yn⟩ : DEvent) ≠ f := fun hh => hT (by rw [hh]; exact ⟨hf2, hf3⟩)
    obtain ⟨e', k1, k2, k3, k4⟩ := hSt.next hf1 i1 (by dsimp only; omega) i2 hne
    dsimp only at k1 k4
    have hnx := fun A3 c3 w' (hw : Bel w.heap.size w w') hA => after_spec A3 c3 rr yn w' (hG.up hw) hA hR.n hRo (by omega)
    rw [k1] at hnx
    obtain ⟨ze, zr, zn⟩ := e'
    simp only [evV, DEvent.enc, Option.isSome] at hnx
    dsimp only at k3 k4
    rcases Int.lt_or_le sec (instE rr ⟨ye, yr, yn⟩ e.off) with hT1 | hT1
    ·have d2 : decide (sec < instE rr ⟨ye, yr, yn⟩ e.off) = true := decide_eq_true hT1
     have d3 : decide (instE rr ⟨ye, yr, yn⟩ e.off ≤ sec + later % 7776000) = false := decide_eq_false fun hh => hT ⟨hT1, hh⟩
     generalize instE rr ⟨ye, yr, yn⟩ e.off = T at *
     repeat (first | refine wkMeY1 ?_ | (refine jg ?_; (try intro F); (refine bx ?_; intro bk); first | refine ⟨_, EndsA, QFMeY4, ?_⟩ | refine fin ?_) | (refine jn ?_; (try intro F); (refine bx ?_; intro bk); first | refine ⟨_, EndsA, QFMeY4, ?_⟩ | refine fin ?_) | (apply RD_W; rfl; intro bk))
     exact ⟨⟨j + 1, ⟨ze, zr, zn⟩⟩, by dsimp only; omega, ⟨k2, k3, by dsimp only; omega⟩, SFA, SOA⟩
    ·have d2 : decide (sec < instE rr ⟨ye, yr, yn⟩ e.off) = false := decide_eq_false (by omega)
     generalize instE rr ⟨ye, yr, yn⟩ e.off = T at *
     repeat (first | refine wkMeY1 ?_ | (refine jg ?_; (try intro F); (refine bx ?_; intro bk); first | refine ⟨_, EndsA, QFMeY4, ?_⟩ | refine fin ?_) | (refine jn ?_; (try intro F); (refine bx ?_; intro bk); first | refine ⟨_, EndsA, QFMeY4, ?_⟩ | refine fin ?_) | (apply RD_W; rfl; intro bk))
     exact ⟨⟨j + 1, ⟨ze, zr, zn⟩⟩, by dsimp only; omega, ⟨k2, k3, by dsimp only; omega⟩, SFA, SOA⟩
 ·have c1 : (!decide ((k : Int) = (n : Int))) = true := by rw [decide_eq_false (by omega)]; rfl
  repeat (first | refine wkMeY0 ?_ | (refine jg ?_; (try intro F); (refine bx ?_; intro bk); first | refine ⟨_, EndsA, QFMeY0, ?_⟩ | refine fin ?_) | (refine jn ?_; (try intro F); (refine bx ?_; intro bk); first | refine ⟨_, EndsA, QFMeY0, ?_⟩ | refine fin ?_) | (apply RD_W; rfl; intro bk))
  exact rtA
end Go.Proofs.YtonjepladadmhaaGreatDoor
