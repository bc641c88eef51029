/- Contract: analemmalaw26.MeaningSteps. -/
import Derived.Test.YtonjepladadmhaaGreatDoorS40
import Derived.Test.YtonjepladadmhaaGreatDoorS48
set_option maxHeartbeats 4000000
set_option linter.unusedVariables false
set_option linter.unusedSimpArgs false
namespace Go.Proofs.YtonjepladadmhaaGreatDoor
open Go Go.RowKit Go.Wk
attribute [local irreducible] W RL Does thenQ blockQ retQ Calls Pu Stp RD Qy Ay DoesIn made23
theorem PuMeSt0 {G : Prop} (h : G := by (first | (apply Pu_indexAddrH; rfl; rfl; omega; omega; (intro w' _ hO; exact row_some (hO.of (A := rowZ Z1 z1 Zs1) (by repeat' constructor)) (by omega))) | (apply Pu_loadRF; rfl; (focus repeat' constructor); exact hz1) | (apply Pu_loadRF; rfl; (focus repeat' constructor); exact hz0) | (apply Pu_indexAddrH; rfl; rfl; omega; omega; (intro w' _ hO; exact (((fact_at (S := S1) (p := ErasAt Zs1) (hO.of (by repeat' constructor))) q hm1).rd k _ hek).1)) | (apply Pu_loadN (cs := [.int .i64 off, .int .i64 kd, .int .i64 esv, .string sset, .string fm, .bool ui, .int .i64 uy, .int .i64 um, .int .i64 ud1, .int .i64 ud2, .int .i64 ud3, .int .i64 uc1, .int .i64 uc2]); rfl; rfl; (intro w' _ hO; exact (((fact_at (S := S1) (p := ErasAt Zs1) (hO.of (by repeat' constructor))) q hm1).rd k _ hek).2)) | (apply Pu_eqlB; rfl; rfl; first | exact e0 | exact e1) | (apply Pu_neqB'; rfl; rfl; first | exact e2 | exact e3))) : G := h
theorem QyMeSt0 {G : Prop} (h : G := by first | (apply Qy_y; rfl; exact PuMeSt0) | exact QyA) : G := h
theorem QFMeSt0 {G : Prop} (h : G := by repeat (first | exact QF.nil | (apply QF.mk; rfl; rfl; decide +kernel; exact QyMeSt0))) : G := h
theorem PuMeSt1 {G : Prop} (h : G := by (first | (apply Pu_indexAddrH; rfl; rfl; omega; omega; (intro w' _ hO; exact row_some (hO.of (A := .row (.slice A4 q.z.eras.length c4) 101 3 q.z.eras.length (res.flatMap DSpan.enc)) (by repeat' constructor)) (by omega))) | (apply Pu_loadRF; rfl; (focus repeat' constructor); exact hs0) | (apply Pu_loadRF; rfl; (focus repeat' constructor); exact hs1) | (apply Pu_neqB'; rfl; rfl; first | exact e3 | exact e4 | exact e5) | (apply Pu_gtrB; rfl; rfl; exact g0))) : G := h
theorem QyMeSt1 {G : Prop} (h : G := by first | (apply Qy_y; rfl; exact PuMeSt1) | exact QyA) : G := h
theorem QFMeSt1 {G : Prop} (h : G := by repeat (first | exact QF.nil | (apply QF.mk; rfl; rfl; decide +kernel; exact QyMeSt1))) : G := h
theorem PuMeSt2 {G : Prop} (h : G := by (first | (apply Pu_eqlB; rfl; rfl; first | exact n1 | exact n2) | (apply Pu_indexAddrH; rfl; rfl; omega; omega; (intro w' _ hO; exact row_some (hO.of (A := .row (.slice A3 rr.length c3) 27 11 rr.length (rr.flatMap DRule.enc)) (by repeat' constructor)) (by omega))) | (apply Pu_loadRF; rfl; (focus repeat' constructor); exact hu1) | (apply Pu_loadRF; rfl; (focus repeat' constructor); exact hu9) | (apply Pu_loadRF; rfl; (focus repeat' constructor); exact hu10))) : G := h
theorem QyMeSt2 {G : Prop} (h : G := by first | (apply Qy_y; rfl; exact PuMeSt2) | exact QyA) : G := h
theorem QFMeSt2 {G : Prop} (h : G := by repeat (first | exact QF.nil | (apply QF.mk; rfl; rfl; decide +kernel; exact QyMeSt2))) : G := h
theorem PuMeSt3 {G : Prop} (h : G := by (first | (apply Pu_indexAddrH; rfl; rfl; omega; omega; (intro w' _ hO; exact row_some (hO.of (A := .row (.slice A4 q.z.eras.length c4) 101 3 q.z.eras.length (res.flatMap DSpan.enc)) (by repeat' constructor)) (by omega))) | (apply Pu_loadRF; rfl; (focus repeat' constructor); exact hs0) | (apply Pu_loadRF; rfl; (focus repeat' constructor); exact hs1))) : G := h
theorem QyMeSt3 {G : Prop} (h : G := by first | (apply Qy_y; rfl; exact PuMeSt3) | exact QyA) : G := h
theorem QFMeSt3 {G : Prop} (h : G := by repeat (first | exact QF.nil | (apply QF.mk; rfl; rfl; decide +kernel; exact QyMeSt3))) : G := h
theorem PuMeSt4 {G : Prop} (h : G := by (first | exact PuMeSt3 | (apply Pu_geqB; rfl; rfl; exact d1) | (apply Pu_eqlB; rfl; rfl; exact hm0) | (apply Pu_indexAddrH; rfl; rfl; omega; omega; (intro w' _ hO; exact row_some (hO.of (A := .row (.slice A3 rr.length c3) 27 11 rr.length (rr.flatMap DRule.enc)) (by repeat' constructor)) (by omega))) | (apply Pu_loadRF; rfl; (focus repeat' constructor); exact hu1) | (apply Pu_loadRF; rfl; (focus repeat' constructor); exact hu9) | (apply Pu_loadRF; rfl; (focus repeat' constructor); exact hu10) | (apply Pu_eqEB (i := (⟨w1, w2, w3⟩ : DLocal)) (j := ⟨w1, w2, w3⟩) (enc := DLocal.enc); rfl; rfl; exact n0) | (apply Pu_eqEB (i := (⟨y1, y2, y3⟩ : DLocal)) (j := ⟨y1, y2, y3⟩) (enc := DLocal.enc); rfl; rfl; exact n3))) : G := h
theorem QyMeSt4 {G : Prop} (h : G := by first | (apply Qy_y; rfl; exact PuMeSt4) | exact QyA) : G := h
theorem QFMeSt4 {G : Prop} (h : G := by repeat (first | exact QF.nil | (apply QF.mk; rfl; rfl; decide +kernel; exact QyMeSt4))) : G := h
theorem PuMeSt5 {G : Prop} (h : G := by (first | exact PuMeSt3 | (apply Pu_geqB; rfl; rfl; exact d1) | (apply Pu_eqlB; rfl; rfl; exact hm0))) : G := h
theorem QyMeSt5 {G : Prop} (h : G := by first | (apply Qy_y; rfl; exact PuMeSt5) | exact QyA) : G := h
theorem QFMeSt5 {G : Prop} (h : G := by repeat (first | exact QF.nil | (apply QF.mk; rfl; rfl; decide +kernel; exact QyMeSt5))) : G := h
theorem PuMeSt6 {G : Prop} (h : G := by (first | exact PuMeSt3 | (apply Pu_neqB'; rfl; rfl; first | exact e3 | exact e4 | exact e5 | exact e6) | (apply Pu_gtrB; rfl; rfl; exact g0) | (apply Pu_eqlB; rfl; rfl; first | exact n1 | exact n2) | (apply Pu_maxK; rfl; rfl; exact hmx) | (apply Pu_eqEB (i := (⟨w1, w2, w3⟩ : DLocal)) (j := ⟨w1, w2, w3⟩) (enc := DLocal.enc); rfl; rfl; exact n0))) : G := h
theorem QyMeSt6 {G : Prop} (h : G := by first | (apply Qy_y; rfl; exact PuMeSt6) | exact QyA) : G := h
theorem QFMeSt6 {G : Prop} (h : G := by repeat (first | exact QF.nil | (apply QF.mk; rfl; rfl; decide +kernel; exact QyMeSt6))) : G := h
set_option maxHeartbeats 8000000 in
set_option maxRecDepth 20000 in
theorem meaningSteps_spec (As Az Al : Option Addr) (cs cz cl : Nat) (d : DD23) (zone era rule y : Int) (w : World) (hL : LibW w) (hG : Glob w) (hM : MeG w) (hS : RdLL w As cs byEnc 1 d.sets) (hZ : RdLL w Az cz E23.enc 8 d.zones) (hD : RdSl w Al cl byEnc 1 d.links) (hrs : ∀ l ∈ d.sets, ∀ x ∈ l, inR .u8 x) (hrz : ∀ l ∈ d.zones, ∀ x ∈ l, x.ok) (hrl : ∀ x ∈ d.links, inR .u8 x) (hzo : inR .u8 zone) (her : inR .u8 era) (hru : inR .u8 rule) (hyy : inR .u8 y) :
  Does Tryz.prog 7 [d23V As Az Al cs cz cl d, .int .u8 zone, .int .u8 era, .int .u8 rule, .int .u8 y] w (fun v O => v = .bool true ∧ O = []) := by
 have hwk := fun w' (hw : Bel w.heap.size w w') => works26_spec w' (hL.up hw) (hG.up hw) (hM.up hw)
 have hmk := fun w' (hw : Bel w.heap.size w w') => (made23_spec As Az Al cs cz cl d w' (hS.up hw) (hZ.up hw) (hD.up hw) hrs hrz hrl).monoO fun _ _ h => newSrc_of h
 have hm := mn23 d
 have hsm := made23_sml d
 have hzs := made23_zones d
 have h12 := n12_23 d
 have hnz : 1 ≤ (made23 d).zones.length := by
  rw [made23_nz]
  exact (zl23_len d.zones).1
 generalize made23 d = s at *
 rw [inR_u8] at hzo her hru hyy
 have hzl : s.zones.length ≤ 100 := hsm.nz
 have hrn : s.rules.length ≤ 1000000 := by have := hsm.nr; omega
 refine Does_of_W Tryz.func7 rfl rfl rfl rfl ?_
 repeat (first | refine und ?_ | refine walk ?_ | (refine jg ?_; (try intro F); (first | (apply Stp_call (h := fun w' hw _ => hmk w' hw); rfl; rintro v O' ⟨R1, r1, Z1, z1, L1, l1, H1, h1, Zs1, S1, rfl, hZ1, rfl⟩) | (refine bx ?_; intro bk) | (refine stA ?_)); refine fin ?_) | (refine jn ?_; (try intro F); (first | (refine bx ?_; intro bk) | (refine stA ?_) | (apply Stp_pu; exact PuA)); refine fin ?_) | (apply RD_W; rfl; intro bk))
 have e0 : decide ((s.zones.length : Int) = 0) = false := decide_eq_false (by omega)
 rw [e0]
 clear hmk hS hZ hD hrs hrz hrl
 obtain ⟨i, hpm, hil⟩ := emod_nat zone s.zones.length (by omega)
 obtain ⟨z, hz⟩ : ∃ z, s.zones[i]? = some z := ⟨_, List.getElem?_eq_getElem hil⟩
 obtain ⟨Y, hY⟩ := hzs z (List.mem_of_getElem? hz)
 have hzm := List.mem_of_getElem? hz
 have hzz := zoneD_zone hm.acc hz
 have hlen := hY.len
 obtain ⟨res, hr⟩ := hY.sp
 have hrl2 : res.length = z.eras.length := sp_len _ _ _ _ _ hr
 obtain ⟨k, hpk, hkl⟩ := emod_nat era z.eras.length (by omega)
 obtain ⟨e, hek⟩ : ∃ e, z.eras[k]? = some e := ⟨_, List.getElem?_eq_getElem hkl⟩
 obtain ⟨x, hxk⟩ : ∃ x, res[k]? = some x := ⟨_, List.getElem?_eq_getElem (by omega)⟩
 have hsp := fun w' (hw : Bel w.heap.size w w') (hA : RdSource w' R1 Z1 L1 H1 r1 z1 l1 h1 s) => spans_spec R1 Z1 L1 H1 r1 z1 l1 h1 s i z res w' (hG.up hw) hA hrn (by omega) hz hY.un hr
 unfold SpR at hsp
 simp only [hrl2] at hsp
 have hE := hY.era k e hek
 obtain ⟨sp1, sp2, sp3, sp4⟩ := hY.span hr hxk
 have hE1 := hE.st0.1
 dsimp only at hE1
 have hpz := fun w' => pick26_spec zone s.zones.length hzo (Int.natCast_nonneg _) w'
 have hpe := fun w' => pick26_spec era z.eras.length her (Int.natCast_nonneg _) w'
 rw [← hpm] at hpz
 rw [← hpk] at hpe
 have hof := fun w' (hw : Bel w.heap.size w w') (hA : RdSource w' R1 Z1 L1 H1 r1 z1 l1 h1 s) => ofN_spec R1 Z1 L1 H1 r1 z1 l1 h1 s e.set w' hA hrn
 have hat := fun t (ht : tOk t = true) w' (hw : Bel w.heap.size w w') (hA : RdSource w' R1 Z1 L1 H1 r1 z1 l1 h1 s) => mAt R1 Z1 L1 H1 r1 z1 l1 h1 s z.name t w' (hsm.acc (hL.up hw) (hG.up hw) hA) (hM.up hw) (by omega) hm ht hzz hz
 have hat2 := fun t (ht : tOk t = true) w' (hw : Bel w.heap.size w w') (hA : RdSource w' R1 Z1 L1 H1 r1 z1 l1 h1 s) => mEra R1 Z1 L1 H1 r1 z1 l1 h1 s z.name t w' (hsm.acc (hL.up hw) (hG.up hw) hA) (by omega) hm ht hzz hz
 have e1 : decide ((z.eras.length : Int) = 0) = false := decide_eq_false (by omega)
 have e2 : (!decide ((z.eras.length : Int) = (z.eras.length : Int))) = false := by rw [decide_eq_true rfl]; rfl
 have e3 : (!decide ((0 : Int) = 0)) = false := rfl
 obtain ⟨q, hq, hqe⟩ := ze_at26 hZ1 hz
 subst hqe
 have hm1 : q ∈ Zs1 := List.mem_of_getElem? hq
 have hjl : i < Zs1.length := (List.getElem?_eq_some_iff.1 hq).1
 have hz1 : (Zs1.flatMap ZE.enc)[((i : Int)).toNat * 2 + 1]? = some (.slice q.A q.z.eras.length q.c) := flat_get ZE.len Zs1 i q 1 _ hq rfl
 have hz0 : (Zs1.flatMap ZE.enc)[((i : Int)).toNat * 2 + 0]? = some (.string q.z.name) := flat_get ZE.len Zs1 i q 0 _ hq rfl
 have hs0 : (res.flatMap DSpan.enc)[((k : Int)).toNat * 3 + 0]? = some (.int .i64 x.start) := flat_get DSpan.len res k x 0 _ hxk rfl
 have hs1 : (res.flatMap DSpan.enc)[((k : Int)).toNat * 3 + 1]? = some (.int .i64 x.fin) := flat_get DSpan.len res k x 1 _ hxk rfl
 have hm0 : decide ((0 : Int) = 0) = true := rfl
 have key : e.kind ≠ 2 → ∀ t, locAt s.rules q.z.eras t = localD e (stateD s.rules e t) → locAt s.rules q.z.eras t = localD e (e.save, ByteArray.empty) := fun h2 t h => by rw [h, hE.st_flat h2]
 have hmx : (if x.start < -36028797018963968 then -36028797018963968 else x.start) = max x.start (-36028797018963968) := by omega
 have kml := fun h2 : e.kind ≠ 2 => key h2 _ (locAt_era hek sp4)
 have kmt : k = 0 ∨ 0 < k → tOk (max x.start (-36028797018963968)) = true := fun h => tOk_iff.2 (by
  rcases h with h | h
  ·have := sp1 h; omega
  ·have := (sp2 h).1; omega)
 have kst : e.kind ≠ 2 → DrSt e (e.save, ByteArray.empty) := fun h2 => by have := hE.state 0; rwa [hE.st_flat h2] at this
 have klo' := fun h2 w' (hw : Bel w.heap.size w w') => local26l_spec e (e.save, ByteArray.empty) w' (hL.up hw) (fmtU_sz hE.fmt) (kst h2) (by omega) (abbr_dr hE.fmt (kst h2)).1
 unfold stV at klo'
 generalize localD e (e.save, ByteArray.empty) = L0 at *
 have step := fun (h2 : e.kind = 2) (j : Nat) (u : DRule) (hu : (ofB s.rules e.set)[j]? = some u) (v : DEvent) (yy : Int) (hy2 : yy ≤ 2400) (hv : onR (leastD (ofB s.rules e.set)) u j yy = some v) (h3 : x.start < instE (ofB s.rules e.set) v e.off) (h4 : instE (ofB s.rules e.set) v e.off < x.fin) => hY.step hr hxk hek h2 hu hv hy2 h3 h4
 have hset := fun h2 : e.kind = 2 => hE.set2 h2
 have hrsm : e.kind = 2 → RsSm (ofB s.rules e.set) := fun h2 => by
  have := hE.rs
  unfold ruEr at this
  rwa [if_pos h2] at this
 have hst2 : e.kind = 2 → ∀ r ∈ ofB s.rules e.set, DrSt e (r.save, r.letter) := fun h2 => hE.st2 (by omega) (by omega)
 have hbe2 : e.kind = 2 → ∀ n, DrSt e (befS (ofB s.rules e.set) n) := fun h2 n => hE.befS h2 n
 have klc := fun (x : Int × ByteArray) (hx : DrSt e x) w' (hw : Bel w.heap.size w w') => local26l_spec e x w' (hL.up hw) (fmtU_sz hE.fmt) hx (by omega) (abbr_dr hE.fmt hx).1
 have hfr : e.kind = 2 → 0 < k := fun h2 => by
  have := (hE.set2 h2).1
  by_cases h0 : k = 0
  ·subst h0; cases this
  ·omega
 clear hzs hm hzz hpm hpk hr hrl2 key kst hE hY
 generalize ofB s.rules e.set = rr at *
 obtain ⟨off, kd, esv, sset, fm, ⟨ui, uy, um, ⟨ud1, ud2, ud3⟩, ⟨uc1, uc2⟩⟩⟩ := e
 dsimp only at hE1 hof klo' kml hset hrsm hst2 hbe2 hfr step kmt
 simp only [DEra.enc] at klo' klc
 repeat (first | refine und ?_ | (apply RL_pu; rfl; exact PuMeSt0) | (apply RD_Q; rfl; rfl; decide +kernel; rfl; rfl; exact QyMeSt0) | refine walk1 ?_ | (refine jg ?_; (try intro F); (first | (refine callE (fun w' _ => hpz w') ?_) | (refine callE (fun w' _ => hpe w') ?_) | (apply Stp_call (h := fun w' hw hO => hsp w' hw (src_rd hZ1 (hO.of (A := rowR R1 r1 _) (by repeat' constructor)) (hO.of (A := rowZ Z1 z1 _) (by repeat' constructor)) (hO.of (A := rowL L1 l1 _) (by repeat' constructor)) (hO.of (A := rowS H1 h1 _) (by repeat' constructor)) (hO.of (A := .fact S1 (ErasAt Zs1)) (by repeat' constructor)))); rfl; rintro v O' ⟨A4, c4, rfl, rfl⟩) | (refine bx ?_; intro bk) | (refine stA ?_)); first | refine ⟨_, EndsA, QFMeSt0, ?_⟩ | refine fin ?_) | (refine jn ?_; (try intro F); (first | (refine bx ?_; intro bk) | (refine stA ?_) | (apply Stp_pu; first | exact PuMeSt0 | exact PuA)); first | refine ⟨_, EndsA, QFMeSt0, ?_⟩ | refine fin ?_) | (apply RD_W; rfl; intro bk))
 refine W_cond rfl (fun hc => ?_) (fun hc => ?_)
 ·have hk0 : 0 < k := by have := of_decide_eq_true hc; omega
  clear hc
  obtain ⟨sb, sq1, sq2⟩ := sp2 hk0
  have ke := hat2 x.start (tOk_iff.2 (by omega))
  have kf := hat2 (x.start - 1) (tOk_iff.2 (by omega))
  rw [sq1] at ke
  rw [sq2] at kf
  have e4 : (!decide ((k : Int) = (k : Int))) = false := by rw [decide_eq_true rfl]; rfl
  have e5 : (!decide (((k - 1 : Nat) : Int) = (k : Int) - 1)) = false := by rw [decide_eq_true (by omega)]; rfl
  repeat (first | refine und ?_ | (apply RL_pu; rfl; exact PuMeSt1) | (apply RD_Q; rfl; rfl; decide +kernel; rfl; rfl; exact QyMeSt1) | refine walk1 ?_ | (refine jg ?_; (try intro F); (first | (refine callO (fun w' hw hO => ke w' hw (src_rd hZ1 (hO.of (A := rowR R1 r1 _) (by repeat' constructor)) (hO.of (A := rowZ Z1 z1 _) (by repeat' constructor)) (hO.of (A := rowL L1 l1 _) (by repeat' constructor)) (hO.of (A := rowS H1 h1 _) (by repeat' constructor)) (hO.of (A := .fact S1 (ErasAt Zs1)) (by repeat' constructor)))) ?_) | (refine callO (fun w' hw hO => kf w' hw (src_rd hZ1 (hO.of (A := rowR R1 r1 _) (by repeat' constructor)) (hO.of (A := rowZ Z1 z1 _) (by repeat' constructor)) (hO.of (A := rowL L1 l1 _) (by repeat' constructor)) (hO.of (A := rowS H1 h1 _) (by repeat' constructor)) (hO.of (A := .fact S1 (ErasAt Zs1)) (by repeat' constructor)))) ?_) | (apply Stp_call (h := fun w' hw hO => hof w' hw (src_rd hZ1 (hO.of (A := rowR R1 r1 _) (by repeat' constructor)) (hO.of (A := rowZ Z1 z1 _) (by repeat' constructor)) (hO.of (A := rowL L1 l1 _) (by repeat' constructor)) (hO.of (A := rowS H1 h1 _) (by repeat' constructor)) (hO.of (A := .fact S1 (ErasAt Zs1)) (by repeat' constructor)))); rfl; rintro v O' ⟨A3, c3, rfl, rfl⟩) | (refine bx ?_; intro bk) | (refine stA ?_)); first | refine ⟨_, EndsA, QFMeSt1, ?_⟩ | refine fin ?_) | (refine jn ?_; (try intro F); (first | (refine bx ?_; intro bk) | (refine stA ?_) | (apply Stp_pu; first | exact PuMeSt1 | exact PuA)); first | refine ⟨_, EndsA, QFMeSt1, ?_⟩ | refine fin ?_) | (apply RD_W; rfl; intro bk))
  by_cases h2 : kd = 2
  ·have e6 : (!decide (kd = 2)) = false := by rw [decide_eq_true h2]; rfl
   rw [e6]
   obtain ⟨_, ho, hS, hp, h5⟩ := hset h2
   have hR := hrsm h2
   have n1 : decide ((rr.length : Int) = 0) = false := decide_eq_false (by omega)
   obtain ⟨j, hpj, hjl2⟩ := emod_nat rule rr.length hp
   have hpr := fun w' => pick26_spec rule rr.length hru (Int.natCast_nonneg _) w'
   rw [← hpj] at hpr
   obtain ⟨u, huj⟩ : ∃ u, rr[j]? = some u := ⟨_, List.getElem?_eq_getElem hjl2⟩
   have hu1 : (rr.flatMap DRule.enc)[((j : Int)).toNat * 11 + 1]? = some (.int .i64 u.from_) := flat_get DRule.len rr j u 1 _ huj rfl
   have hu9 : (rr.flatMap DRule.enc)[((j : Int)).toNat * 11 + 9]? = some (.int .i64 u.save) := flat_get DRule.len rr j u 9 _ huj rfl
   have hu10 : (rr.flatMap DRule.enc)[((j : Int)).toNat * 11 + 10]? = some (.string u.letter) := flat_get DRule.len rr j u 10 _ huj rfl
   have hf0 := (hS.rule u (List.mem_of_getElem? huj)).f0
   have hf1 := (hS.rule u (List.mem_of_getElem? huj)).f1
   have hev := fun A3 c3 w' (hw : Bel w.heap.size w w') hA => evOn_spec A3 c3 rr j (u.from_ + y % 40) u w' (hG.up hw) hA huj hR.n hR.r
   repeat (first | refine und ?_ | (apply RL_pu; rfl; exact PuMeSt2) | (apply RD_Q; rfl; rfl; decide +kernel; rfl; rfl; exact QyMeSt2) | refine walk1 ?_ | (refine jg ?_; (try intro F); (first | (refine callE (fun w' _ => hpr w') ?_) | (refine bx ?_; intro bk) | (refine stA ?_)); first | refine ⟨_, EndsA, QFMeSt2, ?_⟩ | refine fin ?_) | (refine jn ?_; (try intro F); (first | (refine bx ?_; intro bk) | (refine stA ?_) | (apply Stp_pu; first | exact PuMeSt2 | exact PuA)); first | refine ⟨_, EndsA, QFMeSt2, ?_⟩ | refine fin ?_) | (apply RD_W; rfl; intro bk))
   cases hon : onR (leastD rr) u j (u.from_ + y % 40) with
   | none =>
    rw [hon] at hev
    simp only [evV, DEvent.enc, dEv0, Option.isSome] at hev
    repeat (first | refine und ?_ | refine walk ?_ | (refine jg ?_; (try intro F); (first | (refine callO (fun w' hw hO => hev A3 c3 w' hw (rowRd DRule.len (hO.of (by repeat' constructor)))) ?_) | (refine callE hwk ?_) | (refine bx ?_; intro bk) | (refine stA ?_)); refine fin ?_) | (refine jn ?_; (try intro F); (first | (refine bx ?_; intro bk) | (refine stA ?_) | (apply Stp_pu; exact PuA)); refine fin ?_) | (apply RD_W; rfl; intro bk))
    exact rtA
   | some v =>
    obtain ⟨hvE, hv1, hv2, hv3, hv4⟩ := hS.evF huj hon (by omega)
    have hin := fun A3 c3 w' (hw : Bel w.heap.size w w') hA => inst_spec A3 c3 rr v off w' (hG.up hw) hA hR (by omega) (by omega) (by omega)
    have hbf := fun A3 c3 w' (hw : Bel w.heap.size w w') hA => stBefore_spec A3 c3 rr v.nominal w' (hG.up hw) hA hR (by omega)
    have hni := hS.inst_near ho v
    have hst := step h2 j u huj v (u.from_ + y % 40) (by omega) hon
    have d1u := hst2 h2 u (List.mem_of_getElem? huj)
    have d2u := hbe2 h2 v.nominal
    rw [hon] at hev
    obtain ⟨ve, vr, vn⟩ := v
    simp only [evV, DEvent.enc, Option.isSome] at hev hin
    dsimp only at hbf d2u hst hni
    generalize befS rr vn = bb at *
    have kl1 := klc _ d1u
    have kl2 := klc _ d2u
    unfold stV at kl1 kl2 hbf
    dsimp only at kl1 kl2
    generalize instE rr ⟨ve, vr, vn⟩ off = T at *
    obtain ⟨La, hLa⟩ : ∃ La, localD (⟨off, kd, esv, sset, fm, ⟨ui, uy, um, ⟨ud1, ud2, ud3⟩, ⟨uc1, uc2⟩⟩⟩ : DEra) (u.save, u.letter) = La := ⟨_, rfl⟩
    obtain ⟨Lb, hLb⟩ : ∃ Lb, localD (⟨off, kd, esv, sset, fm, ⟨ui, uy, um, ⟨ud1, ud2, ud3⟩, ⟨uc1, uc2⟩⟩⟩ : DEra) bb = Lb := ⟨_, rfl⟩
    rw [hLa] at kl1 hst
    rw [hLb] at kl2 hst
    clear hLa hLb
    obtain ⟨w1, w2, w3⟩ := La
    obtain ⟨y1, y2, y3⟩ := Lb
    obtain ⟨bs, bl⟩ := bb
    simp only [DLocal.enc] at kl1 kl2
    dsimp only at kl1 kl2 hbf
    repeat (first | refine und ?_ | (apply RL_pu; rfl; exact PuMeSt3) | (apply RD_Q; rfl; rfl; decide +kernel; rfl; rfl; exact QyMeSt3) | refine walk1 ?_ | (refine jg ?_; (try intro F); (first | (refine callO (fun w' hw hO => hev A3 c3 w' hw (rowRd DRule.len (hO.of (by repeat' constructor)))) ?_) | (refine callO (fun w' hw hO => hin A3 c3 w' hw (rowRd DRule.len (hO.of (by repeat' constructor)))) ?_) | (refine bx ?_; intro bk) | (refine stA ?_)); first | refine ⟨_, EndsA, QFMeSt3, ?_⟩ | refine fin ?_) | (refine jn ?_; (try intro F); (first | (refine bx ?_; intro bk) | (refine stA ?_) | (apply Stp_pu; first | exact PuMeSt3 | exact PuA)); first | refine ⟨_, EndsA, QFMeSt3, ?_⟩ | refine fin ?_) | (apply RD_W; rfl; intro bk))
    rcases Int.lt_or_le x.start T with hT1 | hT1
    ·rw [show decide (T ≤ x.start) = false from decide_eq_false (by omega)]
     rcases Int.lt_or_le T x.fin with hT2 | hT2
     ·have d1 : decide (x.fin ≤ T) = false := decide_eq_false (by omega)
      obtain ⟨⟨t1, t2⟩, t3, t4⟩ := hst hT1 hT2
      have ka := hat T (tOk_iff.2 (by omega))
      have kb := hat (T - 1) (tOk_iff.2 (by omega))
      rw [t3] at ka
      rw [t4] at kb
      simp only [DLocal.enc] at ka kb
      have n0 : decide ((⟨w1, w2, w3⟩ : DLocal) = ⟨w1, w2, w3⟩) = true := decide_eq_true rfl
      have n3 : decide ((⟨y1, y2, y3⟩ : DLocal) = ⟨y1, y2, y3⟩) = true := decide_eq_true rfl
      have d0 : True := trivial
      repeat (first | refine und ?_ | (apply RL_pu; rfl; exact PuMeSt4) | (apply RD_Q; rfl; rfl; decide +kernel; rfl; rfl; exact QyMeSt4) | refine walk1 ?_ | (refine jg ?_; (try intro F); (first | (refine callO (fun w' hw hO => kl1 w' hw) ?_) | (refine callO (fun w' hw hO => kl2 w' hw) ?_) | (refine callO (fun w' hw hO => hbf A3 c3 w' hw (rowRd DRule.len (hO.of (by repeat' constructor)))) ?_) | (refine callO (fun w' hw hO => ka w' hw (src_rd hZ1 (hO.of (A := rowR R1 r1 _) (by repeat' constructor)) (hO.of (A := rowZ Z1 z1 _) (by repeat' constructor)) (hO.of (A := rowL L1 l1 _) (by repeat' constructor)) (hO.of (A := rowS H1 h1 _) (by repeat' constructor)) (hO.of (A := .fact S1 (ErasAt Zs1)) (by repeat' constructor)))) ?_) | (refine callO (fun w' hw hO => kb w' hw (src_rd hZ1 (hO.of (A := rowR R1 r1 _) (by repeat' constructor)) (hO.of (A := rowZ Z1 z1 _) (by repeat' constructor)) (hO.of (A := rowL L1 l1 _) (by repeat' constructor)) (hO.of (A := rowS H1 h1 _) (by repeat' constructor)) (hO.of (A := .fact S1 (ErasAt Zs1)) (by repeat' constructor)))) ?_) | (refine callE hwk ?_) | (refine bx ?_; intro bk) | (refine stA ?_)); first | refine ⟨_, EndsA, QFMeSt4, ?_⟩ | refine fin ?_) | (refine jn ?_; (try intro F); (first | (refine bx ?_; intro bk) | (refine stA ?_) | (apply Stp_pu; first | exact PuMeSt4 | exact PuA)); first | refine ⟨_, EndsA, QFMeSt4, ?_⟩ | refine fin ?_) | (apply RD_W; rfl; intro bk))
      exact rtA
     ·have d1 : decide (x.fin ≤ T) = true := decide_eq_true hT2
      repeat (first | refine und ?_ | (apply RL_pu; rfl; exact PuMeSt5) | (apply RD_Q; rfl; rfl; decide +kernel; rfl; rfl; exact QyMeSt5) | refine walk1 ?_ | (refine jg ?_; (try intro F); (first | (refine callE hwk ?_) | (refine bx ?_; intro bk) | (refine stA ?_)); first | refine ⟨_, EndsA, QFMeSt5, ?_⟩ | refine fin ?_) | (refine jn ?_; (try intro F); (first | (refine bx ?_; intro bk) | (refine stA ?_) | (apply Stp_pu; first | exact PuMeSt5 | exact PuA)); first | refine ⟨_, EndsA, QFMeSt5, ?_⟩ | refine fin ?_) | (apply RD_W; rfl; intro bk))
      exact rtA
    ·rw [show decide (T ≤ x.start) = true from decide_eq_true hT1]
     repeat (first | refine und ?_ | (apply RL_pu; rfl; exact PuMeSt3) | (apply RD_Q; rfl; rfl; decide +kernel; rfl; rfl; exact QyMeSt3) | refine walk1 ?_ | (refine jg ?_; (try intro F); (first | (refine callE hwk ?_) | (refine bx ?_; intro bk) | (refine stA ?_)); first | refine ⟨_, EndsA, QFMeSt3, ?_⟩ | refine fin ?_) | (refine jn ?_; (try intro F); (first | (refine bx ?_; intro bk) | (refine stA ?_) | (apply Stp_pu; first | exact PuMeSt3 | exact PuA)); first | refine ⟨_, EndsA, QFMeSt3, ?_⟩ | refine fin ?_) | (apply RD_W; rfl; intro bk))
     exact rtA
  ·have e6 : (!decide (kd = 2)) = true := by rw [decide_eq_false h2]; rfl
   rw [e6]
   have km := hat _ (kmt (.inr hk0))
   rw [kml h2] at km
   have klo := klo' h2
   obtain ⟨w1, w2, w3⟩ := L0
   simp only [DLocal.enc] at km klo
   have n0 : decide ((⟨w1, w2, w3⟩ : DLocal) = ⟨w1, w2, w3⟩) = true := decide_eq_true rfl
   repeat (first | refine und ?_ | (apply RL_pu; rfl; exact PuMeSt6) | (apply RD_Q; rfl; rfl; decide +kernel; rfl; rfl; exact QyMeSt6) | refine walk1 ?_ | (refine jg ?_; (try intro F); (first | (refine callO (fun w' hw hO => km w' hw (src_rd hZ1 (hO.of (A := rowR R1 r1 _) (by repeat' constructor)) (hO.of (A := rowZ Z1 z1 _) (by repeat' constructor)) (hO.of (A := rowL L1 l1 _) (by repeat' constructor)) (hO.of (A := rowS H1 h1 _) (by repeat' constructor)) (hO.of (A := .fact S1 (ErasAt Zs1)) (by repeat' constructor)))) ?_) | (refine callO (fun w' hw hO => klo w' hw) ?_) | (refine callE hwk ?_) | (refine bx ?_; intro bk) | (refine stA ?_)); first | refine ⟨_, EndsA, QFMeSt6, ?_⟩ | refine fin ?_) | (refine jn ?_; (try intro F); (first | (refine bx ?_; intro bk) | (refine stA ?_) | (apply Stp_pu; first | exact PuMeSt6 | exact PuA)); first | refine ⟨_, EndsA, QFMeSt6, ?_⟩ | refine fin ?_) | (apply RD_W; rfl; intro bk))
   exact rtA
 ·have hk0 : k = 0 := by have := of_decide_eq_false hc; omega
  have h2 : kd ≠ 2 := fun h => by have := hfr h; omega
  have e6 : (!decide (kd = 2)) = true := by rw [decide_eq_false h2]; rfl
  have km := hat _ (kmt (.inl hk0))
  rw [kml h2] at km
  have klo := klo' h2
  obtain ⟨w1, w2, w3⟩ := L0
  simp only [DLocal.enc] at km klo
  have n0 : decide ((⟨w1, w2, w3⟩ : DLocal) = ⟨w1, w2, w3⟩) = true := decide_eq_true rfl
  repeat (first | refine und ?_ | (apply RL_pu; rfl; exact PuMeSt6) | (apply RD_Q; rfl; rfl; decide +kernel; rfl; rfl; exact QyMeSt6) | refine walk1 ?_ | (refine jg ?_; (try intro F); (first | (apply Stp_call (h := fun w' hw hO => hof w' hw (src_rd hZ1 (hO.of (A := rowR R1 r1 _) (by repeat' constructor)) (hO.of (A := rowZ Z1 z1 _) (by repeat' constructor)) (hO.of (A := rowL L1 l1 _) (by repeat' constructor)) (hO.of (A := rowS H1 h1 _) (by repeat' constructor)) (hO.of (A := .fact S1 (ErasAt Zs1)) (by repeat' constructor)))); rfl; rintro v O' ⟨A3, c3, rfl, rfl⟩) | (refine callO (fun w' hw hO => km w' hw (src_rd hZ1 (hO.of (A := rowR R1 r1 _) (by repeat' constructor)) (hO.of (A := rowZ Z1 z1 _) (by repeat' constructor)) (hO.of (A := rowL L1 l1 _) (by repeat' constructor)) (hO.of (A := rowS H1 h1 _) (by repeat' constructor)) (hO.of (A := .fact S1 (ErasAt Zs1)) (by repeat' constructor)))) ?_) | (refine callO (fun w' hw hO => klo w' hw) ?_) | (refine callE hwk ?_) | (refine bx ?_; intro bk) | (refine stA ?_)); first | refine ⟨_, EndsA, QFMeSt6, ?_⟩ | refine fin ?_) | (refine jn ?_; (try intro F); (first | (refine bx ?_; intro bk) | (refine stA ?_) | (apply Stp_pu; first | exact PuMeSt6 | exact PuA)); first | refine ⟨_, EndsA, QFMeSt6, ?_⟩ | refine fin ?_) | (apply RD_W; rfl; intro bk))
  exact rtA
end Go.Proofs.YtonjepladadmhaaGreatDoor
