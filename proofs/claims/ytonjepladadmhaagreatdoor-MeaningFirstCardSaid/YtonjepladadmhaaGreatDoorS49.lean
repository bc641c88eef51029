/- Contract: analemmalaw26.MeaningFirst. -/
import Derived.Test.YtonjepladadmhaaGreatDoorS47
set_option maxHeartbeats 4000000
set_option linter.unusedVariables false
set_option linter.unusedSimpArgs false
namespace Go.Proofs.YtonjepladadmhaaGreatDoor
open Go Go.RowKit Go.Wk
attribute [local irreducible] W RL Does thenQ blockQ retQ Calls Pu Stp RD Qy Ay DoesIn made23
theorem spAll_head {rs : List DRule} {l : List DEra} {r : List DSpan} (h : spAll rs l = some r) {e : DEra} (he : l[0]? = some e) : ∃ x, r[0]? = some x ∧ x.start = -9223372036854775808 ∧ (x.fin = 9223372036854775807 ∨ (1 < l.length ∧ x.fin = endT e (ruEr rs e))) := by
 unfold spAll at h
 match l, h, he with
 | [a], h, he =>
  simp only [spGo, Option.some.injEq] at h
  subst h
  exact ⟨_, rfl, rfl, .inl rfl⟩
 | a :: b :: l, h, he =>
  cases he
  rw [spGo] at h
  by_cases hT : endT e (ruEr rs e) ≤ -9223372036854775808
  ·rw [if_pos hT] at h; cases h
  rw [if_neg hT] at h
  obtain ⟨r2, h2, rfl⟩ := Option.map_eq_some_iff.1 h
  exact ⟨_, rfl, rfl, .inr ⟨by simp, rfl⟩⟩
theorem DrEras.era0 {rs : List DRule} {l : List DEra} {Y : Nat → Int} (h : DrEras rs l Y) : eraAt rs l (-36028797018963968) = 0 := by
 obtain ⟨r, hr⟩ := h.sp
 obtain ⟨e, he⟩ : ∃ e, l[0]? = some e := ⟨_, List.getElem?_eq_getElem (by have := h.len; omega)⟩
 obtain ⟨x, hx, hs, hf⟩ := spAll_head hr he
 refine eraAt_uniq hr hx (by omega) ?_
 rcases hf with hf | ⟨hl, hf⟩
 ·omega
 ·have hT := h.til 0 e he
  rw [if_pos hl] at hT
  have hy := h.yr 0 hl
  obtain ⟨_, h1, _⟩ := (h.era 0 e he).un hT hy
  have hm : mar1 1850 ≤ mar1 (Y 0) := mar1_le hy.1
  have h5 : -50000 ≤ mar1 1850 := by decide
  omega
theorem DrEra.st_first {rs : List DRule} {e : DEra} (h : DrEra rs e true) (t : Int) : stateD rs e t = (e.save, ByteArray.empty) := by
 unfold stateD
 rcases h with ⟨h0, h1, _⟩ | ⟨h0, _⟩ | ⟨_, h0, _⟩
 ·rw [if_pos h0, h1]
 ·rw [if_neg (by omega), if_pos h0]
 ·cases h0
theorem PuMeF0 {G : Prop} (h : G := by (first | (apply Pu_eqlB; rfl; rfl; exact e0) | (apply Pu_indexAddrH; rfl; rfl; omega; omega; (intro w' _ hO; exact row_some (hO.of (A := .row (.slice An ns.length cn) 9 1 ns.length (ns.flatMap strEnc)) (by repeat' constructor)) (by omega))) | (apply Pu_loadR; rfl; (focus repeat' constructor); exact hx1) | (apply Pu_lssB; rfl; rfl; exact e1) | (apply Pu_geqB; rfl; rfl; first | exact e2 | exact c2 | exact c5) | (apply Pu_leqB; rfl; rfl; first | exact c3 | exact c6) | (apply Pu_eqlB; rfl; rfl; first | exact e4 | exact c1) | (apply Pu_neqB'; rfl; rfl; exact c4) | (apply Pu_neEB (i := (⟨w1, w2, w3⟩ : DLocal)) (j := ⟨w1, w2, w3⟩) (enc := DLocal.enc); rfl; rfl; exact n0) | (apply Pu_neEB (i := (⟨y1, y2, y3⟩ : DLocal)) (j := ⟨y1, y2, y3⟩) (enc := DLocal.enc); rfl; rfl; exact n1) | (apply Pu_indexAddrH; rfl; rfl; omega; omega; (intro w' _ hO; exact row_some (hO.of (A := rowZ Z1 z1 Zs1) (by repeat' constructor)) (by omega))) | (apply Pu_loadRF; rfl; (focus repeat' constructor); exact hz1) | (apply Pu_loadRF; rfl; (focus repeat' constructor); exact hz0) | (apply Pu_indexAddrH; rfl; rfl; omega; omega; (intro w' _ hO; exact (((fact_at (S := S1) (p := ErasAt Zs1) (hO.of (by repeat' constructor))) q hm1).rd 0 _ hek).1)) | (apply Pu_loadN (cs := [.int .i64 off, .int .i64 kd, .int .i64 esv, .string sset, .string fm, .bool ui, .int .i64 uy, .int .i64 um, .int .i64 ud1, .int .i64 ud2, .int .i64 ud3, .int .i64 uc1, .int .i64 uc2]); rfl; rfl; (intro w' _ hO; exact (((fact_at (S := S1) (p := ErasAt Zs1) (hO.of (by repeat' constructor))) q hm1).rd 0 _ hek).2)) | (apply Pu_castY; (apply Pu_neqB; rfl; rfl); exact congrArg Value.bool b5))) : G := h
theorem QyMeF0 {G : Prop} (h : G := by first | (apply Qy_y; rfl; exact PuMeF0) | exact QyA) : G := h
theorem QFMeF0 {G : Prop} (h : G := by repeat (first | exact QF.nil | (apply QF.mk; rfl; rfl; decide +kernel; exact QyMeF0))) : G := h
theorem wkMeF0 {G G' : Prop} (k : G') (h : Hold G' → G := by intro k9; (first | refine und ?_ | (apply RL_pu; rfl; exact PuMeF0) | (apply RD_Q; rfl; rfl; decide +kernel; rfl; rfl; exact QyMeF0) | refine walk1 ?_ | (refine jg ?_; (try intro F); (first | (refine callE (fun w' _ => hpk w') ?_) | (refine callO (fun w' hw hO => fiT26 R1 Z1 L1 H1 r1 z1 l1 h1 s x i w' (src_rd hZ1 (hO.of (A := rowR R1 r1 _) (by repeat' constructor)) (hO.of (A := rowZ Z1 z1 _) (by repeat' constructor)) (hO.of (A := rowL L1 l1 _) (by repeat' constructor)) (hO.of (A := rowS H1 h1 _) (by repeat' constructor)) (hO.of (A := .fact S1 (ErasAt Zs1)) (by repeat' constructor))) (by omega) hf2 hf1) ?_) | (refine callO (fun w' hw hO => ka0 w' hw (src_rd hZ1 (hO.of (A := rowR R1 r1 _) (by repeat' constructor)) (hO.of (A := rowZ Z1 z1 _) (by repeat' constructor)) (hO.of (A := rowL L1 l1 _) (by repeat' constructor)) (hO.of (A := rowS H1 h1 _) (by repeat' constructor)) (hO.of (A := .fact S1 (ErasAt Zs1)) (by repeat' constructor)))) ?_) | (refine callO (fun w' hw hO => kf0 w' hw (src_rd hZ1 (hO.of (A := rowR R1 r1 _) (by repeat' constructor)) (hO.of (A := rowZ Z1 z1 _) (by repeat' constructor)) (hO.of (A := rowL L1 l1 _) (by repeat' constructor)) (hO.of (A := rowS H1 h1 _) (by repeat' constructor)) (hO.of (A := .fact S1 (ErasAt Zs1)) (by repeat' constructor)))) ?_) | (refine callO (fun w' hw hO => ke0 w' hw (src_rd hZ1 (hO.of (A := rowR R1 r1 _) (by repeat' constructor)) (hO.of (A := rowZ Z1 z1 _) (by repeat' constructor)) (hO.of (A := rowL L1 l1 _) (by repeat' constructor)) (hO.of (A := rowS H1 h1 _) (by repeat' constructor)) (hO.of (A := .fact S1 (ErasAt Zs1)) (by repeat' constructor)))) ?_) | (refine callO (fun w' hw hO => kat w' hw (src_rd hZ1 (hO.of (A := rowR R1 r1 _) (by repeat' constructor)) (hO.of (A := rowZ Z1 z1 _) (by repeat' constructor)) (hO.of (A := rowL L1 l1 _) (by repeat' constructor)) (hO.of (A := rowS H1 h1 _) (by repeat' constructor)) (hO.of (A := .fact S1 (ErasAt Zs1)) (by repeat' constructor)))) ?_) | (refine callO (fun w' hw hO => kaz w' hw (src_rd hZ1 (hO.of (A := rowR R1 r1 _) (by repeat' constructor)) (hO.of (A := rowZ Z1 z1 _) (by repeat' constructor)) (hO.of (A := rowL L1 l1 _) (by repeat' constructor)) (hO.of (A := rowS H1 h1 _) (by repeat' constructor)) (hO.of (A := .fact S1 (ErasAt Zs1)) (by repeat' constructor)))) ?_) | (refine callO (fun w' hw hO => klo w' hw) ?_) | (refine callE hwk ?_) | (refine stA ?_)); first | refine ⟨_, EndsA, QFMeF0, ?_⟩ | refine fin ?_) | (refine jn ?_; (try intro F); (first | (refine stA ?_) | (apply Stp_pu; first | exact PuMeF0 | exact PuA)); first | refine ⟨_, EndsA, QFMeF0, ?_⟩ | refine fin ?_)); exact k9.out) : G := h ⟨k⟩
set_option maxHeartbeats 8000000 in
set_option maxRecDepth 20000 in
theorem meaningFirst_spec (As Az Al : Option Addr) (cs cz cl : Nat) (d : DD23) (which t : Int) (w : World) (hL : LibW w) (hG : Glob w) (hM : MeG w) (hS : RdLL w As cs byEnc 1 d.sets) (hZ : RdLL w Az cz E23.enc 8 d.zones) (hD : RdSl w Al cl byEnc 1 d.links) (hrs : ∀ l ∈ d.sets, ∀ x ∈ l, inR .u8 x) (hrz : ∀ l ∈ d.zones, ∀ x ∈ l, x.ok) (hrl : ∀ x ∈ d.links, inR .u8 x) (hwh : inR .u8 which) :
  Does Tryz.prog 10 [d23V As Az Al cs cz cl d, .int .u8 which, .int .i64 t] w (fun v O => v = .bool true ∧ O = []) := by
 have hwk := fun w' (hw : Bel w.heap.size w w') => works26_spec w' (hL.up hw) (hG.up hw) (hM.up hw)
 have hmk := fun w' (hw : Bel w.heap.size w w') => (made23_spec As Az Al cs cz cl d w' (hS.up hw) (hZ.up hw) (hD.up hw) hrs hrz hrl).monoO fun _ _ h => newSrc_of h
 have hm := mn23 d
 have hsm := made23_sml d
 have hzs := made23_zones d
 have h12 := n12_23 d
 have hnm := fun {x} => nm23 d (x := x)
 have hnz : 1 ≤ (made23 d).zones.length := by
  rw [made23_nz]
  exact (zl23_len d.zones).1
 generalize made23 d = s at *
 rw [inR_u8] at hwh
 have hzl : s.zones.length ≤ 100 := hsm.nz
 refine Does_of_W Tryz.func10 rfl rfl rfl rfl ?_
 repeat (first | refine und ?_ | refine walk ?_ | (refine jg ?_; (try intro F); (first | (apply Stp_call (h := fun w' hw _ => hmk w' hw); rfl; rintro v O' ⟨R1, r1, Z1, z1, L1, l1, H1, h1, Zs1, S1, rfl, hZ1, rfl⟩) | (apply Stp_call (h := fun w' hw hO => linkNames_spec R1 Z1 L1 H1 r1 z1 l1 h1 s w' (src_rd hZ1 (hO.of (A := rowR R1 r1 _) (by repeat' constructor)) (hO.of (A := rowZ Z1 z1 _) (by repeat' constructor)) (hO.of (A := rowL L1 l1 _) (by repeat' constructor)) (hO.of (A := rowS H1 h1 _) (by repeat' constructor)) (hO.of (A := .fact S1 (ErasAt Zs1)) (by repeat' constructor))) h12); rfl; rintro v O' ⟨An, cn, ns, hns, rfl, rfl⟩) | (refine bx ?_; intro bk) | (refine stA ?_)); refine fin ?_) | (refine jn ?_; (try intro F); (first | (refine bx ?_; intro bk) | (refine stA ?_) | (apply Stp_pu; exact PuA)); refine fin ?_) | (apply RD_W; rfl; intro bk))
 generalize bk = b7
 have hnl : 0 < ns.length := by
  obtain ⟨z, hz⟩ : ∃ z, s.zones[0]? = some z := ⟨_, List.getElem?_eq_getElem (by omega)⟩
  exact List.length_pos_of_mem ((hns.2 z.name).2 (.inl (List.mem_map.2 ⟨z, List.mem_of_getElem? hz, rfl⟩)))
 rw [show decide ((ns.length : Int) = 0) = false from decide_eq_false (by omega)]
 have e0 : decide ((s.zones.length : Int) = 0) = false := decide_eq_false (by omega)
 clear hmk hS hZ hD
 obtain ⟨m, hpm, hm2⟩ := emod_nat which ns.length hnl
 obtain ⟨x, hx⟩ : ∃ x, ns[m]? = some x := ⟨_, List.getElem?_eq_getElem hm2⟩
 have hx1 : (ns.flatMap strEnc)[((m : Int)).toNat * 1]? = some (.string x) := flat_get strEnc.len ns m _ 0 _ hx rfl
 obtain ⟨i, z, hzd, hz, hf1, hf2⟩ := hnm ((hns.2 x).1 (List.mem_of_getElem? hx))
 obtain ⟨Y, hY⟩ := hzs z (List.mem_of_getElem? hz)
 have hil : i < s.zones.length := (List.getElem?_eq_some_iff.1 hz).1
 have hzm := List.mem_of_getElem? hz
 have hzz := zoneD_zone hm.acc hz
 have htk : tOk (-36028797018963968) = true := by decide
 have hlen := hY.len
 have her0 := hY.era0
 obtain ⟨e, hek⟩ : ∃ e, z.eras[0]? = some e := ⟨_, List.getElem?_eq_getElem (by omega)⟩
 have hd : z.eras.getD 0 dE0 = e := by rw [List.getD_eq_getElem?_getD, hek]; rfl
 have hE : DrEra s.rules e true := hY.era 0 e hek
 have ka0 := fun w' (hw : Bel w.heap.size w w') (hA : RdSource w' R1 Z1 L1 H1 r1 z1 l1 h1 s) => mAt R1 Z1 L1 H1 r1 z1 l1 h1 s x (-36028797018963968) w' (hsm.acc (hL.up hw) (hG.up hw) hA) (hM.up hw) (by omega) hm htk hzd hz
 have ke0 := fun w' (hw : Bel w.heap.size w w') (hA : RdSource w' R1 Z1 L1 H1 r1 z1 l1 h1 s) => mEra R1 Z1 L1 H1 r1 z1 l1 h1 s x (-36028797018963968) w' (hsm.acc (hL.up hw) (hG.up hw) hA) (by omega) hm htk hzd hz
 have kf0 := fun w' (hw : Bel w.heap.size w w') (hA : RdSource w' R1 Z1 L1 H1 r1 z1 l1 h1 s) => mFirst R1 Z1 L1 H1 r1 z1 l1 h1 s x w' (hsm.acc (hL.up hw) (hG.up hw) hA) (hM.up hw) (by omega) hm hzd hz hek
 unfold locAt at ka0
 rw [her0] at ka0 ke0
 rw [hd, hE.st_first] at ka0
 rw [hE.st_first] at kf0
 have hst : DrSt e (e.save, ByteArray.empty) := by have := hE.state 0; rwa [hE.st_first] at this
 have hof := hE.st0.1
 have klo := fun w' (hw : Bel w.heap.size w w') => local26l_spec e (e.save, ByteArray.empty) w' (hL.up hw) (fmtU_sz hE.fmt) hst (by dsimp only at hof; omega) (abbr_dr hE.fmt hst).1
 unfold stV at klo
 obtain ⟨y, er, kat, kaz, hyb, hcase⟩ : ∃ (y : DLocal) (er : Int), (∀ w', Bel w.heap.size w w' → RdSource w' R1 Z1 L1 H1 r1 z1 l1 h1 s → Does Tryz.prog 34 [srcV R1 Z1 L1 H1 r1 z1 l1 h1 s, .string x, .int .i64 t] w' (fun v O => v = .tuple #[.agg y.enc.toArray, .int .i64 er] ∧ O = [])) ∧
   (∀ w', Bel w.heap.size w w' → RdSource w' R1 Z1 L1 H1 r1 z1 l1 h1 s → Does Tryz.prog 34 [srcV R1 Z1 L1 H1 r1 z1 l1 h1 s, .string z.name, .int .i64 t] w' (fun v O => v = .tuple #[.agg y.enc.toArray, .int .i64 er] ∧ O = [])) ∧ (-54000 ≤ y.off ∧ y.off ≤ 54000) ∧
   ((er = 0 ∧ -36028797018963968 ≤ t ∧ t ≤ 36028797018963968) ∨ (er = 3 ∧ t < -36028797018963968) ∨ (er = 3 ∧ -36028797018963968 ≤ t ∧ 36028797018963968 < t)) := by
  cases htt : tOk t with
  | true =>
   have htb := tOk_iff.1 htt
   obtain ⟨r, hr⟩ := hm.sp z hzm
   obtain ⟨_, hkl, _⟩ := sp_find hr (hm.ne z hzm) (t := t) (by omega) (by omega)
   obtain ⟨f, hf, hfd⟩ := getD_of (d := dE0) hkl
   refine ⟨_, 0, fun w' hw hA => mAt R1 Z1 L1 H1 r1 z1 l1 h1 s x t w' (hsm.acc (hL.up hw) (hG.up hw) hA) (hM.up hw) (by omega) hm htt hzd hz, fun w' hw hA => mAt R1 Z1 L1 H1 r1 z1 l1 h1 s z.name t w' (hsm.acc (hL.up hw) (hG.up hw) hA) (hM.up hw) (by omega) hm htt hzz hz, ?_, .inl ⟨rfl, htb⟩⟩
   unfold locAt
   rw [hfd]
   exact ((hY.era _ f hf).state t).1
  | false =>
   refine ⟨lc0, 3, fun w' hw hA => mAtFar R1 Z1 L1 H1 r1 z1 l1 h1 s x t w' htt, fun w' hw hA => mAtFar R1 Z1 L1 H1 r1 z1 l1 h1 s z.name t w' htt, by decide, .inr ?_⟩
   by_cases h1 : t < -36028797018963968
   ·exact .inl ⟨rfl, h1⟩
   ·refine .inr ⟨rfl, by omega, Int.not_le.1 fun h2 => ?_⟩
    rw [tOk_iff.2 ⟨by omega, h2⟩] at htt
    cases htt
 generalize localD e (e.save, ByteArray.empty) = L0 at *
 have n0 : (!decide (L0 = L0)) = false := by rw [decide_eq_true rfl]; rfl
 have n1 : (!decide (y = y)) = false := by rw [decide_eq_true rfl]; rfl
 have e1 : decide ((i : Int) < 0) = false := decide_eq_false (by omega)
 have e2 : decide ((s.zones.length : Int) ≤ (i : Int)) = false := decide_eq_false (by omega)
 have c4 : (!decide (er = er)) = false := by rw [decide_eq_true rfl]; rfl
 have c5 : decide (-54000 ≤ y.off) = true := decide_eq_true hyb.1
 have c6 : decide (y.off ≤ 54000) = true := decide_eq_true hyb.2
 obtain ⟨q, hq, hqe⟩ := ze_at26 hZ1 hz
 subst hqe
 have hm1 : q ∈ Zs1 := List.mem_of_getElem? hq
 have hjl : i < Zs1.length := (List.getElem?_eq_some_iff.1 hq).1
 have hz1 : (Zs1.flatMap ZE.enc)[((i : Int)).toNat * 2 + 1]? = some (.slice q.A q.z.eras.length q.c) := flat_get ZE.len Zs1 i q 1 _ hq rfl
 have hz0 : (Zs1.flatMap ZE.enc)[((i : Int)).toNat * 2 + 0]? = some (.string q.z.name) := flat_get ZE.len Zs1 i q 0 _ hq rfl
 have hpk := fun w' => pick26_spec which ns.length hwh (Int.natCast_nonneg _) w'
 rw [← hpm] at hpk
 clear hst hof hE her0 hd hzs hnm hm hzz hns hpm
 obtain ⟨off, kd, esv, sset, fm, ⟨ui, uy, um, ⟨ud1, ud2, ud3⟩, ⟨uc1, uc2⟩⟩⟩ := e
 obtain ⟨y1, y2, y3⟩ := y
 obtain ⟨w1, w2, w3⟩ := L0
 dsimp only at c5 c6 hyb
 simp only [DLocal.enc, DEra.enc] at kat kaz ka0 kf0 klo
 have e4 : decide ((s.zones.length : Int) = 0) = false := e0
 rcases hcase with ⟨rfl, hh1, hh2⟩ | ⟨rfl, hh1⟩ | ⟨rfl, hh1, hh2⟩
 ·have c2 : decide (-36028797018963968 ≤ t) = true := decide_eq_true hh1
  have c3 : decide (t ≤ 36028797018963968) = true := decide_eq_true hh2
  have c1 : decide ((0 : Int) = 0) = true := rfl
  have b5 : (!(true == true)) = false := rfl
  repeat (first | refine wkMeF0 ?_ | (refine jg ?_; (try intro F); (refine bx ?_; intro bk); first | refine ⟨_, EndsA, QFMeF0, ?_⟩ | refine fin ?_) | (refine jn ?_; (try intro F); (refine bx ?_; intro bk); first | refine ⟨_, EndsA, QFMeF0, ?_⟩ | refine fin ?_) | (apply RD_W; rfl; intro bk))
  exact rtA
 ·have c2 : decide (-36028797018963968 ≤ t) = false := decide_eq_false (by omega)
  have c1 : decide ((3 : Int) = 0) = false := rfl
  have b5 : (!(false == false)) = false := rfl
  repeat (first | refine wkMeF0 ?_ | (refine jg ?_; (try intro F); (refine bx ?_; intro bk); first | refine ⟨_, EndsA, QFMeF0, ?_⟩ | refine fin ?_) | (refine jn ?_; (try intro F); (refine bx ?_; intro bk); first | refine ⟨_, EndsA, QFMeF0, ?_⟩ | refine fin ?_) | (apply RD_W; rfl; intro bk))
  exact rtA
 ·have c2 : decide (-36028797018963968 ≤ t) = true := decide_eq_true hh1
  have c3 : decide (t ≤ 36028797018963968) = false := decide_eq_false (by omega)
  have c1 : decide ((3 : Int) = 0) = false := rfl
  have b5 : (!(false == false)) = false := rfl
  repeat (first | refine wkMeF0 ?_ | (refine jg ?_; (try intro F); (refine bx ?_; intro bk); first | refine ⟨_, EndsA, QFMeF0, ?_⟩ | refine fin ?_) | (refine jn ?_; (try intro F); (refine bx ?_; intro bk); first | refine ⟨_, EndsA, QFMeF0, ?_⟩ | refine fin ?_) | (apply RD_W; rfl; intro bk))
  exact rtA
end Go.Proofs.YtonjepladadmhaaGreatDoor
