/- Contract: analemmalaw26.MeaningSaves. -/
import Derived.Test.YtonjepladadmhaaGreatDoorS39
import Derived.Test.YtonjepladadmhaaGreatDoorS40
import Derived.Test.YtonjepladadmhaaGreatDoorS46
set_option maxHeartbeats 4000000
set_option linter.unusedVariables false
set_option linter.unusedSimpArgs false
namespace Go.Proofs.YtonjepladadmhaaGreatDoor
open Go Go.RowKit Go.Wk
attribute [local irreducible] W RL Does thenQ blockQ retQ Calls Pu Stp RD Qy Ay DoesIn made23
theorem fiT26 (Ar Az Al As : Option Addr) (cr cz cl cs : Nat) (a : DSource) (x : ByteArray) (i : Nat) (w : World) (hA : RdSource w Ar Az Al As cr cz cl cs a) (hn : a.zones.length + a.links.length ≤ 1000000) (h : (followD a (a.links.length + 1) [] x).2 = 0) (hi : (followD a (a.links.length + 1) [] x).1 = i) :
  Does Tryz.prog 39 [srcV Ar Az Al As cr cz cl cs a, .string x] w (fun v O => v = .tuple #[.int .i64 i, .int .i64 0] ∧ O = []) := by
 have := lfind_spec Ar Az Al As cr cz cl cs a x w hA hn
 rwa [h, hi] at this
theorem PuMeS0 {G : Prop} (h : G := by (first | (apply Pu_minK; rfl; rfl; exact ht1) | (apply Pu_maxK; rfl; rfl; exact ht2) | (apply Pu_indexAddrH; rfl; rfl; omega; omega; (intro w' _ hO; exact row_some (hO.of (A := .row (.slice An ns.length cn) 9 1 ns.length (ns.flatMap strEnc)) (by repeat' constructor)) (by omega))) | (apply Pu_loadR; rfl; (focus repeat' constructor); exact hx1) | (apply Pu_lssB; rfl; rfl; first | exact e1 | exact e3) | (apply Pu_geqB; rfl; rfl; first | exact e2 | exact e4) | (apply Pu_indexAddrH; rfl; rfl; omega; omega; (intro w' _ hO; exact row_some (hO.of (A := rowZ Z1 z1 Zs1) (by repeat' constructor)) (by omega))) | (apply Pu_loadRF; rfl; (focus repeat' constructor); exact hz1) | (apply Pu_indexAddrH; rfl; rfl; omega; omega; (intro w' _ hO; exact (((fact_at (S := S1) (p := ErasAt Zs1) (hO.of (by repeat' constructor))) q hm1).rd k _ hek).1)) | (apply Pu_load1; rfl; (intro w' _ hO; exact (((fact_at (S := S1) (p := ErasAt Zs1) (hO.of (by repeat' constructor))) q hm1).rd k _ hek).2 0 (.int .i64 e.off) rfl)) | (apply Pu_castY; (apply Pu_eqB; rfl; rfl); exact congrArg Value.bool b5) | (apply Pu_castY; (apply Pu_neqS; rfl; rfl); exact congrArg Value.bool b6))) : G := h
theorem QyMeS0 {G : Prop} (h : G := by first | (apply Qy_y; rfl; exact PuMeS0) | exact QyA) : G := h
theorem QFMeS0 {G : Prop} (h : G := by repeat (first | exact QF.nil | (apply QF.mk; rfl; rfl; decide +kernel; exact QyMeS0))) : G := h
set_option maxHeartbeats 8000000 in
theorem meaningSaves_spec (As Az Al : Option Addr) (cs cz cl : Nat) (d : DD23) (which t : Int) (w : World) (hL : LibW w) (hG : Glob w) (hM : MeG w) (hS : RdLL w As cs byEnc 1 d.sets) (hZ : RdLL w Az cz E23.enc 8 d.zones) (hD : RdSl w Al cl byEnc 1 d.links) (hrs : ∀ l ∈ d.sets, ∀ x ∈ l, inR .u8 x) (hrz : ∀ l ∈ d.zones, ∀ x ∈ l, x.ok) (hrl : ∀ x ∈ d.links, inR .u8 x) (hwh : inR .u8 which) :
  Does Tryz.prog 11 [d23V As Az Al cs cz cl d, .int .u8 which, .int .i64 t] w (fun v O => v = .bool true ∧ O = []) := by
 have hwk := fun w' (hw : Bel w.heap.size w w') => works26_spec w' (hL.up hw) (hG.up hw) (hM.up hw)
 have hmk := fun w' (hw : Bel w.heap.size w w') => (made23_spec As Az Al cs cz cl d w' (hS.up hw) (hZ.up hw) (hD.up hw) hrs hrz hrl).monoO fun _ _ h => newSrc_of h
 have hm := mn23 d
 have hsm := made23_sml d
 have hzs := made23_zones d
 have h12 := n12_23 d
 have hnm := fun {x} => nm23 d (x := x)
 have hnz : 1 ≤ (made23 d).zones.length := by
  rw [made23_nz]
  exact (zl23_len d.zones).1
 generalize made23 d = s at *
 rw [inR_u8] at hwh
 have hzl : s.zones.length ≤ 100 := hsm.nz
 obtain ⟨t1, ht1⟩ : ∃ t1, (if (36028797018963968 : Int) < t then 36028797018963968 else t) = t1 := ⟨_, rfl⟩
 obtain ⟨t2, ht2⟩ : ∃ t2, (if (-36028797018963968 : Int) < t1 then t1 else -36028797018963968) = t2 := ⟨_, rfl⟩
 have ht1b : t1 ≤ 36028797018963968 := by rw [← ht1]; split <;> omega
 have htk : tOk t2 = true := tOk_iff.2 (by rw [← ht2]; split <;> omega)
 refine Does_of_W Tryz.func11 rfl rfl rfl rfl ?_
 repeat (first | refine walk ?_ | (refine jg ?_; (try intro F); (first | (apply Stp_call (h := fun w' hw _ => hmk w' hw); rfl; rintro v O' ⟨R1, r1, Z1, z1, L1, l1, H1, h1, Zs1, S1, rfl, hZ1, rfl⟩) | (apply Stp_call (h := fun w' hw hO => linkNames_spec R1 Z1 L1 H1 r1 z1 l1 h1 s w' (src_rd hZ1 (hO.of (A := rowR R1 r1 _) (by repeat' constructor)) (hO.of (A := rowZ Z1 z1 _) (by repeat' constructor)) (hO.of (A := rowL L1 l1 _) (by repeat' constructor)) (hO.of (A := rowS H1 h1 _) (by repeat' constructor)) (hO.of (A := .fact S1 (ErasAt Zs1)) (by repeat' constructor))) h12); rfl; rintro v O' ⟨An, cn, ns, hns, rfl, rfl⟩) | (refine bx ?_; intro bk) | (refine stA ?_)); refine fin ?_) | (refine jn ?_; (try intro F); (first | (refine bx ?_; intro bk) | (refine stA ?_) | (apply Stp_pu; exact PuA)); refine fin ?_) | (apply RD_W; rfl; intro bk))
 generalize bk = b7
 have hnl : 0 < ns.length := by
  obtain ⟨z, hz⟩ : ∃ z, s.zones[0]? = some z := ⟨_, List.getElem?_eq_getElem (by omega)⟩
  exact List.length_pos_of_mem ((hns.2 z.name).2 (.inl (List.mem_map.2 ⟨z, List.mem_of_getElem? hz, rfl⟩)))
 refine W_cond rfl (fun h => ?_) (fun h => ?_)
 ·exfalso; have := of_decide_eq_true h; omega
 clear h hmk hS hZ hD
 obtain ⟨m, hpm, hm2⟩ := emod_nat which ns.length hnl
 obtain ⟨x, hx⟩ : ∃ x, ns[m]? = some x := ⟨_, List.getElem?_eq_getElem hm2⟩
 have hx1 : (ns.flatMap strEnc)[((m : Int)).toNat * 1]? = some (.string x) := flat_get strEnc.len ns m _ 0 _ hx rfl
 obtain ⟨i, z, hzd, hz, hf1, hf2⟩ := hnm ((hns.2 x).1 (List.mem_of_getElem? hx))
 obtain ⟨Y, hY⟩ := hzs z (List.mem_of_getElem? hz)
 have hil : i < s.zones.length := (List.getElem?_eq_some_iff.1 hz).1
 have hzm := List.mem_of_getElem? hz
 have htb := tOk_iff.1 htk
 obtain ⟨r, hr⟩ := hm.sp z hzm
 obtain ⟨_, hkl, _⟩ := sp_find hr (hm.ne z hzm) (t := t2) (by omega) (by omega)
 have kat := fun R1 Z1 L1 H1 r1 z1 l1 h1 w' (hw : Bel w.heap.size w w') (hA : RdSource w' R1 Z1 L1 H1 r1 z1 l1 h1 s) => mAt R1 Z1 L1 H1 r1 z1 l1 h1 s x t2 w' (hsm.acc (hL.up hw) (hG.up hw) hA) (hM.up hw) (by omega) hm htk hzd hz
 have ker := fun R1 Z1 L1 H1 r1 z1 l1 h1 w' (hw : Bel w.heap.size w w') (hA : RdSource w' R1 Z1 L1 H1 r1 z1 l1 h1 s) => mEra R1 Z1 L1 H1 r1 z1 l1 h1 s x t2 w' (hsm.acc (hL.up hw) (hG.up hw) hA) (by omega) hm htk hzd hz
 unfold locAt at kat
 generalize eraAt s.rules z.eras t2 = k at *
 obtain ⟨e, hek, hd⟩ := getD_of (d := dE0) hkl
 rw [hd] at kat
 have hst := (hY.era k e hek).state t2
 have hab := abbr_dr (hY.era k e hek).fmt hst
 generalize stateD s.rules e t2 = sd at *
 obtain ⟨xs, xl⟩ := sd
 unfold localD at kat
 dsimp only at kat hab
 generalize abbrE e xs xl = ab at *
 simp only [DLocal.enc] at kat
 have b5 : ((!decide (xs = 0)) == !decide (e.off + xs = e.off)) = true := by
  by_cases h : xs = 0
  ·rw [decide_eq_true h, decide_eq_true (by omega)]; rfl
  ·rw [decide_eq_false h, decide_eq_false (by omega)]; rfl
 have b6 : (!decide (ab = ByteArray.empty)) = true := by rw [decide_eq_false hab.2]; rfl
 have e1 : decide ((i : Int) < 0) = false := decide_eq_false (by omega)
 have e2 : decide ((s.zones.length : Int) ≤ (i : Int)) = false := decide_eq_false (by omega)
 have e3 : decide ((k : Int) < 0) = false := decide_eq_false (by omega)
 have e4 : decide ((z.eras.length : Int) ≤ (k : Int)) = false := decide_eq_false (by omega)
 obtain ⟨q, hq, hqe⟩ := ze_at26 hZ1 hz
 subst hqe
 have hm1 : q ∈ Zs1 := List.mem_of_getElem? hq
 have hjl : i < Zs1.length := (List.getElem?_eq_some_iff.1 hq).1
 have hz1 : (Zs1.flatMap ZE.enc)[((i : Int)).toNat * 2 + 1]? = some (.slice q.A q.z.eras.length q.c) := flat_get ZE.len Zs1 i q 1 _ hq rfl
 have hpk := fun w' => pick26_spec which ns.length hwh (Int.natCast_nonneg _) w'
 rw [← hpm] at hpk
 repeat (first | refine und ?_ | (apply RL_pu; rfl; exact PuMeS0) | (apply RD_Q; rfl; rfl; decide +kernel; rfl; rfl; exact QyMeS0) | refine walk1 ?_ | (refine jg ?_; (try intro F); (first | (refine callE (fun w' _ => hpk w') ?_) | (refine callO (fun w' hw hO => fiT26 R1 Z1 L1 H1 r1 z1 l1 h1 s x i w' (src_rd hZ1 (hO.of (A := rowR R1 r1 _) (by repeat' constructor)) (hO.of (A := rowZ Z1 z1 _) (by repeat' constructor)) (hO.of (A := rowL L1 l1 _) (by repeat' constructor)) (hO.of (A := rowS H1 h1 _) (by repeat' constructor)) (hO.of (A := .fact S1 (ErasAt Zs1)) (by repeat' constructor))) (by omega) hf2 hf1) ?_) | (refine callO (fun w' hw hO => kat R1 Z1 L1 H1 r1 z1 l1 h1 w' hw (src_rd hZ1 (hO.of (A := rowR R1 r1 _) (by repeat' constructor)) (hO.of (A := rowZ Z1 z1 _) (by repeat' constructor)) (hO.of (A := rowL L1 l1 _) (by repeat' constructor)) (hO.of (A := rowS H1 h1 _) (by repeat' constructor)) (hO.of (A := .fact S1 (ErasAt Zs1)) (by repeat' constructor)))) ?_) | (refine callO (fun w' hw hO => ker R1 Z1 L1 H1 r1 z1 l1 h1 w' hw (src_rd hZ1 (hO.of (A := rowR R1 r1 _) (by repeat' constructor)) (hO.of (A := rowZ Z1 z1 _) (by repeat' constructor)) (hO.of (A := rowL L1 l1 _) (by repeat' constructor)) (hO.of (A := rowS H1 h1 _) (by repeat' constructor)) (hO.of (A := .fact S1 (ErasAt Zs1)) (by repeat' constructor)))) ?_) | (refine callE hwk ?_) | (refine bx ?_; intro bk) | (refine stA ?_)); first | refine ⟨_, EndsA, QFMeS0, ?_⟩ | refine fin ?_) | (refine jn ?_; (try intro F); (first | (refine bx ?_; intro bk) | (refine stA ?_) | (apply Stp_pu; first | exact PuMeS0 | exact PuA)); first | refine ⟨_, EndsA, QFMeS0, ?_⟩ | refine fin ?_) | (apply RD_W; rfl; intro bk))
 exact rtA
end Go.Proofs.YtonjepladadmhaaGreatDoor
