/- Contract: analemmalaw38.FooterYears. -/
import Derived.Test.YtonjepladadmhaaGreatDoorQ41
import Derived.Test.YtonjepladadmhaaGreatDoorQ42
import Derived.Test.YtonjepladadmhaaGreatDoorQ37
import Derived.Test.YtonjepladadmhaaGreatDoorQ30
set_option maxHeartbeats 4000000
set_option linter.unusedVariables false
set_option linter.unusedSimpArgs false
namespace Go.Proofs.YtonjepladadmhaaGreatDoor
open Go Go.RowKit Go.Wk
attribute [local irreducible] W RL Does thenQ blockQ retQ Calls Pu Stp RD Qy Ay DoesIn made23
theorem ze_at23 {Zs : List ZE} {zs : List DZone} (h : Zs.map ZE.z = zs) {j : Nat} {z : DZone} (hg : zs[j]? = some z) : ∃ q, Zs[j]? = some q ∧ q.z = z := by
 subst h
 rw [List.getElem?_map] at hg
 cases hq : Zs[j]? with
 | none => rw [hq] at hg; cases hg
 | some q =>
  rw [hq] at hg
  exact ⟨q, rfl, Option.some.inj hg⟩
theorem everN_cons (r : DRule) (l : List DRule) : everN (r :: l) = (if r.to = 1048576 then 1 else 0) + everN l := by
 unfold everN
 rw [List.filter_cons]
 by_cases h : r.to = 1048576
 ·rw [if_pos (decide_eq_true h), if_pos h, List.length_cons, Nat.add_comm]
 ·rw [if_neg (by simp [h]), if_neg h, Nat.zero_add]
structure FyG where
 k : Nat
 n : Nat
theorem PuFtY3 {G : Prop} (h : G := by (first | (apply Pu_indexAddrH; rfl; rfl; omega; omega; (intro w' _ hO; exact (((fact_at (S := S1) (p := ErasAt Zs1) (hO.of (by repeat' constructor))) q hm1).rd _ _ hle2).1)) | (apply Pu_loadN (cs := [.int .i64 off, .int .i64 kd, .int .i64 esv, .string st, .string fm, .bool ui, .int .i64 uy, .int .i64 um, .int .i64 ud1, .int .i64 ud2, .int .i64 ud3, .int .i64 uc1, .int .i64 uc2]); rfl; rfl; (intro w' _ hO; exact (((fact_at (S := S1) (p := ErasAt Zs1) (hO.of (by repeat' constructor))) q hm1).rd _ _ hle2).2)) | (apply Pu_neqB'; rfl; rfl; exact u2))) : G := h
theorem PuFtY4 {G : Prop} (h : G := by (first | (apply Pu_indexAddrH; rfl; rfl; omega; omega; (intro w' _ hO; exact (row_cell (hO.of (A := .row (.slice A3 R.length c3) 27 11 R.length (R.flatMap DRule.enc)) (by repeat' constructor)) hg1).1)) | (apply Pu_loadRF; rfl; (focus repeat' constructor); exact hg1) | (apply Pu_loadRF; rfl; (focus repeat' constructor); exact hg2) | (apply Pu_geqB; rfl; rfl; first | exact o1 | exact o3) | (apply Pu_neqB'; rfl; rfl; exact o2) | (apply Pu_eqlB; rfl; rfl; exact o4))) : G := h
set_option maxHeartbeats 8000000 in
theorem footerYears_spec (As Az Al : Option Addr) (cs cz cl : Nat) (d : DD23) (zone : Int) (w : World) (hL : LibW w) (hG : Glob w) (hF : FtG w) (hS : RdLL w As cs byEnc 1 d.sets) (hZ : RdLL w Az cz E23.enc 8 d.zones) (hD : RdSl w Al cl byEnc 1 d.links) (hrs : ∀ l ∈ d.sets, ∀ x ∈ l, inR .u8 x) (hrz : ∀ l ∈ d.zones, ∀ x ∈ l, x.ok) (hrl : ∀ x ∈ d.links, inR .u8 x) (hzn : inR .u8 zone) :
  Does Tryz.prog 4 [d23V As Az Al cs cz cl d, .int .u8 zone] w (fun v O => v = .bool true ∧ O = []) := by
 have hwk := fun w' (hw : Bel w.heap.size w w') => works38_spec w' (hL.up hw) (hG.up hw) (hF.up hw)
 have hmk := fun w' (hw : Bel w.heap.size w w') => (made23_spec As Az Al cs cz cl d w' (hS.up hw) (hZ.up hw) (hD.up hw) hrs hrz hrl).monoO fun _ _ h => newSrc_of h
 have hac := made23_acc d
 have hsm := made23_sml d
 have hzs := made23_zones d
 have hnz : 1 ≤ (made23 d).zones.length := by
  rw [made23_nz]
  exact (zl23_len d.zones).1
 generalize made23 d = s at *
 rw [inR_u8] at hzn
 have hzl : s.zones.length ≤ 100 := hsm.nz
 obtain ⟨m, hm⟩ : ∃ m : Nat, (m : Int) = zone % s.zones.length := ⟨(zone % s.zones.length).toNat, by
  have := Int.emod_nonneg zone (b := s.zones.length) (by omega)
  omega⟩
 have hmz : m < s.zones.length := by
  have := Int.emod_lt_of_pos zone (b := s.zones.length) (by omega)
  omega
 obtain ⟨z, hz⟩ : ∃ z, s.zones[m]? = some z := ⟨_, List.getElem?_eq_getElem hmz⟩
 obtain ⟨Y, hY⟩ := hzs z (List.mem_of_getElem? hz)
 obtain ⟨g1, g2, g3, g4⟩ := year_law hY
 have hle := hY.len
 have hne : z.eras ≠ [] := fun h => by rw [h] at hle; simp at hle
 have hyr := fun R1 Z1 L1 H1 r1 z1 l1 h1 w' (hw : Bel w.heap.size w w') (hA : RdSource w' R1 Z1 L1 H1 r1 z1 l1 h1 s) => year_ok R1 Z1 L1 H1 r1 z1 l1 h1 s m z w' (hsm.acc (hL.up hw) (hG.up hw) hA) hac hz hne (by omega)
 obtain ⟨le, hle1⟩ : ∃ le, z.eras[z.eras.length - 1]? = some le := ⟨_, List.getElem?_eq_getElem (by omega)⟩
 have hlast : lastE z.eras = le := by
  unfold lastE
  rw [List.getD_eq_getElem?_getD, hle1]; rfl
 have hof := fun R1 Z1 L1 H1 r1 z1 l1 h1 w' (hw : Bel w.heap.size w w') (hA : RdSource w' R1 Z1 L1 H1 r1 z1 l1 h1 s) => ofN_spec R1 Z1 L1 H1 r1 z1 l1 h1 s le.set w' hA (by have := hsm.nr; omega)
 have hru : le.kind = 2 → rulesE s z.eras = ofB s.rules le.set := fun h => by
  unfold rulesE
  rw [hlast, if_pos h]
 have hRl : (ofB s.rules le.set).length ≤ 100 := Nat.le_trans (List.length_filter_le _ _) hsm.nr
 have hRs : ∀ r ∈ ofB s.rules le.set, -4611686018427387904 ≤ r.save ∧ r.save ≤ 4611686018427387904 := fun r hr => by
  have := (hsm.rs r (List.mem_filter.1 hr).1).2.2
  omega
 generalize ofB s.rules le.set = R at *
 generalize yearD s z.eras = y at *
 have t1 : decide ((s.zones.length : Int) = 0) = false := decide_eq_false (by omega)
 have t4 : decide ((z.eras.length : Int) = 0) = false := decide_eq_false (by omega)
 have t2 : decide (y < 1850) = false := decide_eq_false (by omega)
 have t3 : decide (2150 < y) = false := decide_eq_false (by omega)
 refine Does_of_W Tryz.func4 rfl rfl rfl rfl ?_
 repeat (first | (apply RL_pu; rfl; (apply Pu_eqlB; rfl; rfl; exact t1)) | (refine js ?_; (first | (apply Stp_call (h := fun w' hw _ => hmk w' hw); rfl; rintro v O' ⟨R1, r1, Z1, z1, L1, l1, H1, h1, Zs1, S1, rfl, hZ1, rfl⟩) | (refine bx ?_; intro bk))) | refine walk1 ?_)
 rw [← hm]
 generalize bk = b5
 obtain ⟨q, hq, hqe⟩ := ze_at23 hZ1 hz
 subst hqe
 have hm1 : q ∈ Zs1 := List.mem_of_getElem? hq
 have hjl : m < Zs1.length := (List.getElem?_eq_some_iff.1 hq).1
 have hx1 : (Zs1.flatMap ZE.enc)[((m : Int)).toNat * 2 + 1]? = some (.slice q.A q.z.eras.length q.c) := flat_get ZE.len Zs1 m q 1 _ hq rfl
 have hle2 : q.z.eras[((q.z.eras.length : Int) - 1).toNat]? = some le := by
  rw [show ((q.z.eras.length : Int) - 1).toNat = q.z.eras.length - 1 by omega]
  exact hle1
 clear hmk hac hzs hS hZ hD hY hne hle1 hlast
 obtain ⟨off, kd, esv, st, fm, ⟨ui, uy, um, ⟨ud1, ud2, ud3⟩, ⟨uc1, uc2⟩⟩⟩ := le
 dsimp only at hof hru
 repeat (first | refine und ?_ | (apply RL_pu; rfl; (first | (apply Pu_indexAddrH; rfl; rfl; omega; omega; (intro w' _ hO; exact row_some (hO.of (A := rowZ Z1 z1 Zs1) (by repeat' constructor)) (by omega))) | (apply Pu_loadRF; rfl; (focus repeat' constructor); exact hx1) | (apply Pu_eqlB; rfl; rfl; first | exact t1 | exact t4) | (apply Pu_lssB; rfl; rfl; exact t2) | (apply Pu_gtrB; rfl; rfl; exact t3))) | (refine js ?_; (first | (refine callO (fun w' hw hO => hyr R1 Z1 L1 H1 r1 z1 l1 h1 w' hw (src_rd hZ1 (hO.of (A := rowR R1 r1 _) (by repeat' constructor)) (hO.of (A := rowZ Z1 z1 _) (by repeat' constructor)) (hO.of (A := rowL L1 l1 _) (by repeat' constructor)) (hO.of (A := rowS H1 h1 _) (by repeat' constructor)) (hO.of (A := .fact S1 (ErasAt Zs1)) (by repeat' constructor)))) ?_) | (refine bx ?_; intro bk))) | refine walk1 ?_)
 refine W_loopF [(5, .pointer (some ⟨b5, 0, none⟩)), (7, .int .i64 y), (9, .slice q.A q.z.eras.length q.c)] [.blk b5 [.slice R1 s.rules.length r1, .slice Z1 s.zones.length z1, .slice L1 s.links.length l1, .slice H1 s.shifts.length h1] 45, rowR R1 r1 s.rules, rowZ Z1 z1 Zs1, rowL L1 l1 s.links, rowS H1 h1 s.shifts, .fact S1 (ErasAt Zs1)]
  (fun k : Nat => [(10, .int .i64 k)]) (fun _ => []) (fun k => k ≤ q.z.eras.length) (fun k => q.z.eras.length - k) 0 SFA SOA (Nat.zero_le _) ?_
 intro k hk
 repeat (first | (refine js ?_; (refine bx ?_; intro bk)) | refine walk ?_)
 refine W_cond rfl (fun h => ?_) (fun h => ?_)
 ·have hk2 : k + 1 < q.z.eras.length := by have := of_decide_eq_true h; omega
  obtain ⟨e, hek⟩ : ∃ e, q.z.eras[k]? = some e := ⟨_, List.getElem?_eq_getElem (by omega)⟩
  have u1 : decide (y ≤ e.til.year) = false := decide_eq_false (by have := g3 k e hk2 hek; omega)
  repeat (first | (apply RL_pu; rfl; (first | (apply Pu_indexAddrH; rfl; rfl; omega; omega; (intro w' _ hO; exact (((fact_at (S := S1) (p := ErasAt Zs1) (hO.of (by repeat' constructor))) q hm1).rd k _ hek).1)) | (apply Pu_load1; rfl; (intro w' _ hO; rw [add_of_add]; exact (((fact_at (S := S1) (p := ErasAt Zs1) (hO.of (by repeat' constructor))) q hm1).rd k _ hek).2 6 (.int .i64 e.til.year) rfl)) | (apply Pu_geqB; rfl; rfl; exact u1))) | (refine js ?_; (refine bx ?_; intro bk)) | refine walk1 ?_)
  exact ⟨k + 1, by omega, by omega, SFA, SOA⟩
 clear h hk
 by_cases hkd : kd = 2
 ·have u2 : (!decide (kd = 2)) = false := by rw [decide_eq_true hkd]; rfl
  rw [hru hkd] at g4
  have hev := allC_len23 (least := leastD R) g4 (by omega) 4 (by omega)
  have hin := fun A3 c3 w' (hw : Bel w.heap.size w w') (hA : RdSl w' A3 c3 DRule.enc 11 R) => inG_spec A3 c3 R y (y + 3) 4 w' (hG.up hw) hA (by omega) hRs (by omega) (by omega) (by omega) (by omega)
  rw [← sortedE_len] at hev
  generalize sortedE (allC R (leastD R) y 4) = L at *
  have e3 : decide ((L.length : Int) = 4 * (everN R : Nat)) = true := decide_eq_true (by omega)
  obtain ⟨N, hN⟩ : ∃ N, everN R = N := ⟨_, rfl⟩
  rw [hN] at e3 hev
  repeat (first | (apply RL_pu; rfl; exact PuFtY3) | (refine js ?_; (first | (apply Stp_call (h := fun w' hw hO => hof R1 Z1 L1 H1 r1 z1 l1 h1 w' hw (src_rd hZ1 (hO.of (A := rowR R1 r1 _) (by repeat' constructor)) (hO.of (A := rowZ Z1 z1 _) (by repeat' constructor)) (hO.of (A := rowL L1 l1 _) (by repeat' constructor)) (hO.of (A := rowS H1 h1 _) (by repeat' constructor)) (hO.of (A := .fact S1 (ErasAt Zs1)) (by repeat' constructor)))); rfl; rintro v O' ⟨A3, c3, rfl, rfl⟩) | (refine bx ?_; intro bk))) | refine walk1 ?_)
  refine W_loopF [(7, .int .i64 y), (12, .slice A3 R.length c3)] [.row (.slice A3 R.length c3) 27 11 R.length (R.flatMap DRule.enc)] (fun g : FyG => [(14, .int .i64 g.k), (13, .int .i64 g.n)]) (fun _ => []) (fun g => g.k ≤ R.length ∧ g.n ≤ g.k ∧ g.n + everN (R.drop g.k) = N) (fun g => R.length - g.k) ⟨0, 0⟩ SFA SOA ⟨Nat.zero_le _, Nat.le_refl _, by dsimp only; rw [List.drop_zero, Nat.zero_add]; exact hN⟩ ?_
  clear hyr hof hN hev
  rintro ⟨k, n⟩ ⟨hk, hnk, hn⟩
  dsimp only at hk hnk hn ⊢
  repeat (first | (refine js ?_; (refine bx ?_; intro bk)) | refine walk ?_)
  refine W_cond rfl (fun h => ?_) (fun h => ?_)
  ·have hk2 : k < R.length := by simpa using h
   have hgr := g4 _ (List.getElem_mem hk2)
   rw [drop_cons hk2, everN_cons] at hn
   have hg1 : (R.flatMap DRule.enc)[(k : Int).toNat * 11 + 1]? = some (.int .i64 R[k].from_) := flat_get DRule.len R k _ 1 _ (List.getElem?_eq_getElem hk2) rfl
   have hg2 : (R.flatMap DRule.enc)[(k : Int).toNat * 11 + 2]? = some (.int .i64 R[k].to) := flat_get DRule.len R k _ 2 _ (List.getElem?_eq_getElem hk2) rfl
   generalize R[k] = r at *
   obtain ⟨_, v1, v2⟩ := hgr
   have o1 : decide (y ≤ r.from_) = false := decide_eq_false (by omega)
   by_cases hto : r.to = 1048576
   ·have o2 : (!decide (r.to = 1048576)) = false := by rw [decide_eq_true hto]; rfl
    have o4 : decide (r.to = 1048576) = true := decide_eq_true hto
    rw [if_pos hto] at hn
    repeat (first | refine und ?_ | (apply RL_pu; rfl; exact PuFtY4) | (refine js ?_; (refine bx ?_; intro bk)) | refine walk1 ?_)
    exact ⟨⟨k + 1, n + 1⟩, by dsimp only; omega, ⟨by dsimp only; omega, by dsimp only; omega, by dsimp only; omega⟩, SFA, SOA⟩
   ·have o2 : (!decide (r.to = 1048576)) = true := by rw [decide_eq_false hto]; rfl
    have o3 : decide (y ≤ r.to) = false := decide_eq_false (by omega)
    have o4 : decide (r.to = 1048576) = false := decide_eq_false hto
    rw [if_neg hto] at hn
    repeat (first | refine und ?_ | (apply RL_pu; rfl; exact PuFtY4) | (refine js ?_; (refine bx ?_; intro bk)) | refine walk1 ?_)
    exact ⟨⟨k + 1, n⟩, by dsimp only; omega, ⟨by dsimp only; omega, by dsimp only; omega, by dsimp only; omega⟩, SFA, SOA⟩
  ·obtain rfl : k = R.length := by have := of_decide_eq_false h; omega
   rw [List.drop_length] at hn
   obtain rfl : n = N := hn
   repeat (first | (apply RL_pu; rfl; (first | (apply Pu_mul; rfl; rfl; (constructor <;> omega)) | (apply Pu_eqlB; rfl; rfl; exact e3))) | (refine js ?_; (first | (apply Stp_call (h := fun w' hw hO => hin A3 c3 w' hw (rowRd DRule.len (hO.of (A := .row (.slice A3 R.length c3) 27 11 R.length (R.flatMap DRule.enc)) (by repeat' constructor)))); rfl; rintro v O' ⟨A4, c4, rfl, rfl⟩) | (refine callE hwk ?_) | (refine bx ?_; intro bk))) | refine walk1 ?_)
   exact rtA
 ·have u2 : (!decide (kd = 2)) = true := by rw [decide_eq_false hkd]; rfl
  repeat (first | (apply RL_pu; rfl; exact PuFtY3) | (refine js ?_; (first | (refine callE hwk ?_) | (refine bx ?_; intro bk))) | refine walk1 ?_)
  exact rtA
end Go.Proofs.YtonjepladadmhaaGreatDoor
