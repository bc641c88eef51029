/- Contract: analemmalaw26.MeaningRefuses. -/
import Derived.Test.YtonjepladadmhaaGreatDoorS47
import Derived.Test.YtonjepladadmhaaGreatDoorS55
set_option maxHeartbeats 4000000
set_option linter.unusedVariables false
set_option linter.unusedSimpArgs false
namespace Go.Proofs.YtonjepladadmhaaGreatDoor
open Go Go.RowKit Go.Wk
attribute [local irreducible] W RL Does thenQ blockQ retQ Calls Pu Stp RD Qy Ay DoesIn made23
def BadQ (b7 b8 : Nat) (far : Int) (RA ZA LA HA : Option Addr) (ra za la ha : Nat) (s : DSource) (ZsA : List ZE) (SA : Nat → Prop) (fr' : Fr) (O' : List It) : Prop :=
 ∃ (R1 Z1 L1 H1 : Option Addr) (r1 z1 l1 h1 : Nat) (bs : DSource) (OB : List It), Sml0 bs ∧ (∃ p e, accD bs = some (p, e)) ∧ (∀ w', (∀ i ∈ OB, i.sat w') → RdSource w' R1 Z1 L1 H1 r1 z1 l1 h1 bs) ∧
  Sub [(1, .int .u32 far), (7, .pointer (some ⟨b7, 0, none⟩)), (8, .pointer (some ⟨b8, 0, none⟩))] fr' ∧
  SubO (OB ++ [.blk b7 [.slice RA s.rules.length ra, .slice ZA s.zones.length za, .slice LA s.links.length la, .slice HA s.shifts.length ha] 45, rowR RA ra s.rules, rowZ ZA za ZsA, rowL LA la s.links, rowS HA ha s.shifts, .fact SA (ErasAt ZsA),
   .blk b8 [.slice R1 bs.rules.length r1, .slice Z1 bs.zones.length z1, .slice L1 bs.links.length l1, .slice H1 bs.shifts.length h1] 45]) O'
theorem bad_rd26 {w : World} {Ar Az Al As : Option Addr} {cr cz cl cs nr nz nl : Nat} {Zs : List ZE} {bs : DSource} {xr xz xl : List Value} (hz : Zs.map ZE.z = bs.zones) (h1 : (It.row (.slice Ar nr cr) 27 11 nr xr).sat w) (h2 : (It.row (.slice Az nz cz) 51 2 nz xz).sat w) (h3 : (It.row (.slice Al nl cl) 63 2 nl xl).sat w) (h4 : (rowS As cs bs.shifts).sat w)
  (e1 : nr = bs.rules.length) (e2 : nz = Zs.length) (e3 : nl = bs.links.length) (f1 : xr = bs.rules.flatMap DRule.enc) (f2 : xz = Zs.flatMap ZE.enc) (f3 : xl = bs.links.flatMap DLink.enc) (h5 : ErasAt Zs w) : RdSource w Ar Az Al As cr cz cl cs bs := by
 subst e1 e2 e3 f1 f2 f3
 have h := rowRd ZE.len h2
 have hl : bs.zones.length = Zs.length := by rw [← hz, List.length_map]
 exact ⟨rowRd DRule.len h1, by rw [hl]; exact h.le, h.cap, hz ▸ zones_rd h h5, rowRd DLink.len h3, rowRd strEnc.len h4⟩
theorem erasAt_set {Zs : List ZE} {k : Nat} {q : ZE} {w : World} (h : ErasAt Zs w) (hq : RdSl w q.A q.c DEra.enc 13 q.z.eras) : ErasAt (Zs.set k q) w := fun x hx => by
 rcases mem_set hx with rfl | hx
 ·exact hq
 ·exact h x hx
theorem PuMeR2 {G : Prop} (h : G := by (apply Pu_indexAddrH; rfl; rfl; omega; omega; (intro w' _ hO; exact row_some (hO.of (A := rowZ Z1 z1 _) (by repeat' constructor)) (by omega)))) : G := h
theorem PuMeR4 {G : Prop} (h : G := by (apply Pu_indexAddrK; rfl; rfl; decide; decide; rfl)) : G := h
set_option maxHeartbeats 8000000 in
set_option maxRecDepth 20000 in
theorem meaningRefuses_spec (As Az Al : Option Addr) (cs cz cl : Nat) (d : DD23) (far what : Int) (w : World) (hL : LibW w) (hG : Glob w) (hM : MeG w) (hS : RdLL w As cs byEnc 1 d.sets) (hZ : RdLL w Az cz E23.enc 8 d.zones) (hD : RdSl w Al cl byEnc 1 d.links) (hrs : ∀ l ∈ d.sets, ∀ x ∈ l, inR .u8 x) (hrz : ∀ l ∈ d.zones, ∀ x ∈ l, x.ok) (hrl : ∀ x ∈ d.links, inR .u8 x) (hfr : inR .u32 far) (hwt : inR .u8 what) :
  Does Tryz.prog 9 [d23V As Az Al cs cz cl d, .int .u32 far, .int .u8 what] w (fun v O => v = .bool true ∧ O = []) := by
 have hwk := fun w' (hw : Bel w.heap.size w w') => works26_spec w' (hL.up hw) (hG.up hw) (hM.up hw)
 have hmk := fun w' (hw : Bel w.heap.size w w') => (made23_spec As Az Al cs cz cl d w' (hS.up hw) (hZ.up hw) (hD.up hw) hrs hrz hrl).monoO fun _ _ h => newSrc_of h
 have hm := mn23 d
 have hsm := made23_sml d
 have hnb := nobody23 d
 have hbl := bad23_acc d
 have hrn := rules23_ne d
 have hnz : 1 ≤ (made23 d).zones.length := by
  rw [made23_nz]
  exact (zl23_len d.zones).1
 generalize made23 d = s at *
 rw [inR_u8] at hwt
 have hnf : 0 ≤ far ∧ far ≤ 4294967295 := hfr
 have hzl : s.zones.length ≤ 100 := hsm.nz
 have hll : s.links.length ≤ 100 := hsm.nl
 have hrr : s.rules.length ≤ 100 := hsm.nr
 have e1 : decide ((s.zones.length : Int) = 0) = false := decide_eq_false (by omega)
 have e2 : decide ((s.rules.length : Int) = 0) = false := decide_eq_false (by omega)
 have hm4 : what % 4 = 0 ∨ what % 4 = 1 ∨ what % 4 = 2 ∨ what % 4 = 3 := by omega
 refine Does_of_W Tryz.func9 rfl rfl rfl rfl ?_
 repeat (first | refine und ?_ | (apply RL_pu; rfl; (first | (apply Pu_eqlB; rfl; rfl; first | exact e1 | exact e2) | (apply Pu_remE; rfl; rfl; omega; omega))) | (refine js ?_; (first | (apply Stp_call (h := fun w' hw _ => hmk w' hw); rfl; rintro v O' ⟨R1, r1, Z1, z1, L1, l1, H1, h1, Zs1, S1, rfl, hZ1, rfl⟩) | (refine bx ?_; intro bk))) | refine walkB1 ?_)
 rename_i bD RA ra ZA za LA la HA ha ZsA SA hZA b7
 generalize bk = b8
 have hZl : Zs1.length = s.zones.length := by rw [← hZ1, List.length_map]
 clear hmk hS hZ hD
 generalize what % 4 = x at *
 refine W_post (fun fr' O' => BadQ b7 b8 far RA ZA LA HA ra za la ha s ZsA SA fr' O') ?_ ?_
 ·rcases hm4 with rfl | rfl | rfl | rfl
  ·obtain ⟨r, hr⟩ : ∃ r, s.rules[0]? = some r := ⟨_, List.getElem?_eq_getElem (by omega)⟩
   repeat (first | (apply RL_pu; rfl; (apply Pu_indexAddrH; rfl; rfl; omega; omega; (intro w' _ hO; exact row_some (hO.of (A := rowR R1 r1 _) (by repeat' constructor)) (by omega)))) | (refine js ?_; (first | (apply Stp_storeRF; rfl; rfl; (focus repeat' constructor); rfl; rfl; rfl; (rw [flat_len DRule.len]; omega); decide; rfl) | (refine bx ?_; intro bk))) | refine walk1 ?_)
   refine ⟨rfl, R1, Z1, L1, H1, r1, z1, l1, h1, badA s r, [.row (.slice R1 s.rules.length r1) 27 11 s.rules.length (lay (s.rules.flatMap DRule.enc) ((0 : Int).toNat * 11 + 9) [.int .i64 1099511627776]), rowZ Z1 z1 Zs1, rowL L1 l1 s.links, rowS H1 h1 s.shifts, .fact S1 (ErasAt Zs1)], badA_sml hsm hr, badA_acc hr, fun w' hi => ?_, SFA, ?_⟩
   ·exact bad_rd26 (bs := badA s r) hZ1 (hi _ List.mem_cons_self) (hi (rowZ Z1 z1 Zs1) (.tail _ (.head _))) (hi (rowL L1 l1 s.links) (.tail _ (.tail _ (.head _)))) (hi (rowS H1 h1 s.shifts) (.tail _ (.tail _ (.tail _ (.head _))))) (by show _ = (s.rules.set 0 _).length; rw [List.length_set]) rfl rfl (flat_lay26 DRule.len 9 [.int .i64 1099511627776] (by decide) r _ rfl s.rules 0 hr) rfl rfl (fact_at (hi (.fact S1 (ErasAt Zs1)) (.tail _ (.tail _ (.tail _ (.tail _ (.head _)))))))
   ·rw [show (badA s r).rules.length = s.rules.length from List.length_set]
    exact SOA
  ·obtain ⟨z, hz⟩ : ∃ z, s.zones[0]? = some z := ⟨_, List.getElem?_eq_getElem (by omega)⟩
   obtain ⟨q, hq, rfl⟩ := ze_at26 hZ1 hz
   repeat (first | (apply RL_pu; rfl; exact PuMeR2) | (refine js ?_; (first | (apply Stp_storeRF; rfl; rfl; (focus repeat' constructor); rfl; rfl; rfl; (rw [flat_len ZE.len]; omega); decide; rfl) | (refine bx ?_; intro bk))) | refine walk1 ?_)
   refine ⟨rfl, R1, Z1, L1, H1, r1, z1, l1, h1, badZ s q.z, [rowR R1 r1 s.rules, .row (.slice Z1 Zs1.length z1) 51 2 Zs1.length (lay (Zs1.flatMap ZE.enc) ((0 : Int).toNat * 2 + 1) [.slice none 0 0]), rowL L1 l1 s.links, rowS H1 h1 s.shifts, .fact S1 (ErasAt Zs1)], badZ_sml hsm hz, badZ_acc hz, fun w' hi => ?_, SFA, ?_⟩
   ·have h9 := flat_lay26 ZE.len 1 [.slice none 0 0] (by decide) q ⟨⟨q.z.name, []⟩, none, 0⟩ rfl Zs1 0 hq
    exact bad_rd26 (bs := badZ s q.z) (Zs := Zs1.set 0 ⟨⟨q.z.name, []⟩, none, 0⟩) (by rw [List.map_set, hZ1]; rfl) (hi (rowR R1 r1 s.rules) (.head _)) (hi _ (.tail _ (.head _))) (hi (rowL L1 l1 s.links) (.tail _ (.tail _ (.head _)))) (hi (rowS H1 h1 s.shifts) (.tail _ (.tail _ (.tail _ (.head _))))) rfl (by rw [List.length_set]) rfl rfl h9 rfl (erasAt_set (fact_at (hi (.fact S1 (ErasAt Zs1)) (.tail _ (.tail _ (.tail _ (.tail _ (.head _))))))) (nilRd _ _ _))
   ·rw [show (badZ s q.z).zones.length = s.zones.length from List.length_set]
    exact SOA
  ·repeat (first | (refine js ?_; (first | (apply Stp_append; rfl; rfl; (intro A' c'; (focus repeat' constructor)); (intro w' _ hO; exact blkRaw (hO.of (by repeat' constructor))); rfl; rfl; (simp only [maxLen]; omega); omega; intro L3 l3 hc1 hc2 hc3) | (refine bx ?_; intro bk))) | refine walk ?_)
   refine ⟨rfl, R1, Z1, L3, H1, r1, z1, l3, h1, badS s, [rowR R1 r1 s.rules, rowZ Z1 z1 Zs1, .row (.slice L3 (s.links.length + 1) l3) 63 2 (s.links.length + 1) (s.links.flatMap DLink.enc ++ [.string ⟨#[78, 111, 119, 104, 101, 114, 101]⟩, .string ⟨#[88]⟩]), rowS H1 h1 s.shifts, .fact S1 (ErasAt Zs1)], badL_sml hsm, (by obtain ⟨p, e, h, _⟩ := hbl; exact ⟨p, e, h⟩), fun w' hi => ?_, SFA, ?_⟩
   ·exact bad_rd26 (bs := badS s) hZ1 (hi (rowR R1 r1 s.rules) (.head _)) (hi (rowZ Z1 z1 Zs1) (.tail _ (.head _))) (hi _ (.tail _ (.tail _ (.head _)))) (hi (rowS H1 h1 s.shifts) (.tail _ (.tail _ (.tail _ (.head _))))) rfl rfl (by show _ = (s.links ++ [lkBad]).length; rw [List.length_append]; rfl) rfl rfl (by show _ = (s.links ++ [lkBad]).flatMap DLink.enc; rw [List.flatMap_append]; rfl) (fact_at (hi (.fact S1 (ErasAt Zs1)) (.tail _ (.tail _ (.tail _ (.tail _ (.head _)))))))
   ·rw [show (badS s).links.length = s.links.length + 1 from by show (s.links ++ [lkBad]).length = _; rw [List.length_append]; rfl]
    exact SOA
  ·obtain ⟨z, hz⟩ : ∃ z, s.zones[s.zones.length - 1]? = some z := ⟨_, List.getElem?_eq_getElem (by omega)⟩
   obtain ⟨q, hq, rfl⟩ := ze_at26 hZ1 hz
   repeat (first | (apply RL_pu; rfl; exact PuMeR2) | (refine js ?_; (first | (apply Stp_storeRF; rfl; rfl; (focus repeat' constructor); rfl; rfl; rfl; (rw [flat_len ZE.len]; omega); decide; rfl) | (refine bx ?_; intro bk))) | refine walk1 ?_)
   refine ⟨rfl, R1, Z1, L1, H1, r1, z1, l1, h1, badN s (s.zones.length - 1) q.z, [rowR R1 r1 s.rules, .row (.slice Z1 Zs1.length z1) 51 2 Zs1.length (lay (Zs1.flatMap ZE.enc) (((s.zones.length : Int) - 1).toNat * 2 + 0) [.string ByteArray.empty]), rowL L1 l1 s.links, rowS H1 h1 s.shifts, .fact S1 (ErasAt Zs1)], badN_sml hsm hz, badN_acc hz, fun w' hi => ?_, SFA, ?_⟩
   ·have h9 := flat_lay26 ZE.len 0 [.string ByteArray.empty] (by decide) q ⟨⟨ByteArray.empty, q.z.eras⟩, q.A, q.c⟩ rfl Zs1 _ hq
    rw [show ((s.zones.length : Int) - 1).toNat = s.zones.length - 1 by omega] at hi
    exact bad_rd26 (bs := badN s (s.zones.length - 1) q.z) (Zs := Zs1.set (s.zones.length - 1) ⟨⟨ByteArray.empty, q.z.eras⟩, q.A, q.c⟩) (by rw [List.map_set, hZ1]; rfl) (hi (rowR R1 r1 s.rules) (.head _)) (hi _ (.tail _ (.head _))) (hi (rowL L1 l1 s.links) (.tail _ (.tail _ (.head _)))) (hi (rowS H1 h1 s.shifts) (.tail _ (.tail _ (.tail _ (.head _))))) rfl (by rw [List.length_set]) rfl rfl h9 rfl (erasAt_set (fact_at (hi (.fact S1 (ErasAt Zs1)) (.tail _ (.tail _ (.tail _ (.tail _ (.head _))))))) (fact_at (hi (.fact S1 (ErasAt Zs1)) (.tail _ (.tail _ (.tail _ (.tail _ (.head _)))))) q (List.mem_of_getElem? hq)))
   ·rw [show (badN s (s.zones.length - 1) q.z).zones.length = s.zones.length from List.length_set]
    exact SOA
 clear hm4 hrn hbl e1 e2
 rintro fr' O' ⟨R1, Z1, L1, H1, r1, z1, l1, h1, bs, OB, hsb, ⟨bp, be, hbe⟩, hrd, hf, hO⟩
 apply thenQ_n
 refine W_sub hf hO ?_
 clear hf hO fr' O'
 refine W_toFact OB [.blk b7 [.slice RA s.rules.length ra, .slice ZA s.zones.length za, .slice LA s.links.length la, .slice HA s.shifts.length ha] 45, rowR RA ra s.rules, rowZ ZA za ZsA, rowL LA la s.links, rowS HA ha s.shifts, .fact SA (ErasAt ZsA), .blk b8 [.slice R1 bs.rules.length r1, .slice Z1 bs.zones.length z1, .slice L1 bs.links.length l1, .slice H1 bs.shifts.length h1] 45] (fun w' => RdSource w' R1 Z1 L1 H1 r1 z1 l1 h1 bs) (.refl _) hrd ?_
 clear hrd
 generalize foot OB = SB
 clear OB
 have hzb : bs.zones.length + bs.links.length ≤ 1000000 := by have := hsb.nz; have := hsb.nl; omega
 have hzn := zoneD_acc hbe nobodyN
 have hbn := accD_ne hbe
 obtain ⟨z, hz⟩ : ∃ z, s.zones[0]? = some z := ⟨_, List.getElem?_eq_getElem (by omega)⟩
 obtain ⟨q, hq, rfl⟩ := ze_at26 hZA hz
 have hzl2 : ZsA.length = s.zones.length := by rw [← hZA, List.length_map]
 have hq1 : (ZsA.flatMap ZE.enc)[(0 : Int).toNat * 2 + 0]? = some (.string q.z.name) := flat_get ZE.len ZsA 0 q 0 _ hq rfl
 have kcb := fun w' (hw : Bel w.heap.size w w') (hA : RdSource w' R1 Z1 L1 H1 r1 z1 l1 h1 bs) => accTe R1 Z1 L1 H1 r1 z1 l1 h1 bs bp be w' (hsb.acc (hL.up hw) (hG.up hw) hA) hbe
 have kab := fun w' (hw : Bel w.heap.size w w') (hA : RdSource w' R1 Z1 L1 H1 r1 z1 l1 h1 bs) => mAtNo R1 Z1 L1 H1 r1 z1 l1 h1 bs nobodyN 0 w' (hsb.acc (hL.up hw) (hG.up hw) hA) hzb (by decide) (by rw [hzn]; exact hbn)
 have kfb := fun w' (hw : Bel w.heap.size w w') (hA : RdSource w' R1 Z1 L1 H1 r1 z1 l1 h1 bs) => mFirstNo R1 Z1 L1 H1 r1 z1 l1 h1 bs q.z.name w' (hsb.acc (hL.up hw) (hG.up hw) hA) hzb (by rw [zoneD_acc hbe]; exact hbn)
 rw [hzn] at kab
 rw [zoneD_acc hbe] at kfb
 have kas := fun w' (hw : Bel w.heap.size w w') (hA : RdSource w' RA ZA LA HA ra za la ha s) => mAtNo RA ZA LA HA ra za la ha s nobodyN far w' (hsm.acc (hL.up hw) (hG.up hw) hA) (by omega) (tOk_iff.2 (by omega)) (by rw [hnb]; decide)
 have kfs := fun w' (hw : Bel w.heap.size w w') (hA : RdSource w' RA ZA LA HA ra za la ha s) => mFirstNo RA ZA LA HA ra za la ha s nobodyN w' (hsm.acc (hL.up hw) (hG.up hw) hA) (by omega) (by rw [hnb]; decide)
 have kes := fun w' (hw : Bel w.heap.size w w') (hA : RdSource w' RA ZA LA HA ra za la ha s) => mEraNo RA ZA LA HA ra za la ha s nobodyN 0 w' (hsm.acc (hL.up hw) (hG.up hw) hA) (by omega) (by decide) (by rw [hnb]; decide)
 rw [hnb] at kas kfs kes
 have kxa := fun tt (ht : tOk tt = false) w' => mAtFar R1 Z1 L1 H1 r1 z1 l1 h1 bs nobodyN tt w' ht
 have kxe := fun tt (ht : tOk tt = false) w' => mEraFar RA ZA LA HA ra za la ha s q.z.name tt w' ht
 simp only [lc0, DLocal.enc] at kab kfb kas kfs kxa
 have e1 : (!decide (be = 0)) = true := by rw [decide_eq_false hbn]; rfl
 have e2 : decide (be = be) = true := decide_eq_true rfl
 clear hbe hbn hsb hm hnb hzn
 repeat (first | (apply RL_pu; rfl; (first | (apply Pu_indexAddrH; rfl; rfl; omega; omega; (intro w' _ hO; exact row_some (hO.of (A := rowZ ZA za _) (by repeat' constructor)) (by omega))) | (apply Pu_loadRF; rfl; (focus repeat' constructor); exact hq1) | (apply Pu_conv64; rfl; (constructor <;> omega)))) | (refine js ?_; (first | (apply Stp_call (h := fun w' hw hO => kcb w' hw (fact_at (hO.of (A := .fact SB (fun w' => RdSource w' R1 Z1 L1 H1 r1 z1 l1 h1 bs)) (by repeat' constructor)))); rfl; rintro v O' ⟨⟨p1, p2, p3, rfl⟩, rfl⟩) | (refine bx ?_; intro bk))) | refine walk1 ?_)
 generalize bk = bI
 refine W_loopF [(1, .int .u32 far), (7, .pointer (some ⟨b7, 0, none⟩)), (8, .pointer (some ⟨b8, 0, none⟩)), (10, .int .i64 be), (11, .string q.z.name), (88, .slice (some ⟨bI, 0, none⟩) 2 2), (89, .int .i64 2)]
  [.blk bI [.int .i64 (36028797018963969 + far), .int .i64 (-36028797018963969 - far)] 2, .fact SB (fun w' => RdSource w' R1 Z1 L1 H1 r1 z1 l1 h1 bs), .blk b7 [.slice RA s.rules.length ra, .slice ZA s.zones.length za, .slice LA s.links.length la, .slice HA s.shifts.length ha] 45, rowR RA ra s.rules, rowZ ZA za ZsA, rowL LA la s.links, rowS HA ha s.shifts, .fact SA (ErasAt ZsA), .blk b8 [.slice R1 bs.rules.length r1, .slice Z1 bs.zones.length z1, .slice L1 bs.links.length l1, .slice H1 bs.shifts.length h1] 45]
  (fun k : Nat => [(90, .int .i64 k)]) (fun _ => []) (fun k => k ≤ 2) (fun k => 2 - k) 0 SFA SOA (Nat.zero_le _) ?_
 intro k hk
 have hkc : k = 0 ∨ k = 1 ∨ k = 2 := by omega
 rcases hkc with rfl | rfl | rfl
 ·obtain ⟨tt, htq⟩ : ∃ tt, 36028797018963969 + far = tt := ⟨_, rfl⟩
  have htt : tOk tt = false := by
   rw [Bool.eq_false_iff]
   exact fun h => by have := tOk_iff.1 h; omega
  rw [htq]
  repeat (first | refine und ?_ | (apply RL_pu; rfl; exact PuMeR4) | (refine js ?_; (first | (refine callE (fun w' _ => kxa tt htt w') ?_) | (refine callE (fun w' _ => kxe tt htt w') ?_) | (refine bx ?_; intro bk))) | refine walk1 ?_)
  exact ⟨1, by omega, by omega, SFA, SOA⟩
 ·obtain ⟨tt, htq⟩ : ∃ tt, -36028797018963969 - far = tt := ⟨_, rfl⟩
  have htt : tOk tt = false := by
   rw [Bool.eq_false_iff]
   exact fun h => by have := tOk_iff.1 h; omega
  rw [htq]
  repeat (first | refine und ?_ | (apply RL_pu; rfl; exact PuMeR4) | (refine js ?_; (first | (refine callE (fun w' _ => kxa tt htt w') ?_) | (refine callE (fun w' _ => kxe tt htt w') ?_) | (refine bx ?_; intro bk))) | refine walk1 ?_)
  exact ⟨2, by omega, by omega, SFA, SOA⟩
 clear kxa kxe kcb hk
 repeat (first | refine und ?_ | (apply RL_pu; rfl; (first | (apply Pu_conv64; rfl; (constructor <;> omega)) | (apply Pu_neqB'; rfl; rfl; exact e1) | (apply Pu_eqlB; rfl; rfl; exact e2))) | (refine js ?_; (first | (refine callO (fun w' hw hO => kab w' hw (fact_at (hO.of (A := .fact SB (fun w' => RdSource w' R1 Z1 L1 H1 r1 z1 l1 h1 bs)) (by repeat' constructor)))) ?_) | (refine callO (fun w' hw hO => kfb w' hw (fact_at (hO.of (A := .fact SB (fun w' => RdSource w' R1 Z1 L1 H1 r1 z1 l1 h1 bs)) (by repeat' constructor)))) ?_) | (refine callO (fun w' hw hO => kas w' hw (src_rd hZA (hO.of (A := rowR RA ra _) (by repeat' constructor)) (hO.of (A := rowZ ZA za _) (by repeat' constructor)) (hO.of (A := rowL LA la _) (by repeat' constructor)) (hO.of (A := rowS HA ha _) (by repeat' constructor)) (hO.of (A := .fact SA (ErasAt ZsA)) (by repeat' constructor)))) ?_) | (refine callO (fun w' hw hO => kfs w' hw (src_rd hZA (hO.of (A := rowR RA ra _) (by repeat' constructor)) (hO.of (A := rowZ ZA za _) (by repeat' constructor)) (hO.of (A := rowL LA la _) (by repeat' constructor)) (hO.of (A := rowS HA ha _) (by repeat' constructor)) (hO.of (A := .fact SA (ErasAt ZsA)) (by repeat' constructor)))) ?_) | (refine callO (fun w' hw hO => kes w' hw (src_rd hZA (hO.of (A := rowR RA ra _) (by repeat' constructor)) (hO.of (A := rowZ ZA za _) (by repeat' constructor)) (hO.of (A := rowL LA la _) (by repeat' constructor)) (hO.of (A := rowS HA ha _) (by repeat' constructor)) (hO.of (A := .fact SA (ErasAt ZsA)) (by repeat' constructor)))) ?_) | (refine callE hwk ?_) | (refine bx ?_; intro bk))) | refine walk1 ?_)
 exact rtA
end Go.Proofs.YtonjepladadmhaaGreatDoor
