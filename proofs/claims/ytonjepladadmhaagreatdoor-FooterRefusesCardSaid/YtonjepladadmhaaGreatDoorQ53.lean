/- Contract: analemmalaw38.FooterRefuses. -/
import Derived.Test.YtonjepladadmhaaGreatDoorQ41
import Derived.Test.YtonjepladadmhaaGreatDoorQ42
import Derived.Test.YtonjepladadmhaaGreatDoorQ37
import Derived.Test.YtonjepladadmhaaGreatDoorQ27
set_option maxHeartbeats 4000000
set_option linter.unusedVariables false
set_option linter.unusedSimpArgs false
namespace Go.Proofs.YtonjepladadmhaaGreatDoor
open Go Go.RowKit Go.Wk
attribute [local irreducible] W RL Does thenQ blockQ retQ Calls Pu Stp RD Qy Ay DoesIn made23
theorem Pu_castX {P : Program} {n : Nat} {wr : World} {fr : Fr} {O : List It} {op : Op} {ty : TypeId} {v v' : Value} (h : Pu P n wr fr O op ty v) (e : v = v') : Pu P n wr fr O op ty v' := e ▸ h
theorem badS_sml {s : DSource} (h : Sml s) (hl : s.links.length ≤ 4) : Sml (badS s) where
 nr := h.nr
 nz := h.nz
 nl := by
  show (s.links ++ [lkBad]).length ≤ 100
  rw [List.length_append, List.length_singleton]; omega
 ns := h.ns
 rs := h.rs
 zs := h.zs
 ls := fun l hl => by
  rcases List.mem_append.1 hl with hl | hl
  ·exact h.ls l hl
  ·rw [List.mem_singleton.1 hl]
   decide
theorem bad_val (Ar Az Al As : Option Addr) (cr cz cl cs : Nat) (s : DSource) : srcV Ar Az Al As cr cz cl cs (badS s) = .agg #[.slice Ar s.rules.length cr, .slice Az s.zones.length cz, .slice Al (s.links.length + 1) cl, .slice As s.shifts.length cs] := by
 unfold srcV badS
 dsimp only
 rw [List.length_append, List.length_singleton]
theorem badL_rd {w : World} {A : Option Addr} {c : Nat} {l : List DLink} (h : (It.row (.slice A (l.length + 1) c) 63 2 (l.length + 1) (l.flatMap DLink.enc ++ [.string ⟨#[78, 111, 119, 104, 101, 114, 101]⟩, .string ⟨#[88]⟩])).sat w) : RdSl w A c DLink.enc 2 (l ++ [lkBad]) := by
 have e1 : l.length + 1 = (l ++ [lkBad]).length := by simp
 have e2 : l.flatMap DLink.enc ++ [.string ⟨#[78, 111, 119, 104, 101, 114, 101]⟩, .string ⟨#[88]⟩] = (l ++ [lkBad]).flatMap DLink.enc := by simp [DLink.enc, lkBad]
 rw [e1, e2] at h
 exact rowRd DLink.len h
theorem bad_rd {w : World} {Ar Az Al As : Option Addr} {cr cz cl cs : Nat} {Zs : List ZE} {S : Nat → Prop} {s : DSource} (hz : Zs.map ZE.z = s.zones) (h1 : (rowR Ar cr s.rules).sat w) (h2 : (rowZ Az cz Zs).sat w)
  (h3 : (It.row (.slice Al (s.links.length + 1) cl) 63 2 (s.links.length + 1) (s.links.flatMap DLink.enc ++ [.string ⟨#[78, 111, 119, 104, 101, 114, 101]⟩, .string ⟨#[88]⟩])).sat w) (h4 : (rowS As cs s.shifts).sat w) (h5 : (It.fact S (ErasAt Zs)).sat w) : RdSource w Ar Az Al As cr cz cl cs (badS s) := by
 have h := rowRd ZE.len h2
 have hl : s.zones.length = Zs.length := by rw [← hz, List.length_map]
 have hl2 : (badS s).zones.length = Zs.length := hl
 exact ⟨rowRd DRule.len h1, by rw [hl2]; exact h.le, h.cap, by show RdZ w Az s.zones; exact hz ▸ zones_rd h (fact_at h5), badL_rd h3, rowRd strEnc.len h4⟩
theorem PuFtX0 {G : Prop} (h : G := by (first | (apply Pu_indexAddrK; rfl; rfl; decide; decide; rfl) | (apply Pu_eqlB; rfl; rfl; exact e1) | (apply Pu_neqB'; rfl; rfl; exact e2))) : G := h
theorem wkFtX0 {G G' : Prop} (k : G') (h : Hold G' → G := by intro k9; (first | refine und ?_ | (apply RL_pu; rfl; exact PuFtX0) | (refine js ?_; (first | (refine callO (fun w' hw hO => kos RA ZA LA HA ra za la ha zv hzv w' hw (src_rd hZA (hO.of (A := rowR RA ra _) (by repeat' constructor)) (hO.of (A := rowZ ZA za _) (by repeat' constructor)) (hO.of (A := rowL LA la _) (by repeat' constructor)) (hO.of (A := rowS HA ha _) (by repeat' constructor)) (hO.of (A := .fact SA (ErasAt ZsA)) (by repeat' constructor)))) ?_) | (refine callO (fun w' hw hO => kys RA ZA LA HA ra za la ha zv hzv w' hw (src_rd hZA (hO.of (A := rowR RA ra _) (by repeat' constructor)) (hO.of (A := rowZ ZA za _) (by repeat' constructor)) (hO.of (A := rowL LA la _) (by repeat' constructor)) (hO.of (A := rowS HA ha _) (by repeat' constructor)) (hO.of (A := .fact SA (ErasAt ZsA)) (by repeat' constructor)))) ?_) | (refine callO (fun w' hw hO => kob R1 Z1 L3 H1 r1 z1 l3 h1 zv w' hw (bad_rd hZ1 (hO.of (A := rowR R1 r1 _) (by repeat' constructor)) (hO.of (A := rowZ Z1 z1 _) (by repeat' constructor)) (hO.of (A := .row (.slice L3 (s.links.length + 1) l3) _ _ _ _) (by repeat' constructor)) (hO.of (A := rowS H1 h1 _) (by repeat' constructor)) (hO.of (A := .fact S1 (ErasAt Zs1)) (by repeat' constructor)))) ?_) | (refine callO (fun w' hw hO => kyb R1 Z1 L3 H1 r1 z1 l3 h1 w' hw (bad_rd hZ1 (hO.of (A := rowR R1 r1 _) (by repeat' constructor)) (hO.of (A := rowZ Z1 z1 _) (by repeat' constructor)) (hO.of (A := .row (.slice L3 (s.links.length + 1) l3) _ _ _ _) (by repeat' constructor)) (hO.of (A := rowS H1 h1 _) (by repeat' constructor)) (hO.of (A := .fact S1 (ErasAt Zs1)) (by repeat' constructor)))) ?_))) | refine walk1 ?_); exact k9.out) : G := h ⟨k⟩
theorem PuFtX1 {G : Prop} (h : G := by (apply Pu_remE; rfl; rfl; omega; omega)) : G := h
theorem PuFtX2 {G : Prop} (h : G := by (first | (apply Pu_neg64; rfl; (constructor <;> omega)) | (apply Pu_castX; (apply Pu_remE; rfl; rfl; omega; omega); exact congrArg (Value.int .i64) h) | (apply Pu_indexAddrK; rfl; rfl; decide; decide; rfl))) : G := h
theorem PuFtX3 {G : Prop} (h : G := by (first | (apply Pu_castX; (apply Pu_remE; rfl; rfl; omega; omega); exact congrArg (Value.int .i64) h) | (apply Pu_indexAddrK; rfl; rfl; decide; decide; rfl))) : G := h
theorem PuFtX5 {G : Prop} (h : G := by (first | (apply Pu_indexAddrK; rfl; rfl; decide; decide; rfl) | (apply Pu_indexArr; rfl; rfl; decide; decide))) : G := h
set_option maxHeartbeats 8000000 in
theorem footerRefuses_spec (As Az Al : Option Addr) (cs cz cl : Nat) (d : DD23) (what far : Int) (w : World) (hL : LibW w) (hG : Glob w) (hF : FtG w) (hS : RdLL w As cs byEnc 1 d.sets) (hZ : RdLL w Az cz E23.enc 8 d.zones) (hD : RdSl w Al cl byEnc 1 d.links) (hrs : ∀ l ∈ d.sets, ∀ x ∈ l, inR .u8 x) (hrz : ∀ l ∈ d.zones, ∀ x ∈ l, x.ok) (hrl : ∀ x ∈ d.links, inR .u8 x) (hwt : inR .u8 what) (hfr : inR .u32 far) :
  Does Tryz.prog 5 [d23V As Az Al cs cz cl d, .int .u8 what, .int .u32 far] w (fun v O => v = .bool true ∧ O = []) := by
 have hwk := fun w' (hw : Bel w.heap.size w w') => works38_spec w' (hL.up hw) (hG.up hw) (hF.up hw)
 have hmk := fun w' (hw : Bel w.heap.size w w') => (made23_spec As Az Al cs cz cl d w' (hS.up hw) (hZ.up hw) (hD.up hw) hrs hrz hrl).monoO fun _ _ h => newSrc_of h
 have hac := made23_acc d
 have hsm := made23_sml d
 obtain ⟨bp, be, hbe, hbn⟩ := bad23_acc d
 have hsb := badS_sml hsm (made23_nl d)
 generalize made23 d = s at *
 have kcb := fun R1 Z1 L3 H1 r1 z1 l3 h1 w' (hw : Bel w.heap.size w w') (hA : RdSource w' R1 Z1 L3 H1 r1 z1 l3 h1 (badS s)) => accTe R1 Z1 L3 H1 r1 z1 l3 h1 (badS s) bp be w' (hsb.acc (hL.up hw) (hG.up hw) hA) hbe
 have kos := fun R1 Z1 L3 H1 r1 z1 l3 h1 zv (hz : zv < 0 ∨ (s.zones.length : Int) ≤ zv) w' (hw : Bel w.heap.size w w') (hA : RdSource w' R1 Z1 L3 H1 r1 z1 l3 h1 s) => of_err R1 Z1 L3 H1 r1 z1 l3 h1 s zv 3 w' (fun w2 hw2 => find_far R1 Z1 L3 H1 r1 z1 l3 h1 s zv w2 ((hsm.acc (hL.up hw) (hG.up hw) hA).up hw2) hac hz) (by decide)
 have kys := fun R1 Z1 L3 H1 r1 z1 l3 h1 zv (hz : zv < 0 ∨ (s.zones.length : Int) ≤ zv) w' (hw : Bel w.heap.size w w') (hA : RdSource w' R1 Z1 L3 H1 r1 z1 l3 h1 s) => year_err R1 Z1 L3 H1 r1 z1 l3 h1 s zv 3 w' (fun w2 hw2 => find_far R1 Z1 L3 H1 r1 z1 l3 h1 s zv w2 ((hsm.acc (hL.up hw) (hG.up hw) hA).up hw2) hac hz) (by decide)
 have kob := fun R1 Z1 L3 H1 r1 z1 l3 h1 zv w' (hw : Bel w.heap.size w w') (hA : RdSource w' R1 Z1 L3 H1 r1 z1 l3 h1 (badS s)) => of_err R1 Z1 L3 H1 r1 z1 l3 h1 (badS s) zv be w' (fun w2 hw2 => find_err R1 Z1 L3 H1 r1 z1 l3 h1 (badS s) zv bp be w2 ((hsb.acc (hL.up hw) (hG.up hw) hA).up hw2) hbe hbn) hbn
 have kyb := fun R1 Z1 L3 H1 r1 z1 l3 h1 w' (hw : Bel w.heap.size w w') (hA : RdSource w' R1 Z1 L3 H1 r1 z1 l3 h1 (badS s)) => year_err R1 Z1 L3 H1 r1 z1 l3 h1 (badS s) 0 be w' (fun w2 hw2 => find_err R1 Z1 L3 H1 r1 z1 l3 h1 (badS s) 0 bp be w2 ((hsb.acc (hL.up hw) (hG.up hw) hA).up hw2) hbe hbn) hbn
 simp only [bad_val] at kcb kob kyb
 have e1 : decide (be = 0) = false := decide_eq_false hbn
 have e2 : (!decide (be = be)) = false := by rw [decide_eq_true rfl]; rfl
 rw [inR_u8] at hwt
 have hnf : 0 ≤ far ∧ far ≤ 4294967295 := hfr
 have hzl : s.zones.length ≤ 100 := hsm.nz
 have hll : s.links.length ≤ 100 := hsm.nl
 refine Does_of_W Tryz.func5 rfl rfl rfl rfl ?_
 repeat (first | (refine js ?_; (first | (apply Stp_call (h := fun w' hw _ => hmk w' hw); rfl; rintro v O' ⟨R1, r1, Z1, z1, L1, l1, H1, h1, Zs1, S1, rfl, hZ1, rfl⟩) | (apply Stp_append; rfl; rfl; (intro A' c'; (focus repeat' constructor)); (intro w' _ hO; exact blkRaw (hO.of (by repeat' constructor))); rfl; rfl; (simp only [maxLen]; omega); omega; intro L3 l3 hc1 hc2 hc3) | (refine bx ?_; intro bk))) | refine walk ?_)
 rename_i bD RA ra ZA za LA la HA ha ZsA SA hZA bS bB
 clear hmk hS hZ hD hbe hbn hac
 repeat (first | (refine js ?_; (first | (apply Stp_call (h := fun w' hw hO => kcb R1 Z1 L3 H1 r1 z1 l3 h1 w' hw (bad_rd hZ1 (hO.of (A := rowR R1 r1 _) (by repeat' constructor)) (hO.of (A := rowZ Z1 z1 _) (by repeat' constructor)) (hO.of (A := .row (.slice L3 (s.links.length + 1) l3) _ _ _ _) (by repeat' constructor)) (hO.of (A := rowS H1 h1 _) (by repeat' constructor)) (hO.of (A := .fact S1 (ErasAt Zs1)) (by repeat' constructor)))); rfl; rintro v O' ⟨⟨p1, p2, p3, rfl⟩, rfl⟩) | (refine bx ?_; intro bk))) | refine walk ?_)
 generalize bk = bI
 refine W_loopF [(7, .pointer (some ⟨bS, 0, none⟩)), (8, .pointer (some ⟨bB, 0, none⟩)), (9, .int .i64 far), (11, .int .i64 be), (1, .int .u8 what), (54, .slice (some ⟨bI, 0, none⟩) 2 2), (55, .int .i64 2)]
  [.blk bS [.slice RA s.rules.length ra, .slice ZA s.zones.length za, .slice LA s.links.length la, .slice HA s.shifts.length ha] 45, rowR RA ra s.rules, rowZ ZA za ZsA, rowL LA la s.links, rowS HA ha s.shifts, .fact SA (ErasAt ZsA),
   .blk bB [.slice R1 s.rules.length r1, .slice Z1 s.zones.length z1, .slice L3 (s.links.length + 1) l3, .slice H1 s.shifts.length h1] 45, rowR R1 r1 s.rules, rowZ Z1 z1 Zs1, .row (.slice L3 (s.links.length + 1) l3) 63 2 (s.links.length + 1) (s.links.flatMap DLink.enc ++ [.string ⟨#[78, 111, 119, 104, 101, 114, 101]⟩, .string ⟨#[88]⟩]), rowS H1 h1 s.shifts, .fact S1 (ErasAt Zs1), .blk bI [.int .i64 (-1 - far), .int .i64 (s.zones.length + far)] 3]
  (fun k : Nat => [(56, .int .i64 k)]) (fun _ => []) (fun k => k ≤ 2) (fun k => 2 - k) 0 SFA SOA (Nat.zero_le _) ?_
 intro k hk
 have hkc : k = 0 ∨ k = 1 ∨ k = 2 := by omega
 rcases hkc with rfl | rfl | rfl
 ·obtain ⟨zv, hzq⟩ : ∃ zv, -1 - far = zv := ⟨_, rfl⟩
  have hzv : zv < 0 ∨ (s.zones.length : Int) ≤ zv := .inl (by omega)
  rw [hzq]
  repeat (first | refine wkFtX0 ?_ | (refine js ?_; (refine bx ?_; intro bk)))
  exact ⟨1, by omega, by omega, SFA, SOA⟩
 ·obtain ⟨zv, hzq⟩ : ∃ zv, (s.zones.length : Int) + far = zv := ⟨_, rfl⟩
  have hzv : zv < 0 ∨ (s.zones.length : Int) ≤ zv := .inr (by omega)
  rw [hzq]
  repeat (first | refine wkFtX0 ?_ | (refine js ?_; (refine bx ?_; intro bk)))
  exact ⟨2, by omega, by omega, SFA, SOA⟩
 clear kcb kos kys kob kyb e1 e2 hsb hsm hk
 repeat (first | (refine js ?_; (first | (refine callE (fun w' _ => ftSun_spec 8 w') ?_) | (refine callE (fun w' _ => ftRule_spec 3 3 0 8 0 0 w') ?_) | (refine bx ?_; intro bk))) | refine walkB ?_)
 generalize bk = br
 have hn0 : 0 ≤ far := hnf.1
 have hm2 : far % 2 = 0 ∨ far % 2 = 1 := by omega
 have hm10 : far % 10 = 0 ∨ far % 10 = 1 ∨ far % 10 = 2 ∨ far % 10 = 3 ∨ far % 10 = 4 ∨ far % 10 = 5 ∨ far % 10 = 6 ∨ far % 10 = 7 ∨ far % 10 = 8 ∨ far % 10 = 9 := by omega
 have hw8 : what % 8 = 0 ∨ what % 8 = 1 ∨ what % 8 = 2 ∨ what % 8 = 3 ∨ what % 8 = 4 ∨ what % 8 = 5 ∨ what % 8 = 6 ∨ what % 8 = 7 := by omega
 generalize what % 8 = x at *
 refine W_post (fun fr' O' => ∃ rr : DRule, (∀ off before, dateD rr off before = (dt0, 2)) ∧ Sub [(9, .int .i64 far), (22, .pointer (some ⟨br, 0, none⟩))] fr' ∧ SubO [.blk br [.string rr.name, .int .i64 rr.from_, .int .i64 rr.to, .int .i64 rr.month, .int .i64 rr.day.kind, .int .i64 rr.day.week, .int .i64 rr.day.day, .int .i64 rr.at_.sec, .int .i64 rr.at_.base, .int .i64 rr.save, .string rr.letter] 27] O') ?_ ?_
 ·rcases hw8 with rfl | rfl | rfl | rfl | rfl | rfl | rfl | rfl
  ·repeat (first | (apply RL_pu; rfl; exact PuFtX1) | (refine js ?_; (refine bx ?_; intro bk)) | refine walk1 ?_)
   exact ⟨rfl, badR 0 far, badR_date 0 far hn0, SFA, SOA⟩
  ·rcases hm2 with h | h
   ·repeat (first | (apply RL_pu; rfl; exact PuFtX2) | (refine js ?_; (refine bx ?_; intro bk)) | refine walk1 ?_)
    exact ⟨rfl, { ruleF 3 (sunD 8) 0 0 with month := -far }, fun off before => by have := badR_date 1 far hn0 off before; unfold badR at this; rw [if_neg (by decide), if_pos rfl, if_pos h] at this; exact this, SFA, SOA⟩
   ·repeat (first | (apply RL_pu; rfl; exact PuFtX2) | (refine js ?_; (refine bx ?_; intro bk)) | refine walk1 ?_)
    exact ⟨rfl, { ruleF 3 (sunD 8) 0 0 with month := 13 + far }, fun off before => by have := badR_date 1 far hn0 off before; unfold badR at this; rw [if_neg (by decide), if_pos rfl, if_neg (by omega)] at this; exact this, SFA, SOA⟩
  ·repeat (first | (apply RL_pu; rfl; exact PuFtX1) | (refine js ?_; (refine bx ?_; intro bk)) | refine walk1 ?_)
   exact ⟨rfl, badR 2 far, badR_date 2 far hn0, SFA, SOA⟩
  ·rcases hm10 with h | h | h | h | h | h | h | h | h | h
   ·repeat (first | (apply RL_pu; rfl; exact PuFtX3) | (refine js ?_; (first | (refine callE (fun w' _ => ftSun_spec 2 w') ?_) | (refine bx ?_; intro bk))) | refine walk1 ?_)
    exact ⟨rfl, { ruleF 3 (sunD 8) 0 0 with day := sunD 2 }, noDate_or (.inr rfl), SFA, SOA⟩
   ·repeat (first | (apply RL_pu; rfl; exact PuFtX3) | (refine js ?_; (first | (refine callE (fun w' _ => ftSun_spec 7 w') ?_) | (refine bx ?_; intro bk))) | refine walk1 ?_)
    exact ⟨rfl, { ruleF 3 (sunD 8) 0 0 with day := sunD 7 }, noDate_or (.inr rfl), SFA, SOA⟩
   ·repeat (first | (apply RL_pu; rfl; exact PuFtX3) | (refine js ?_; (first | (refine callE (fun w' _ => ftSun_spec 9 w') ?_) | (refine bx ?_; intro bk))) | refine walk1 ?_)
    exact ⟨rfl, { ruleF 3 (sunD 8) 0 0 with day := sunD 9 }, noDate_or (.inr rfl), SFA, SOA⟩
   ·repeat (first | (apply RL_pu; rfl; exact PuFtX3) | (refine js ?_; (first | (refine callE (fun w' _ => ftSun_spec 14 w') ?_) | (refine bx ?_; intro bk))) | refine walk1 ?_)
    exact ⟨rfl, { ruleF 3 (sunD 8) 0 0 with day := sunD 14 }, noDate_or (.inr rfl), SFA, SOA⟩
   ·repeat (first | (apply RL_pu; rfl; exact PuFtX3) | (refine js ?_; (first | (refine callE (fun w' _ => ftSun_spec 16 w') ?_) | (refine bx ?_; intro bk))) | refine walk1 ?_)
    exact ⟨rfl, { ruleF 3 (sunD 8) 0 0 with day := sunD 16 }, noDate_or (.inr rfl), SFA, SOA⟩
   ·repeat (first | (apply RL_pu; rfl; exact PuFtX3) | (refine js ?_; (first | (refine callE (fun w' _ => ftSun_spec 21 w') ?_) | (refine bx ?_; intro bk))) | refine walk1 ?_)
    exact ⟨rfl, { ruleF 3 (sunD 8) 0 0 with day := sunD 21 }, noDate_or (.inr rfl), SFA, SOA⟩
   ·repeat (first | (apply RL_pu; rfl; exact PuFtX3) | (refine js ?_; (first | (refine callE (fun w' _ => ftSun_spec 23 w') ?_) | (refine bx ?_; intro bk))) | refine walk1 ?_)
    exact ⟨rfl, { ruleF 3 (sunD 8) 0 0 with day := sunD 23 }, noDate_or (.inr rfl), SFA, SOA⟩
   ·repeat (first | (apply RL_pu; rfl; exact PuFtX3) | (refine js ?_; (first | (refine callE (fun w' _ => ftSun_spec 28 w') ?_) | (refine bx ?_; intro bk))) | refine walk1 ?_)
    exact ⟨rfl, { ruleF 3 (sunD 8) 0 0 with day := sunD 28 }, noDate_or (.inr rfl), SFA, SOA⟩
   ·repeat (first | (apply RL_pu; rfl; exact PuFtX3) | (refine js ?_; (first | (refine callE (fun w' _ => ftSun_spec 29 w') ?_) | (refine bx ?_; intro bk))) | refine walk1 ?_)
    exact ⟨rfl, { ruleF 3 (sunD 8) 0 0 with day := sunD 29 }, noDate_or (.inr rfl), SFA, SOA⟩
   ·repeat (first | (apply RL_pu; rfl; exact PuFtX3) | (refine js ?_; (first | (refine callE (fun w' _ => ftSun_spec 31 w') ?_) | (refine bx ?_; intro bk))) | refine walk1 ?_)
    exact ⟨rfl, { ruleF 3 (sunD 8) 0 0 with day := sunD 31 }, noDate_or (.inr rfl), SFA, SOA⟩
  ·repeat (first | (apply RL_pu; rfl; exact PuFtX1) | (refine js ?_; (first | (refine callE (fun w' _ => ftFixed_spec (29 + far % 3) w') ?_) | (refine bx ?_; intro bk))) | refine walk1 ?_)
   exact ⟨rfl, badR 4 far, badR_date 4 far hn0, SFA, SOA⟩
  ·repeat (first | (apply RL_pu; rfl; exact PuFtX1) | (refine js ?_; (refine bx ?_; intro bk)) | refine walk1 ?_)
   exact ⟨rfl, badR 5 far, badR_date 5 far hn0, SFA, SOA⟩
  ·repeat (first | (apply RL_pu; rfl; exact PuFtX1) | (refine js ?_; (refine bx ?_; intro bk)) | refine walk1 ?_)
   exact ⟨rfl, badR 6 far, badR_date 6 far hn0, SFA, SOA⟩
  ·repeat (first | (apply RL_pu; rfl; exact PuFtX1) | (refine js ?_; (refine bx ?_; intro bk)) | refine walk1 ?_)
   exact ⟨rfl, badR 7 far, badR_date 7 far hn0, SFA, SOA⟩
 rintro fr' O' ⟨rr, hrr, hf, hO⟩
 apply thenQ_n
 refine W_sub hf hO ?_
 clear hf hO fr' O' hm2 hm10 hw8
 have hfl : ∀ w', Bel w.heap.size w w' → Does Tryz.prog 24 [.agg rr.enc.toArray] w' (fun v O => v = .bool true ∧ O = []) := fun w' hw => failsT rr w' (hG.up hw) (hF.up hw) (hrr 0 0)
 have hdb : ∀ off before w', Bel w.heap.size w w' → Does Tryz.prog 12 [.agg rr.enc.toArray, .int .i64 off, .int .i64 before] w' (fun v O => v = .tuple #[.agg #[.int .i64 0, .int .i64 0, .int .i64 0, .int .i64 0, .int .i64 0], .int .i64 2] ∧ O = []) := fun off before w' hw => fdateT rr off before dt0 2 w' (hG.up hw) (hF.up hw) (hrr off before)
 have hdg : ∀ off before, (inClk off = false ∨ inClk before = false ∨ inClk (off + before) = false) → ∀ w', Bel w.heap.size w w' → Does Tryz.prog 12 [.agg #[.string eireN, .int .i64 1972, .int .i64 1048576, .int .i64 3, .int .i64 3, .int .i64 0, .int .i64 8, .int .i64 0, .int .i64 2, .int .i64 0, .string ByteArray.empty], .int .i64 off, .int .i64 before] w' (fun v O => v = .tuple #[.agg #[.int .i64 0, .int .i64 0, .int .i64 0, .int .i64 0, .int .i64 0], .int .i64 3] ∧ O = []) := fun off before hq w' hw => fdateT (ruleF 3 (sunD 8) 0 0) off before dt0 3 w' (hG.up hw) (hF.up hw) (good_far off before hq)
 clear hrr
 obtain ⟨nm, rf, rt, mo, ⟨dk, dw, dd⟩, ⟨tc, tb⟩, sv, le⟩ := rr
 dsimp only
 repeat (first | (apply RL_pu; rfl; (apply Pu_buildArr; rfl; rfl; (focus repeat (first | exact Nf.nil | apply Nf.cons)))) | (refine js ?_; (first | (refine callE (fun w' _ => ftSun_spec 8 w') ?_) | (refine callE (fun w' _ => ftRule_spec 3 3 0 8 0 0 w') ?_) | (refine bx ?_; intro bk))) | refine walk1 ?_)
 rename_i bg
 generalize bk = bA
 refine W_loopF [(22, .pointer (some ⟨br, 0, none⟩)), (23, .pointer (some ⟨bg, 0, none⟩)), (175, .slice (some ⟨bA, 0, none⟩) 3 3), (176, .int .i64 3)]
  [.blk br [.string nm, .int .i64 rf, .int .i64 rt, .int .i64 mo, .int .i64 dk, .int .i64 dw, .int .i64 dd, .int .i64 tc, .int .i64 tb, .int .i64 sv, .string le] 27, .blk bg [.string eireN, .int .i64 1972, .int .i64 1048576, .int .i64 3, .int .i64 3, .int .i64 0, .int .i64 8, .int .i64 0, .int .i64 2, .int .i64 0, .string ByteArray.empty] 27, .blk bA [.int .i64 (604800 + far), .int .i64 0, .int .i64 0, .int .i64 (-604800 - far), .int .i64 604799, .int .i64 1] 75]
  (fun k : Nat => [(177, .int .i64 k)]) (fun _ => []) (fun k => k ≤ 3) (fun k => 3 - k) 0 SFA SOA (Nat.zero_le _) ?_
 intro k hk
 have hkc : k = 0 ∨ k = 1 ∨ k = 2 ∨ k = 3 := by omega
 rcases hkc with rfl | rfl | rfl | rfl
 ·have hq := hdg (604800 + far) 0 (by refine .inl ?_; unfold inClk; rw [decide_eq_true (show (-604799 : Int) ≤ 604800 + far by omega), decide_eq_false (show ¬ (604800 + far ≤ 604799) by omega)]; rfl)
  have hq2 := hdb (604800 + far) 0
  repeat (first | refine und ?_ | (apply RL_pu; rfl; exact PuFtX5) | (refine js ?_; (first | (refine callE hq ?_) | (refine callE hq2 ?_) | (refine bx ?_; intro bk))) | refine walk1 ?_)
  exact ⟨1, by omega, by omega, SFA, SOA⟩
 ·have hq := hdg 0 (-604800 - far) (by refine .inr (.inl ?_); unfold inClk; rw [decide_eq_false (show ¬ (-604799 : Int) ≤ -604800 - far by omega)]; rfl)
  have hq2 := hdb 0 (-604800 - far)
  repeat (first | refine und ?_ | (apply RL_pu; rfl; exact PuFtX5) | (refine js ?_; (first | (refine callE hq ?_) | (refine callE hq2 ?_) | (refine bx ?_; intro bk))) | refine walk1 ?_)
  exact ⟨2, by omega, by omega, SFA, SOA⟩
 ·have hq := hdg 604799 1 (by exact .inr (.inr rfl))
  have hq2 := hdb 604799 1
  repeat (first | refine und ?_ | (apply RL_pu; rfl; exact PuFtX5) | (refine js ?_; (first | (refine callE hq ?_) | (refine callE hq2 ?_) | (refine bx ?_; intro bk))) | refine walk1 ?_)
  exact ⟨3, by omega, by omega, SFA, SOA⟩
 repeat (first | (refine js ?_; (first | (refine callE hfl ?_) | (refine callE hwk ?_) | (refine bx ?_; intro bk))) | refine walk ?_)
 exact rtA
end Go.Proofs.YtonjepladadmhaaGreatDoor
