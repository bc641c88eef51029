/- Contract: analemmalaw25.Draft: Made. -/
import Derived.Test.YtbjkhnlnedfceaaGreatDoorU37
set_option maxHeartbeats 4000000
set_option linter.unusedVariables false
set_option linter.unusedSimpArgs false
namespace Go.Proofs.YtbjkhnlnedfceaaGreatDoor
open Go Go.RowKit Go.Wk
attribute [local irreducible] W RL Does thenQ blockQ retQ Calls Pu Stp RD Qy Ay DoesIn pk made17 era25 eras25 tils25 zone25 zones25 link25 links25 rules25
structure RG where
 k : Nat
 A : Option Addr
 c : Nat
 m : Nat
 xs : List Value
structure EG where
 k : Nat
 n : Int
 A : Option Addr
 c : Nat
 m : Nat
 xs : List Value
structure TG25 where
 k : Nat
 n : Int
 y : Int
 es : List DEra
structure ZG where
 k : Nat
 n : Int
 A : Option Addr
 c : Nat
 m : Nat
 xs : List Value
 Zr : List ZE
def dr25V (As Al : Option Addr) (cs c : Nat) (d : DDr) : Value := .agg #[.slice As d.sets.length cs, .int .u8 d.zones, .int .u8 d.links, .slice Al d.L.length c]
theorem wkMade250 {G G' : Prop} (k : G') (h : Hold G' → G := by intro k9; (first | refine walk ?_ | (refine jn ?_; (try intro F); (first | (refine stA ?_) | (apply Stp_pu; exact PuA)); refine fin ?_)); exact k9.out) : G := h ⟨k⟩
theorem PuMade250 {G : Prop} (h : G := by (first | (apply Pu_indexAddr (t := 29); rfl; rfl; omega; omega; (intro h; cases h)) | (apply Pu_indexAddr; rfl; rfl; omega; omega; exact hAn) | exact PuI | (apply Pu_load1 (v := .string (setN25.getD k ByteArray.empty)); rfl; (intro w' _ hO; exact ((litRd (c := 2) (l := setN25) strEnc.len (Nat.le_refl 2) (by decide) (hO.of (A := .blk bs (setN25.flatMap strEnc) _) (by repeat' constructor))).rd _ _ hsn).2 0 _ rfl)))) : G := h
theorem QyMade250 {G : Prop} (h : G := by first | (apply Qy_y; rfl; exact PuMade250) | exact QyA) : G := h
theorem QFMade250 {G : Prop} (h : G := by repeat (first | exact QF.nil | (apply QF.mk; rfl; rfl; decide +kernel; exact QyMade250))) : G := h
theorem PuMade251 {G : Prop} (h : G := by (first | (apply Pu_indexAddrH; rfl; rfl; omega; omega; (intro w' _ hO; exact row_some (hO.of (by repeat' constructor)) (by omega))) | (apply Pu_fieldAddrA; rfl) | (apply Pu_loadR; rfl; (focus repeat' constructor); exact hx1))) : G := h
theorem QyMade251 {G : Prop} (h : G := by first | (apply Qy_y; rfl; exact PuMade251) | exact QyA) : G := h
theorem QFMade251 {G : Prop} (h : G := by repeat (first | exact QF.nil | (apply QF.mk; rfl; rfl; decide +kernel; exact QyMade251))) : G := h
theorem PuMade252 {G : Prop} (h : G := by (first | (apply Pu_indexAddr (t := 29); rfl; rfl; omega; omega; (intro h; cases h)) | (apply Pu_load1 (v := .string (linkN25.getD (k - 1) ByteArray.empty)); rfl; (intro w' _ hO; exact ((litRd (c := 3) (l := linkN25) strEnc.len (Nat.le_refl 3) (by decide) (hO.of (A := .blk bm (linkN25.flatMap strEnc) _) (by repeat' constructor))).rd _ _ hl1).2 0 _ rfl)) | (apply Pu_load1 (v := .string (linkN25.getD k ByteArray.empty)); rfl; (intro w' _ hO; exact ((litRd (c := 3) (l := linkN25) strEnc.len (Nat.le_refl 3) (by decide) (hO.of (A := .blk bm (linkN25.flatMap strEnc) _) (by repeat' constructor))).rd _ _ hl0).2 0 _ rfl)))) : G := h
theorem QyMade252 {G : Prop} (h : G := by first | (apply Qy_y; rfl; exact PuMade252) | exact QyA) : G := h
theorem QFMade252 {G : Prop} (h : G := by repeat (first | exact QF.nil | (apply QF.mk; rfl; rfl; decide +kernel; exact QyMade252))) : G := h
theorem PuMade253 {G : Prop} (h : G := by (first | (apply Pu_indexAddr (t := 29); rfl; rfl; omega; omega; (intro h; cases h)) | (apply Pu_load1 (v := .string (linkN25.getD k ByteArray.empty)); rfl; (intro w' _ hO; exact ((litRd (c := 3) (l := linkN25) strEnc.len (Nat.le_refl 3) (by decide) (hO.of (A := .blk bm (linkN25.flatMap strEnc) _) (by repeat' constructor))).rd _ _ hl0).2 0 _ rfl)))) : G := h
theorem QyMade253 {G : Prop} (h : G := by first | (apply Qy_y; rfl; exact PuMade253) | exact QyA) : G := h
theorem QFMade253 {G : Prop} (h : G := by repeat (first | exact QF.nil | (apply QF.mk; rfl; rfl; decide +kernel; exact QyMade253))) : G := h
theorem PuMade254 {G : Prop} (h : G := by (first | (apply Pu_indexAddr (t := 29); rfl; rfl; omega; omega; (intro h; cases h)) | (apply Pu_load1 (v := .string (zoneN25.getD k ByteArray.empty)); rfl; (intro w' _ hO; exact ((litRd (c := 3) (l := zoneN25) strEnc.len (Nat.le_refl 3) (by decide) (hO.of (A := .blk bz (zoneN25.flatMap strEnc) _) (by repeat' constructor))).rd _ _ hzn).2 0 _ rfl)))) : G := h
theorem QyMade254 {G : Prop} (h : G := by first | (apply Qy_y; rfl; exact PuMade254) | exact QyA) : G := h
theorem QFMade254 {G : Prop} (h : G := by repeat (first | exact QF.nil | (apply QF.mk; rfl; rfl; decide +kernel; exact QyMade254))) : G := h
theorem PuMade255 {G : Prop} (h : G := by (first | (apply Pu_indexAddr (t := 29); rfl; rfl; omega; omega; (intro h; cases h)) | (apply Pu_mul; rfl; rfl; omega) | (apply Pu_load1 (v := .string (fmt25.getD (pk d.L (en + 1) 4).toNat ByteArray.empty)); rfl; (intro w' _ hO; exact ((litRd (c := 4) (l := fmt25) strEnc.len (Nat.le_refl 4) (by decide) (hO.of (A := .blk bk (fmt25.flatMap strEnc) _) (by repeat' constructor))).rd _ _ hfm).2 0 _ rfl)))) : G := h
theorem QyMade255 {G : Prop} (h : G := by first | (apply Qy_y; rfl; exact PuMade255) | exact QyA) : G := h
theorem QFMade255 {G : Prop} (h : G := by repeat (first | exact QF.nil | (apply QF.mk; rfl; rfl; decide +kernel; exact QyMade255))) : G := h
theorem PuMade256 {G : Prop} (h : G := by (first | (apply Pu_indexAddr (t := 29); rfl; rfl; omega; omega; (intro h; cases h)) | (apply Pu_indexAddr; rfl; rfl; omega; omega; exact hAn) | exact PuI | (apply Pu_load1 (v := .string (setN25.getD (pk d.L (en + 1 + 1 + 1) d.made).toNat ByteArray.empty)); rfl; (intro w' _ hO; exact ((litRd (c := 2) (l := setN25) strEnc.len (Nat.le_refl 2) (by decide) (hO.of (A := .blk bs (setN25.flatMap strEnc) _) (by repeat' constructor))).rd _ _ hsn).2 0 _ rfl)) | (apply Pu_conv8; rfl; omega; omega))) : G := h
theorem QyMade256 {G : Prop} (h : G := by first | (apply Qy_y; rfl; exact PuMade256) | exact QyA) : G := h
theorem QFMade256 {G : Prop} (h : G := by repeat (first | exact QF.nil | (apply QF.mk; rfl; rfl; decide +kernel; exact QyMade256))) : G := h
theorem PuMade257 {G : Prop} (h : G := by (apply Pu_mul; rfl; rfl; omega)) : G := h
theorem QyMade257 {G : Prop} (h : G := by first | (apply Qy_y; rfl; exact PuMade257) | exact QyA) : G := h
theorem QFMade257 {G : Prop} (h : G := by repeat (first | exact QF.nil | (apply QF.mk; rfl; rfl; decide +kernel; exact QyMade257))) : G := h
theorem PuMade258 {G : Prop} (h : G := by (apply Pu_sliceH; rfl; rfl; omega; omega)) : G := h
theorem QyMade258 {G : Prop} (h : G := by first | (apply Qy_y; rfl; exact PuMade258) | exact QyA) : G := h
theorem QFMade258 {G : Prop} (h : G := by repeat (first | exact QF.nil | (apply QF.mk; rfl; rfl; decide +kernel; exact QyMade258))) : G := h
theorem PuMade259 {G : Prop} (h : G := by (first | (apply Pu_indexAddrH; rfl; rfl; omega; omega; (intro w' _ hO; exact row_some (hO.of (by repeat' constructor)) (by omega))) | (apply Pu_fieldAddrA; rfl) | (apply Pu_mul; rfl; rfl; omega))) : G := h
theorem QyMade259 {G : Prop} (h : G := by first | (apply Qy_y; rfl; exact PuMade259) | exact QyA) : G := h
theorem QFMade259 {G : Prop} (h : G := by repeat (first | exact QF.nil | (apply QF.mk; rfl; rfl; decide +kernel; exact QyMade259))) : G := h
set_option maxHeartbeats 8000000 in
theorem made25_spec (As Al : Option Addr) (cs c : Nat) (d : DDr) (w : World) (hS : RdSets w As cs d.sets) (hL : RdSl w Al c byEnc 1 d.L) (hr : ∀ x ∈ d.L, inR .u8 x) (hrs : ∀ l ∈ d.sets, ∀ x ∈ l, inR .u8 x) (hz : inR .u8 d.zones) (hl : inR .u8 d.links) :
  Does Tryz.prog 8 [dr25V As Al cs c d] w (NewSrcR (made25 d)) := by
 have hs1 := hS.le
 have hs2 := hS.cap
 simp only [maxLen] at hs2
 rw [inR_u8] at hz hl
 have hmade : d.made ≤ 2 := Nat.min_le_right _ _
 have hmade2 : d.made ≤ d.sets.length := Nat.min_le_left _ _
 refine Does_of_W Tryz.func8 rfl rfl rfl rfl ?_
 repeat (first | ((apply RL_pu; rfl; apply Pu_minI; rfl; rfl)) | refine walkB ?_ | (refine jg ?_; (try intro F); (first | (apply Stp_call (h := fun w' _ _ => names25_spec w'); rfl; rintro v O' ⟨bs, bz, bm, rfl, rfl⟩) | (refine bx ?_; intro bk) | (refine stA ?_)); refine fin ?_) | (refine jn ?_; (try intro F); (first | (refine bx ?_; intro bk) | (refine stA ?_) | (apply Stp_pu; exact PuA)); refine fin ?_) | (apply RD_W; rfl; intro bk))
 rename_i b1 b2 b3
 generalize bk = b8
 rw [show (if (2 : Int) < d.sets.length then (2 : Int) else d.sets.length) = (d.made : Int) from by unfold DDr.made; split <;> omega]
 refine W_nil 39 11 (W_nil 43 2 (W_nil 89 2 (W_nil 9 1 ?_)))
 refine W_post (fun fr' O' => ∃ A1 c1, Sub [(1, .pointer (some ⟨b1, 0, none⟩)), (2, .pointer (some ⟨b2, 0, none⟩)), (3, .pointer (some ⟨b3, 0, none⟩)), (4, .func (.func 32) #[] #[.pointer (some ⟨b3, 0, none⟩), .pointer (some ⟨b1, 0, none⟩)]), (5, .slice (some ⟨bs, 0, none⟩) 2 2), (6, .slice (some ⟨bz, 0, none⟩) 3 3), (7, .slice (some ⟨bm, 0, none⟩) 3 3), (8, .pointer (some ⟨b8, 0, none⟩)), (9, .int .i64 d.made)] fr' ∧ SubO [.blk b8 [.slice A1 (rules25 d.sets d.made).length c1, .slice none 0 0, .slice none 0 0, .slice none 0 0] 31, rowR A1 c1 (rules25 d.sets d.made), rowZ none 0 [], rowL none 0 [], rowS none 0 [], .blk b3 [.int .i64 0] 3, .blk b1 [.slice As d.sets.length cs, .int .u8 d.zones, .int .u8 d.links, .slice Al d.L.length c] 25, .blk b2 [.slice none 0 0, .slice none 0 0, .slice none 0 0, .slice none 0 0] 31, .blk bs (setN25.flatMap strEnc) 9, .blk bz (zoneN25.flatMap strEnc) 9, .blk bm (linkN25.flatMap strEnc) 9] O') ?_ ?_
 ·apply W_block
  refine W_loopF [(1, .pointer (some ⟨b1, 0, none⟩)), (2, _), (3, _), (4, _), (5, .slice (some ⟨bs, 0, none⟩) 2 2), (6, _), (7, _), (8, .pointer (some ⟨b8, 0, none⟩)), (9, .int .i64 d.made), (31, .int .i64 d.made)] [rowZ none 0 [], rowL none 0 [], rowS none 0 [], .blk b3 [.int .i64 0] 3, .blk b1 [.slice As d.sets.length cs, .int .u8 d.zones, .int .u8 d.links, .slice Al d.L.length c] 25, .blk b2 [.slice none 0 0, .slice none 0 0, .slice none 0 0, .slice none 0 0] 31, .blk bs (setN25.flatMap strEnc) 9, .blk bz (zoneN25.flatMap strEnc) 9, .blk bm (linkN25.flatMap strEnc) 9] (fun g : RG => [(32, .int .i64 g.k)]) (fun g => [.blk b8 [.slice g.A g.m g.c, .slice none 0 0, .slice none 0 0, .slice none 0 0] 31, .row (.slice g.A g.m g.c) 39 11 g.m g.xs]) (fun g => g.k ≤ d.made ∧ g.m = (rules25 d.sets g.k).length ∧ g.xs = (rules25 d.sets g.k).flatMap DRule.enc) (fun g => d.made - g.k) ⟨0, none, 0, 0, []⟩ SFA SOA ⟨Nat.zero_le _, by simp [rules25], by simp [rules25]⟩ ?_
  rintro ⟨k, A0, c0, m0, x0⟩ ⟨hk, hm0, hx0⟩
  dsimp only at hk hm0 hx0 ⊢
  repeat (first | refine wkMade250 ?_ | (refine jn ?_; (try intro F); (refine bx ?_; intro bk); refine fin ?_) | (apply RD_W; rfl; intro bk))
  refine W_cond rfl (fun h => ?_) (fun h => ?_)
  ·have hk2 : k < d.made := by simpa using h
   have hks : k < d.sets.length := by omega
   obtain ⟨hAn, B, cb, hB, hca⟩ := hS.rd k _ (List.getElem?_eq_getElem hks)
   have hrl := hrs _ (List.getElem_mem hks)
   have hstep : rules25 d.sets (k + 1) = rules25 d.sets k ++ made17 d.sets[k] (setN25.getD k ByteArray.empty) := by
    rw [rules25, List.getD_eq_getElem?_getD, List.getElem?_eq_getElem hks]
    rfl
   have hlen := rules25_len d.sets k
   have hlen2 := made17_len d.sets[k] (setN25.getD k ByteArray.empty)
   have hsn : setN25[k]? = some (setN25.getD k ByteArray.empty) := by
    have : k < setN25.length := by simp only [setN25, List.length_cons, List.length_nil]; omega
    rw [List.getD_eq_getElem?_getD, List.getElem?_eq_getElem this]
    rfl
   generalize d.sets[k] = l at *
   repeat (first | (apply RL_pu; rfl; exact PuMade250) | (apply RD_Q; rfl; rfl; decide +kernel; rfl; rfl; exact QyMade250) | refine walk1 ?_ | (refine jg ?_; (try intro F); (first | (apply Stp_call (h := fun w' hw _ => made17_spec B cb l (setN25.getD k ByteArray.empty) w' (hB.up hw) hrl); rfl; rintro v O' ⟨A1, c1, rfl, rfl⟩) | (apply Stp_append; rfl; rfl; (intro A' c'; (focus repeat' constructor)); (intro w' _ hO; exact rowRaw (hO.of (A := .row (.slice A1 _ c1) _ _ _ _) (by repeat' constructor))); exact flat_len DRule.len _; exact all_flat oneR _; (simp only [maxLen]; omega); omega; intro A' c' hc1 hc2 hc3) | (refine bx ?_; intro bk) | (refine stA ?_)); first | refine ⟨_, EndsA, QFMade250, ?_⟩ | refine fin ?_) | (refine jn ?_; (try intro F); (first | (apply Stp_append; rfl; rfl; (intro A' c'; (focus repeat' constructor)); (intro w' _ hO; exact rowRaw (hO.of (A := .row (.slice A1 _ c1) _ _ _ _) (by repeat' constructor))); exact flat_len DRule.len _; exact all_flat oneR _; (simp only [maxLen]; omega); omega; intro A' c' hc1 hc2 hc3) | (refine bx ?_; intro bk) | (refine stA ?_) | (apply Stp_pu; first | exact PuMade250 | exact PuA)); first | refine ⟨_, EndsA, QFMade250, ?_⟩ | refine fin ?_) | (apply RD_W; rfl; intro bk))
   exact ⟨⟨k + 1, A', c', m0 + (made17 l (setN25.getD k ByteArray.empty)).length, x0 ++ (made17 l (setN25.getD k ByteArray.empty)).flatMap DRule.enc⟩, OA, ⟨OA, by rw [hstep, List.length_append, hm0], by rw [hstep, List.flatMap_append, hx0]⟩, SFA, SOA⟩
  have hk2 : k = d.made := by simp only [decide_eq_false_iff_not, Int.ofNat_lt] at h; omega
  subst hm0 hx0
  rw [hk2]
  repeat (first | refine wkMade250 ?_ | (refine jn ?_; (try intro F); (refine bx ?_; intro bk); refine fin ?_) | (apply RD_W; rfl; intro bk))
  exact ⟨rfl, A0, c0, SFA, SOA⟩
 rintro fr' O' ⟨A1, c1, hf, hO⟩
 apply thenQ_n
 refine W_sub hf hO ?_
 clear hf hO fr' O'
 have hnz : d.zones % 4 = (d.nz : Int) := by unfold DDr.nz; omega
 have hnl : d.links % 4 = (d.nl : Int) := by unfold DDr.nl; omega
 have hnz3 : d.nz ≤ 3 := by unfold DDr.nz; omega
 have hnl3 : d.nl ≤ 3 := by unfold DDr.nl; omega
 have hRR := rules25_len d.sets d.made
 repeat (first | refine walkB ?_ | (refine jn ?_; (try intro F); (first | (refine bx ?_; intro bk) | (refine stA ?_) | (apply Stp_pu; exact PuA)); refine fin ?_) | (apply RD_W; rfl; intro bk))
 unfold made25
 rw [hnz]
 generalize rules25 d.sets d.made = RR at *
 refine W_post (fun fr' O' => ∃ (n : Int) (A : Option Addr) (cc m : Nat) (xs : List Value) (Zr : List ZE), ((0 ≤ n ∧ n ≤ 200) ∧ n = (zones25 d.L d.made d.nz).2 ∧ m = Zr.length ∧ xs = Zr.reverse.flatMap ZE.enc ∧ Zr.reverse.map ZE.z = (zones25 d.L d.made d.nz).1) ∧ Sub [(1, .pointer (some ⟨b1, 0, none⟩)), (2, .pointer (some ⟨b2, 0, none⟩)), (3, .pointer (some ⟨b3, 0, none⟩)), (4, .func (.func 32) #[] #[.pointer (some ⟨b3, 0, none⟩), .pointer (some ⟨b1, 0, none⟩)]), (5, .slice (some ⟨bs, 0, none⟩) 2 2), (6, .slice (some ⟨bz, 0, none⟩) 3 3), (7, .slice (some ⟨bm, 0, none⟩) 3 3), (8, .pointer (some ⟨b8, 0, none⟩)), (9, .int .i64 d.made)] fr' ∧ SubO (.blk b8 [.slice A1 RR.length c1, .slice A m cc, .slice none 0 0, .slice none 0 0] 31 :: .row (.slice A m cc) 43 2 m xs :: .blk b3 [.int .i64 n] 3 :: rowR A1 c1 RR :: rowL none 0 [] :: rowS none 0 [] :: .blk b1 [.slice As d.sets.length cs, .int .u8 d.zones, .int .u8 d.links, .slice Al d.L.length c] 25 :: .blk b2 [.slice none 0 0, .slice none 0 0, .slice none 0 0, .slice none 0 0] 31 :: .blk bs (setN25.flatMap strEnc) 9 :: .blk bz (zoneN25.flatMap strEnc) 9 :: .blk bm (linkN25.flatMap strEnc) 9 :: Zr.map eraRow) O') ?_ ?_
 rotate_left
 ·rintro fr' O' ⟨n, A2, c2, m2, x2, Zr, ⟨⟨rn1, rn2⟩, hn, hm, hx, hzz⟩, hf, hO⟩
  replace hO := SubO.permT (l := [_, _, _, _, _, _, _, _, _, _, _]) hO ((List.reverse_perm Zr).symm.map eraRow)
  apply thenQ_n
  refine W_sub hf hO ?_
  clear hf hO fr' O'
  rw [← List.length_reverse] at hm
  generalize Zr.reverse = Zs at *
  obtain ⟨rg1, rg2, rg3⟩ := zones25_rng d.L d.made d.nz
  rw [← hn]
  generalize (zones25 d.L d.made d.nz).1 = ZS at *
  have hZl : Zs.length = d.nz := by rw [← rg1, ← hzz, List.length_map]
  rw [hZl] at hm
  subst hm hx
  repeat (first | refine wkMade250 ?_ | (refine jn ?_; (try intro F); (refine bx ?_; intro bk); refine fin ?_) | (apply RD_W; rfl; intro bk))
  rw [hnl]
  refine W_loopF [(177, .int .i64 d.nl), (1, .pointer (some ⟨b1, 0, none⟩)), (2, .pointer (some ⟨b2, 0, none⟩)), (3, .pointer (some ⟨b3, 0, none⟩)), (4, .func (.func 32) #[] #[.pointer (some ⟨b3, 0, none⟩), .pointer (some ⟨b1, 0, none⟩)]), (5, .slice (some ⟨bs, 0, none⟩) 2 2), (6, .slice (some ⟨bz, 0, none⟩) 3 3), (7, .slice (some ⟨bm, 0, none⟩) 3 3), (8, .pointer (some ⟨b8, 0, none⟩)), (9, .int .i64 d.made)] (.row (.slice A2 d.nz c2) 43 2 d.nz (Zs.flatMap ZE.enc) :: rowR A1 c1 RR :: rowS none 0 [] :: .blk b1 [.slice As d.sets.length cs, .int .u8 d.zones, .int .u8 d.links, .slice Al d.L.length c] 25 :: .blk b2 [.slice none 0 0, .slice none 0 0, .slice none 0 0, .slice none 0 0] 31 :: .blk bs (setN25.flatMap strEnc) 9 :: .blk bz (zoneN25.flatMap strEnc) 9 :: .blk bm (linkN25.flatMap strEnc) 9 :: Zs.map eraRow) (fun g : EG => [(178, .int .i64 g.k)]) (fun g => [.blk b8 [.slice A1 RR.length c1, .slice A2 d.nz c2, .slice g.A g.m g.c, .slice none 0 0] 31, .row (.slice g.A g.m g.c) 89 2 g.m g.xs, .blk b3 [.int .i64 g.n] 3])
   (fun g => g.k ≤ d.nl ∧ (d.nz = 0 → g.k = 0) ∧ g.n = (links25 d.L ZS n g.k).2 ∧ g.m = (links25 d.L ZS n g.k).1.length ∧ g.xs = (links25 d.L ZS n g.k).1.flatMap DLink.enc) (fun g => d.nl - g.k) ⟨0, n, none, 0, 0, []⟩ SFA STA ⟨Nat.zero_le _, fun _ => rfl, by simp [links25], by simp [links25], by simp [links25]⟩ ?_
  rintro ⟨k, ln, A3, c3, m3, x3⟩ ⟨hk, hk0, hln, hm3, hx3⟩
  dsimp only at hk hk0 hln hm3 hx3 ⊢
  obtain ⟨rl1, rl2, rl3⟩ := links25_rng d.L ZS n k
  rw [← hln] at rl2 rl3
  rw [rl1] at hm3
  have fin9 : ∀ ls : List DLink, ls = (links25 d.L ZS n k).1 → (ls = if d.nz = 0 then [] else (links25 d.L ZS n d.nl).1) → m3 = ls.length ∧ x3 = ls.flatMap DLink.enc := fun ls h1 _ => ⟨by rw [h1, rl1, hm3], by rw [h1, hx3]⟩
  repeat (first | refine wkMade250 ?_ | (refine jn ?_; (try intro F); (refine bx ?_; intro bk); refine fin ?_) | (apply RD_W; rfl; intro bk))
  refine W_cond rfl (fun h => ?_) (fun h => ?_)
  ·have hk2 : k < d.nl := by simpa using h
   repeat (first | refine wkMade250 ?_ | (refine jn ?_; (try intro F); (refine bx ?_; intro bk); refine fin ?_) | (apply RD_W; rfl; intro bk))
   refine W_cond rfl (fun h1 => ?_) (fun h1 => ?_)
   ·have hz0 : d.nz = 0 := by simpa using h1
    have hk1 := hk0 hz0
    subst hk1
    obtain ⟨f1, f2⟩ := fin9 [] (by simp [links25]) (by rw [if_pos hz0])
    rw [if_pos hz0]
    subst f1 f2
    rw [← hZl]
    repeat (first | refine wkMade250 ?_ | (refine jn ?_; (try intro F); (refine bx ?_; intro bk); refine fin ?_) | (apply RD_W; rfl; intro bk))
    exact ret_1 (.agg #[.slice A1 RR.length c1, .slice A2 Zs.length c2, .slice A3 0 c3, .slice none 0 0]) (rowR A1 c1 RR :: rowZ A2 c2 Zs :: rowL A3 c3 [] :: rowS none 0 [] :: Zs.map eraRow) (.cellB rfl (by repeat' constructor) rfl rfl) STA ⟨A1, c1, A2, c2, A3, c3, none, 0, Zs, by simp [srcV, ← hzz], hzz, rfl⟩
   have hz0 : d.nz ≠ 0 := by simpa using h1
   have q1 := pk_range d.L ln d.nz (by omega)
   have q2 := pk_range d.L (ln + 1) 2 (by decide)
   have hki : (pk d.L ln d.nz).toNat < Zs.length := by omega
   have hge : Zs[(pk d.L ln d.nz).toNat]? = some Zs[(pk d.L ln d.nz).toNat] := List.getElem?_eq_getElem hki
   have hnm : (ZS.getD (pk d.L ln ZS.length).toNat ⟨ByteArray.empty, []⟩).name = Zs[(pk d.L ln d.nz).toNat].z.name := by
    rw [← hzz, List.length_map, hZl, List.getD_eq_getElem?_getD, List.getElem?_map, hge]
    rfl
   have hl0 : linkN25[k]? = some (linkN25.getD k ByteArray.empty) := by
    have : k < linkN25.length := by simp only [linkN25, List.length_cons, List.length_nil]; omega
    rw [List.getD_eq_getElem?_getD, List.getElem?_eq_getElem this]
    rfl
   have hl1 : linkN25[((k : Int) - 1).toNat]? = some (linkN25.getD (k - 1) ByteArray.empty) := by
    have : k - 1 < linkN25.length := by simp only [linkN25, List.length_cons, List.length_nil]; omega
    rw [List.getD_eq_getElem?_getD, List.getElem?_eq_getElem this, show ((k : Int) - 1).toNat = k - 1 by omega, List.getElem?_eq_getElem this]
    rfl
   have hstp : ∀ lk nn, link25 d.L ZS ln k = (lk, nn) → links25 d.L ZS n (k + 1) = ((links25 d.L ZS n k).1 ++ [lk], nn) := fun lk nn he => by rw [links25, ← hln, he]
   generalize Zs[(pk d.L ln d.nz).toNat] = zq at *
   have hx1 : (Zs.flatMap ZE.enc)[(pk d.L ln d.nz).toNat * 2 + 0]? = some (.string zq.z.name) := flat_get ZE.len Zs _ zq 0 _ hge rfl
   repeat (first | (apply RL_pu; rfl; exact PuMade251) | (apply RD_Q; rfl; rfl; decide +kernel; rfl; rfl; exact QyMade251) | refine walk1 ?_ | (refine jn ?_; (try intro F); (first | (apply Stp_pick hL hr; rfl; rfl; (focus repeat' constructor); (focus repeat' constructor); (focus repeat' constructor); (focus repeat' constructor); omega; omega; omega) | (refine bx ?_; intro bk) | (refine stA ?_) | (apply Stp_pu; first | exact PuMade251 | exact PuA)); first | refine ⟨_, EndsA, QFMade251, ?_⟩ | refine fin ?_) | (apply RD_W; rfl; intro bk))
   refine RL_split 197 rfl (fun h2 => ?_) (fun h2 => ?_)
   ·have hkp : 0 < k := by simp only [decide_eq_true_eq] at h2; omega
    repeat (first | refine walk ?_ | (refine jn ?_; (try intro F); (first | (apply Stp_pick hL hr; rfl; rfl; (focus repeat' constructor); (focus repeat' constructor); (focus repeat' constructor); (focus repeat' constructor); omega; omega; omega) | (refine bx ?_; intro bk) | (refine stA ?_) | (apply Stp_pu; exact PuA)); refine fin ?_) | (apply RD_W; rfl; intro bk))
    refine W_cond rfl (fun h3 => ?_) (fun h3 => ?_)
    ·have hs := hstp ⟨linkN25.getD (k - 1) ByteArray.empty, linkN25.getD k ByteArray.empty⟩ (ln + 1 + 1) (by rw [link25, if_pos ⟨hkp, of_decide_eq_true h3⟩, if_pos hkp])
     repeat (first | (apply RL_pu; rfl; exact PuMade252) | (apply RD_Q; rfl; rfl; decide +kernel; rfl; rfl; exact QyMade252) | refine walk1 ?_ | (refine jn ?_; (try intro F); (first | (apply Stp_append (t := 28); rfl; rfl; (intro A' c'; (focus repeat' constructor)); (intro w' _ hO; exact blkRaw (hO.of (by repeat' constructor))); rfl; rfl; (simp only [maxLen]; omega); omega; intro A' c' hc1 hc2 hc3) | (refine bx ?_; intro bk) | (refine stA ?_) | (apply Stp_pu; first | exact PuMade252 | exact PuA)); first | refine ⟨_, EndsA, QFMade252, ?_⟩ | refine fin ?_) | (apply RD_W; rfl; intro bk))
     exact ⟨⟨k + 1, ln + 1 + 1, A', c', m3 + 1, x3 ++ (⟨linkN25.getD (k - 1) ByteArray.empty, linkN25.getD k ByteArray.empty⟩ : DLink).enc⟩, OA, ⟨OA, fun h => absurd h hz0, by rw [hs], by rw [hs, List.length_append, rl1, hm3]; rfl, by rw [hs, List.flatMap_append, hx3]; rfl⟩, SFA, STA⟩
    have hs := hstp ⟨zq.z.name, linkN25.getD k ByteArray.empty⟩ (ln + 1 + 1) (by rw [link25, if_neg (fun hh => of_decide_eq_false h3 hh.2), if_pos hkp, hnm])
    repeat (first | (apply RL_pu; rfl; exact PuMade253) | (apply RD_Q; rfl; rfl; decide +kernel; rfl; rfl; exact QyMade253) | refine walk1 ?_ | (refine jn ?_; (try intro F); (first | (apply Stp_append (t := 28); rfl; rfl; (intro A' c'; (focus repeat' constructor)); (intro w' _ hO; exact blkRaw (hO.of (by repeat' constructor))); rfl; rfl; (simp only [maxLen]; omega); omega; intro A' c' hc1 hc2 hc3) | (refine bx ?_; intro bk) | (refine stA ?_) | (apply Stp_pu; first | exact PuMade253 | exact PuA)); first | refine ⟨_, EndsA, QFMade253, ?_⟩ | refine fin ?_) | (apply RD_W; rfl; intro bk))
    exact ⟨⟨k + 1, ln + 1 + 1, A', c', m3 + 1, x3 ++ (⟨zq.z.name, linkN25.getD k ByteArray.empty⟩ : DLink).enc⟩, OA, ⟨OA, fun h => absurd h hz0, by rw [hs], by rw [hs, List.length_append, rl1, hm3]; rfl, by rw [hs, List.flatMap_append, hx3]; rfl⟩, SFA, STA⟩
   have hkp : ¬ 0 < k := by simp only [decide_eq_false_iff_not] at h2; omega
   have hs := hstp ⟨zq.z.name, linkN25.getD k ByteArray.empty⟩ (ln + 1) (by rw [link25, if_neg (fun hh => hkp hh.1), if_neg hkp, hnm])
   repeat (first | (apply RL_pu; rfl; exact PuMade253) | (apply RD_Q; rfl; rfl; decide +kernel; rfl; rfl; exact QyMade253) | refine walk1 ?_ | (refine jn ?_; (try intro F); (first | (apply Stp_append (t := 28); rfl; rfl; (intro A' c'; (focus repeat' constructor)); (intro w' _ hO; exact blkRaw (hO.of (by repeat' constructor))); rfl; rfl; (simp only [maxLen]; omega); omega; intro A' c' hc1 hc2 hc3) | (refine bx ?_; intro bk) | (refine stA ?_) | (apply Stp_pu; first | exact PuMade253 | exact PuA)); first | refine ⟨_, EndsA, QFMade253, ?_⟩ | refine fin ?_) | (apply RD_W; rfl; intro bk))
   exact ⟨⟨k + 1, ln + 1, A', c', m3 + 1, x3 ++ (⟨zq.z.name, linkN25.getD k ByteArray.empty⟩ : DLink).enc⟩, OA, ⟨OA, fun h => absurd h hz0, by rw [hs], by rw [hs, List.length_append, rl1, hm3]; rfl, by rw [hs, List.flatMap_append, hx3]; rfl⟩, SFA, STA⟩
  have hkl : k = d.nl := by simp only [decide_eq_false_iff_not, Int.ofNat_lt] at h; omega
  obtain ⟨f1, f2⟩ := fin9 (links25 d.L ZS n k).1 rfl (by
   by_cases hz0 : d.nz = 0
   ·rw [if_pos hz0, hk0 hz0]; simp [links25]
   ·rw [if_neg hz0, hkl])
  rw [show (if d.nz = 0 then [] else (links25 d.L ZS n d.nl).1) = (links25 d.L ZS n k).1 by
   by_cases hz0 : d.nz = 0
   ·rw [if_pos hz0, hk0 hz0]; simp [links25]
   ·rw [if_neg hz0, hkl]]
  generalize (links25 d.L ZS n k).1 = ls at *
  subst f1 f2
  rw [← hZl]
  repeat (first | refine wkMade250 ?_ | (refine jn ?_; (try intro F); (refine bx ?_; intro bk); refine fin ?_) | (apply RD_W; rfl; intro bk))
  exact ret_1 (.agg #[.slice A1 RR.length c1, .slice A2 Zs.length c2, .slice A3 ls.length c3, .slice none 0 0]) (rowR A1 c1 RR :: rowZ A2 c2 Zs :: rowL A3 c3 ls :: rowS none 0 [] :: Zs.map eraRow) (.cellB rfl (by repeat' constructor) rfl rfl) STA ⟨A1, c1, A2, c2, A3, c3, none, 0, Zs, by simp [srcV, ← hzz], hzz, rfl⟩
 ·apply W_block
  refine W_loop (fun g : ZG => [(54, .int .i64 g.k), (53, .int .i64 d.nz), (1, .pointer (some ⟨b1, 0, none⟩)), (2, .pointer (some ⟨b2, 0, none⟩)), (3, .pointer (some ⟨b3, 0, none⟩)), (4, .func (.func 32) #[] #[.pointer (some ⟨b3, 0, none⟩), .pointer (some ⟨b1, 0, none⟩)]), (5, .slice (some ⟨bs, 0, none⟩) 2 2), (6, .slice (some ⟨bz, 0, none⟩) 3 3), (7, .slice (some ⟨bm, 0, none⟩) 3 3), (8, .pointer (some ⟨b8, 0, none⟩)), (9, .int .i64 d.made)]) (fun g => .blk b8 [.slice A1 RR.length c1, .slice g.A g.m g.c, .slice none 0 0, .slice none 0 0] 31 :: .row (.slice g.A g.m g.c) 43 2 g.m g.xs :: .blk b3 [.int .i64 g.n] 3 :: rowR A1 c1 RR :: rowL none 0 [] :: rowS none 0 [] :: .blk b1 [.slice As d.sets.length cs, .int .u8 d.zones, .int .u8 d.links, .slice Al d.L.length c] 25 :: .blk b2 [.slice none 0 0, .slice none 0 0, .slice none 0 0, .slice none 0 0] 31 :: .blk bs (setN25.flatMap strEnc) 9 :: .blk bz (zoneN25.flatMap strEnc) 9 :: .blk bm (linkN25.flatMap strEnc) 9 :: g.Zr.map eraRow)
   (fun g => g.k ≤ d.nz ∧ g.n = (zones25 d.L d.made g.k).2 ∧ g.m = g.Zr.length ∧ g.xs = g.Zr.reverse.flatMap ZE.enc ∧ g.Zr.reverse.map ZE.z = (zones25 d.L d.made g.k).1) (fun g => d.nz - g.k) ⟨0, 0, none, 0, 0, [], []⟩ SFA SOA ⟨Nat.zero_le _, by simp [zones25], rfl, rfl, by simp [zones25]⟩ ?_
  rintro ⟨k, n, A2, c2, m2, x2, Zr⟩ ⟨hk, hn, hm, hx, hzz⟩
  dsimp only at hk hn hm hx hzz ⊢
  obtain ⟨rg1, rg2, rg3⟩ := zones25_rng d.L d.made k
  rw [← hn] at rg2 rg3
  have hZl : Zr.length = k := by rw [← rg1, ← hzz, List.length_map, List.length_reverse]
  have hn2 : n ≤ 114 := by omega
  repeat (first | refine wkMade250 ?_ | (refine jn ?_; (try intro F); (refine bx ?_; intro bk); refine fin ?_) | (apply RD_W; rfl; intro bk))
  refine W_cond rfl (fun h => ?_) (fun h => ?_)
  ·have hk2 : k < d.nz := by simpa using h
   have hzn : zoneN25[k]? = some (zoneN25.getD k ByteArray.empty) := by
    have : k < zoneN25.length := by simp only [zoneN25, List.length_cons, List.length_nil]; omega
    rw [List.getD_eq_getElem?_getD, List.getElem?_eq_getElem this]
    rfl
   have pr1 := pk_range d.L n 60 (by decide)
   have pr2 := pk_range d.L (n + 1) 4 (by decide)
   generalize hT : Zr.map eraRow = T
   repeat (first | (apply RL_pu; rfl; exact PuMade254) | (apply RD_Q; rfl; rfl; decide +kernel; rfl; rfl; exact QyMade254) | refine walk1 ?_ | (refine jn ?_; (try intro F); (first | (apply Stp_pick hL hr; rfl; rfl; (focus repeat' constructor); (focus repeat' constructor); (focus repeat' constructor); (focus repeat' constructor); omega; omega; omega) | (refine bx ?_; intro bk) | (refine stA ?_) | (apply Stp_pu; first | exact PuMade254 | exact PuA)); first | refine ⟨_, EndsA, QFMade254, ?_⟩ | refine fin ?_) | (apply RD_W; rfl; intro bk))
   have hcnt : 1 + pk d.L (n + 1) 4 = (cnt25 d.L n : Int) := by unfold cnt25; omega
   obtain ⟨cr1, cr2⟩ := cnt25_rng d.L n
   have hzone : zone25 d.L d.made n k = zone25 d.L d.made n k := rfl
   conv at hzone => rhs; unfold zone25
   rw [hcnt]
   generalize cnt25 d.L n = C at *
   generalize hY : 1860 + pk d.L n 60 = Y at *
   generalize bk = b12
   refine W_nil 48 13 ?_
   refine W_loopF [(11, .int .i64 k), (12, .pointer (some ⟨b12, 0, none⟩)), (13, .int .i64 Y), (54, .int .i64 k), (53, .int .i64 d.nz), (67, .int .i64 C), (1, .pointer (some ⟨b1, 0, none⟩)), (2, .pointer (some ⟨b2, 0, none⟩)), (3, .pointer (some ⟨b3, 0, none⟩)), (4, .func (.func 32) #[] #[.pointer (some ⟨b3, 0, none⟩), .pointer (some ⟨b1, 0, none⟩)]), (5, .slice (some ⟨bs, 0, none⟩) 2 2), (6, .slice (some ⟨bz, 0, none⟩) 3 3), (7, .slice (some ⟨bm, 0, none⟩) 3 3), (8, .pointer (some ⟨b8, 0, none⟩)), (9, .int .i64 d.made)] (.blk b8 [.slice A1 RR.length c1, .slice A2 m2 c2, .slice none 0 0, .slice none 0 0] 31 :: .row (.slice A2 m2 c2) 43 2 m2 x2 :: rowR A1 c1 RR :: rowL none 0 [] :: rowS none 0 [] :: .blk b1 [.slice As d.sets.length cs, .int .u8 d.zones, .int .u8 d.links, .slice Al d.L.length c] 25 :: .blk b2 [.slice none 0 0, .slice none 0 0, .slice none 0 0, .slice none 0 0] 31 :: .blk bs (setN25.flatMap strEnc) 9 :: .blk bz (zoneN25.flatMap strEnc) 9 :: .blk bm (linkN25.flatMap strEnc) 9 :: T) (fun g : EG => [(68, .int .i64 g.k)]) (fun g => [.blk b12 [.string (zoneN25.getD k ByteArray.empty), .slice g.A g.m g.c] 43, .row (.slice g.A g.m g.c) 48 13 g.m g.xs, .blk b3 [.int .i64 g.n] 3])
    (fun g => g.m ≤ g.c ∧ g.k ≤ C ∧ g.n = (eras25 d.L d.made (n + 1 + 1) g.k).2 ∧ g.m = (eras25 d.L d.made (n + 1 + 1) g.k).1.length ∧ g.xs = (eras25 d.L d.made (n + 1 + 1) g.k).1.flatMap DEra.enc) (fun g => C - g.k) ⟨0, n + 1 + 1, none, 0, 0, []⟩ SFA STA ⟨Nat.zero_le _, Nat.zero_le _, by simp [eras25], by simp [eras25], by simp [eras25]⟩ ?_
   rintro ⟨j, en, A3, c3, m3, x3⟩ ⟨hmc, hj, hen, hm3, hx3⟩
   dsimp only at hmc hj hen hm3 hx3 ⊢
   obtain ⟨re1, re2, re3⟩ := eras25_rng d.L d.made (n + 1 + 1) j
   rw [← hen] at re2 re3
   have hen2 : en ≤ 150 := by omega
   have hm4 : m3 = j := by rw [hm3, re1]
   repeat (first | refine wkMade250 ?_ | (refine jn ?_; (try intro F); (refine bx ?_; intro bk); refine fin ?_) | (apply RD_W; rfl; intro bk))
   refine W_cond rfl (fun h => ?_) (fun h => ?_)
   ·have hj2 : j < C := by simpa using h
    have q1 := pk_range d.L en 53 (by decide)
    have q2 := pk_range d.L (en + 1) 4 (by decide)
    have q3 := pk_range d.L (en + 1 + 1) 5 (by decide)
    have hfm : fmt25[(pk d.L (en + 1) 4).toNat]? = some (fmt25.getD (pk d.L (en + 1) 4).toNat ByteArray.empty) := by
     have : (pk d.L (en + 1) 4).toNat < fmt25.length := by simp only [fmt25, List.length_cons, List.length_nil]; omega
     rw [List.getD_eq_getElem?_getD, List.getElem?_eq_getElem this]
     rfl
    have hera : ∀ p : Prop, [Decidable p] → (p ↔ 0 < j ∧ 1 < pk d.L (en + 1 + 1) 5 ∧ 0 < d.made) → era25 d.L d.made en j = if p then (eraN d.L d.made en, en + 1 + 1 + 1 + 1 + 1 + 1) else if pk d.L (en + 1 + 1) 5 = 1 then (eraF d.L en, en + 1 + 1 + 1 + 1) else (e0 d.L en, en + 1 + 1 + 1) := fun p _ hp => by
     rw [era25]
     by_cases h : p
     ·rw [if_pos h, if_pos (hp.1 h)]
     ·rw [if_neg h, if_neg (fun h2 => h (hp.2 h2))]
    repeat (first | (apply RL_pu; rfl; exact PuMade255) | (apply RD_Q; rfl; rfl; decide +kernel; rfl; rfl; exact QyMade255) | refine walk1 ?_ | (refine jn ?_; (try intro F); (first | (apply Stp_pick hL hr; rfl; rfl; (focus repeat' constructor); (focus repeat' constructor); (focus repeat' constructor); (focus repeat' constructor); omega; omega; omega) | (refine bx ?_; intro bk) | (refine stA ?_) | (apply Stp_pu; first | exact PuMade255 | exact PuA)); first | refine ⟨_, EndsA, QFMade255, ?_⟩ | refine fin ?_) | (apply RD_W; rfl; intro bk))
    generalize bk = b15
    generalize hFM : fmt25.getD (pk d.L (en + 1) 4).toNat ByteArray.empty = FM at *
    refine RL_post (fun fr' O' => Sub ((92, .bool (decide (0 < j ∧ 1 < pk d.L (en + 1 + 1) 5 ∧ 0 < d.made))) :: (14, .int .i64 j) :: (15, .pointer (some ⟨b15, 0, none⟩)) :: (16, .int .i64 (pk d.L (en + 1 + 1) 5)) :: (68, .int .i64 j) :: [(11, .int .i64 k), (12, .pointer (some ⟨b12, 0, none⟩)), (13, .int .i64 Y), (54, .int .i64 k), (53, .int .i64 d.nz), (67, .int .i64 C), (1, .pointer (some ⟨b1, 0, none⟩)), (2, .pointer (some ⟨b2, 0, none⟩)), (3, .pointer (some ⟨b3, 0, none⟩)), (4, .func (.func 32) #[] #[.pointer (some ⟨b3, 0, none⟩), .pointer (some ⟨b1, 0, none⟩)]), (5, .slice (some ⟨bs, 0, none⟩) 2 2), (6, .slice (some ⟨bz, 0, none⟩) 3 3), (7, .slice (some ⟨bm, 0, none⟩) 3 3), (8, .pointer (some ⟨b8, 0, none⟩)), (9, .int .i64 d.made)]) fr' ∧ SubO (.blk b15 [.int .i64 ((pk d.L en 53 - 26) * 1800), .int .i64 0, .int .i64 0, .string ByteArray.empty, .string FM, .bool false, .int .i64 0, .int .i64 0, .int .i64 0, .int .i64 0, .int .i64 0, .int .i64 0, .int .i64 0] 48 :: .blk b12 [.string (zoneN25.getD k ByteArray.empty), .slice A3 m3 c3] 43 :: .row (.slice A3 m3 c3) 48 13 m3 x3 :: .blk b3 [.int .i64 (en + 1 + 1 + 1)] 3 :: .blk b8 [.slice A1 RR.length c1, .slice A2 m2 c2, .slice none 0 0, .slice none 0 0] 31 :: .row (.slice A2 m2 c2) 43 2 m2 x2 :: rowR A1 c1 RR :: rowL none 0 [] :: rowS none 0 [] :: .blk b1 [.slice As d.sets.length cs, .int .u8 d.zones, .int .u8 d.links, .slice Al d.L.length c] 25 :: .blk b2 [.slice none 0 0, .slice none 0 0, .slice none 0 0, .slice none 0 0] 31 :: .blk bs (setN25.flatMap strEnc) 9 :: .blk bz (zoneN25.flatMap strEnc) 9 :: .blk bm (linkN25.flatMap strEnc) 9 :: T) O') ?_ ?_
    ·refine RL_split 85 rfl (fun h1 => ?_) (fun h1 => ?_)
     ·repeat (first | refine wkMade250 ?_ | (refine jn ?_; (try intro F); (refine bx ?_; intro bk); refine fin ?_) | (apply RD_W; rfl; intro bk))
      refine RL_split 89 rfl (fun h2 => ?_) (fun h2 => ?_)
      ·repeat (first | refine wkMade250 ?_ | (refine jn ?_; (try intro F); (refine bx ?_; intro bk); refine fin ?_) | (apply RD_W; rfl; intro bk))
       have e : (0 < j ∧ 1 < pk d.L (en + 1 + 1) 5 ∧ 0 < d.made) ↔ (d.made : Int) > 0 := by simp only [decide_eq_true_eq] at h1 h2; omega
       rw [decide_eq_decide.2 e]
       exact ⟨SFA, STA⟩
      ·repeat (first | refine wkMade250 ?_ | (refine jn ?_; (try intro F); (refine bx ?_; intro bk); refine fin ?_) | (apply RD_W; rfl; intro bk))
       have e : ¬ (0 < j ∧ 1 < pk d.L (en + 1 + 1) 5 ∧ 0 < d.made) := by simp only [decide_eq_false_iff_not] at h2; omega
       rw [decide_eq_false e]
       exact ⟨SFA, STA⟩
     ·repeat (first | refine wkMade250 ?_ | (refine jn ?_; (try intro F); (refine bx ?_; intro bk); refine fin ?_) | (apply RD_W; rfl; intro bk))
      have e : ¬ (0 < j ∧ 1 < pk d.L (en + 1 + 1) 5 ∧ 0 < d.made) := by simp only [decide_eq_false_iff_not] at h1; omega
      rw [decide_eq_false e]
      exact ⟨SFA, STA⟩
    rintro fr' O' ⟨hf, hO⟩
    apply thenQ_n
    refine W_sub hf hO ?_
    clear hf hO fr' O'
    have hst : eras25 d.L d.made (n + 1 + 1) (j + 1) = ((eras25 d.L d.made (n + 1 + 1) j).1 ++ [(era25 d.L d.made en j).1], (era25 d.L d.made en j).2) := by rw [eras25, hen]
    have hml : (eras25 d.L d.made (n + 1 + 1) (j + 1)).1.length = m3 + 1 := by rw [hst, List.length_append, ← hm3]; rfl
    refine W_cond rfl (fun h1 => ?_) (fun h1 => ?_)
    ·rw [hera _ Iff.rfl, if_pos (of_decide_eq_true h1)] at hst
     obtain ⟨g1, g2, g3⟩ := of_decide_eq_true h1
     have q4 := pk_range d.L (en + 1 + 1 + 1) d.made (by omega)
     have q5 := pk_range d.L (en + 1 + 1 + 1 + 1) 49 (by decide)
     have q6 := pk_range d.L (en + 1 + 1 + 1 + 1 + 1) 4 (by decide)
     have hks : (pk d.L (en + 1 + 1 + 1) d.made).toNat < d.sets.length := by omega
     obtain ⟨hAn, B, cb, hB, hca⟩ := hS.rd _ _ (List.getElem?_eq_getElem hks)
     have hrl := hrs _ (List.getElem_mem hks)
     have hsn : setN25[(pk d.L (en + 1 + 1 + 1) d.made).toNat]? = some (setN25.getD (pk d.L (en + 1 + 1 + 1) d.made).toNat ByteArray.empty) := by
      have : (pk d.L (en + 1 + 1 + 1) d.made).toNat < setN25.length := by simp only [setN25, List.length_cons, List.length_nil]; omega
      rw [List.getD_eq_getElem?_getD, List.getElem?_eq_getElem this]
      rfl
     generalize d.sets[(pk d.L (en + 1 + 1 + 1) d.made).toNat] = l at *
     repeat (first | (apply RL_pu; rfl; exact PuMade256) | (apply RD_Q; rfl; rfl; decide +kernel; rfl; rfl; exact QyMade256) | refine walk1 ?_ | (refine jg ?_; (try intro F); (first | (apply Stp_pick hL hr; rfl; rfl; (focus repeat' constructor); (focus repeat' constructor); (focus repeat' constructor); (focus repeat' constructor); omega; omega; omega) | (apply Stp_call (h := fun w' hw _ => made17_spec B cb l (setN25.getD (pk d.L (en + 1 + 1 + 1) d.made).toNat ByteArray.empty) w' (hB.up hw) hrl); rfl; rintro v O' ⟨A4, c4, rfl, rfl⟩) | (refine callE (fun w' hw => era21_spec _ (pk d.L (en + 1 + 1 + 1 + 1) 49) (pk d.L (en + 1 + 1 + 1 + 1 + 1) 4) q5.1 q5.2 q6.1 q6.2 w') ?_) | (apply Stp_append (t := 41); rfl; rfl; (intro A' c'; (focus repeat' constructor)); (intro w' _ hO; exact blkRaw (hO.of (by repeat' constructor))); rfl; rfl; (simp only [maxLen]; omega); omega; intro A' c' hc1 hc2 hc3) | (refine bx ?_; intro bk) | (refine stA ?_)); first | refine ⟨_, EndsA, QFMade256, ?_⟩ | refine fin ?_) | (refine jn ?_; (try intro F); (first | (apply Stp_pick hL hr; rfl; rfl; (focus repeat' constructor); (focus repeat' constructor); (focus repeat' constructor); (focus repeat' constructor); omega; omega; omega) | (apply Stp_append (t := 41); rfl; rfl; (intro A' c'; (focus repeat' constructor)); (intro w' _ hO; exact blkRaw (hO.of (by repeat' constructor))); rfl; rfl; (simp only [maxLen]; omega); omega; intro A' c' hc1 hc2 hc3) | (refine bx ?_; intro bk) | (refine stA ?_) | (apply Stp_pu; first | exact PuMade256 | exact PuA)); first | refine ⟨_, EndsA, QFMade256, ?_⟩ | refine fin ?_) | (apply RD_W; rfl; intro bk))
     exact ⟨⟨j + 1, en + 1 + 1 + 1 + 1 + 1 + 1, A', c', m3 + 1, x3 ++ (eraN d.L d.made en).enc⟩, OA, ⟨hc1, OA, by rw [hst], hml.symm, by rw [hst, List.flatMap_append, hx3]; rfl⟩, SFA, STA⟩
    rw [hera _ Iff.rfl, if_neg (of_decide_eq_false h1)] at hst
    repeat (first | refine wkMade250 ?_ | (refine jn ?_; (try intro F); (refine bx ?_; intro bk); refine fin ?_) | (apply RD_W; rfl; intro bk))
    refine W_cond rfl (fun h2 => ?_) (fun h2 => ?_)
    ·rw [if_pos (of_decide_eq_true h2)] at hst
     have q4 := pk_range d.L (en + 1 + 1 + 1) 4 (by decide)
     repeat (first | (apply RL_pu; rfl; exact PuMade257) | (apply RD_Q; rfl; rfl; decide +kernel; rfl; rfl; exact QyMade257) | refine walk1 ?_ | (refine jn ?_; (try intro F); (first | (apply Stp_pick hL hr; rfl; rfl; (focus repeat' constructor); (focus repeat' constructor); (focus repeat' constructor); (focus repeat' constructor); omega; omega; omega) | (apply Stp_append (t := 41); rfl; rfl; (intro A' c'; (focus repeat' constructor)); (intro w' _ hO; exact blkRaw (hO.of (by repeat' constructor))); rfl; rfl; (simp only [maxLen]; omega); omega; intro A' c' hc1 hc2 hc3) | (refine bx ?_; intro bk) | (refine stA ?_) | (apply Stp_pu; first | exact PuMade257 | exact PuA)); first | refine ⟨_, EndsA, QFMade257, ?_⟩ | refine fin ?_) | (apply RD_W; rfl; intro bk))
     subst hFM
     exact ⟨⟨j + 1, en + 1 + 1 + 1 + 1, A', c', m3 + 1, x3 ++ (eraF d.L en).enc⟩, OA, ⟨hc1, OA, by rw [hst], hml.symm, by rw [hst, List.flatMap_append, hx3]; rfl⟩, SFA, STA⟩
    rw [if_neg (of_decide_eq_false h2)] at hst
    repeat (first | refine walk ?_ | (refine jn ?_; (try intro F); (first | (apply Stp_append (t := 41); rfl; rfl; (intro A' c'; (focus repeat' constructor)); (intro w' _ hO; exact blkRaw (hO.of (by repeat' constructor))); rfl; rfl; (simp only [maxLen]; omega); omega; intro A' c' hc1 hc2 hc3) | (refine bx ?_; intro bk) | (refine stA ?_) | (apply Stp_pu; exact PuA)); refine fin ?_) | (apply RD_W; rfl; intro bk))
    subst hFM
    exact ⟨⟨j + 1, en + 1 + 1 + 1, A', c', m3 + 1, x3 ++ (e0 d.L en).enc⟩, OA, ⟨hc1, OA, by rw [hst], hml.symm, by rw [hst, List.flatMap_append, hx3]; rfl⟩, SFA, STA⟩
   have hjC : j = C := by simp only [decide_eq_false_iff_not, Int.ofNat_lt] at h; omega
   subst hjC
   obtain ⟨q, rfl⟩ : ∃ q, j = q + 1 := ⟨j - 1, by omega⟩
   subst hm4
   generalize hes : (eras25 d.L d.made (n + 1 + 1) (q + 1)).1 = es0 at *
   rw [Nat.add_sub_cancel, ← hen] at hzone
   repeat (first | (apply RL_pu; rfl; exact PuMade258) | (apply RD_Q; rfl; rfl; decide +kernel; rfl; rfl; exact QyMade258) | refine walk1 ?_ | (refine jn ?_; (try intro F); (first | (refine bx ?_; intro bk) | (refine stA ?_) | (apply Stp_pu; first | exact PuMade258 | exact PuA)); first | refine ⟨_, EndsA, QFMade258, ?_⟩ | refine fin ?_) | (apply RD_W; rfl; intro bk))
   rw [show ((((q + 1 : Nat) : Int) - 1).toNat : Int) = (q : Int) by omega]
   subst hx3
   refine W_loopF [(11, .int .i64 k), (12, .pointer (some ⟨b12, 0, none⟩)), (54, .int .i64 k), (53, .int .i64 d.nz), (140, .int .i64 q), (1, .pointer (some ⟨b1, 0, none⟩)), (2, .pointer (some ⟨b2, 0, none⟩)), (3, .pointer (some ⟨b3, 0, none⟩)), (4, .func (.func 32) #[] #[.pointer (some ⟨b3, 0, none⟩), .pointer (some ⟨b1, 0, none⟩)]), (5, .slice (some ⟨bs, 0, none⟩) 2 2), (6, .slice (some ⟨bz, 0, none⟩) 3 3), (7, .slice (some ⟨bm, 0, none⟩) 3 3), (8, .pointer (some ⟨b8, 0, none⟩)), (9, .int .i64 d.made)] (.blk b12 [.string (zoneN25.getD k ByteArray.empty), .slice A3 (q + 1) c3] 43 :: .blk b8 [.slice A1 RR.length c1, .slice A2 m2 c2, .slice none 0 0, .slice none 0 0] 31 :: .row (.slice A2 m2 c2) 43 2 m2 x2 :: rowR A1 c1 RR :: rowL none 0 [] :: rowS none 0 [] :: .blk b1 [.slice As d.sets.length cs, .int .u8 d.zones, .int .u8 d.links, .slice Al d.L.length c] 25 :: .blk b2 [.slice none 0 0, .slice none 0 0, .slice none 0 0, .slice none 0 0] 31 :: .blk bs (setN25.flatMap strEnc) 9 :: .blk bz (zoneN25.flatMap strEnc) 9 :: .blk bm (linkN25.flatMap strEnc) 9 :: T) (fun g : TG25 => [(141, .int .i64 g.k), (13, .int .i64 g.y)]) (fun g => [.row (.slice A3 (q + 1) c3) 48 13 (q + 1) (g.es.flatMap DEra.enc), .blk b3 [.int .i64 g.n] 3])
    (fun g => g.k ≤ q ∧ g.n = en + 4 * g.k ∧ g.es = (tils25 d.L en Y es0 g.k).1 ∧ g.y = (tils25 d.L en Y es0 g.k).2) (fun g => q - g.k) ⟨0, en, Y, es0⟩ SFA STA ⟨Nat.zero_le _, by simp, by simp [tils25], by simp [tils25]⟩ ?_
   rintro ⟨i, tn, ty, es⟩ ⟨hi, htn, hes2, hty⟩
   dsimp only at hi htn hes2 hty ⊢
   have hel : es.length = q + 1 := by rw [hes2, tils25_len, re1]
   obtain ⟨ry1, ry2⟩ := tils25_year d.L en Y es0 i
   rw [← hty] at ry1 ry2
   have hfl : (es.flatMap DEra.enc).length = (q + 1) * 13 := by rw [flat_len DEra.len, hel]
   repeat (first | refine wkMade250 ?_ | (refine jn ?_; (try intro F); (refine bx ?_; intro bk); refine fin ?_) | (apply RD_W; rfl; intro bk))
   refine W_cond rfl (fun h => ?_) (fun h => ?_)
   ·have hi2 : i < q := by simpa using h
    have hie : i < es.length := by omega
    have hge : es[i]? = some es[i] := List.getElem?_eq_getElem hie
    have q1 := pk_range d.L tn 40 (by decide)
    have q2 := pk_range d.L (tn + 1) 20 (by decide)
    have q3 := pk_range d.L (tn + 1 + 1) 49 (by decide)
    have q4 := pk_range d.L (tn + 1 + 1 + 1) 3 (by decide)
    have htl : tils25 d.L en Y es0 (i + 1) = (es.set i (setTil (til25 d.L tn (ty + (1 + pk d.L tn 40))) es[i]), ty + (1 + pk d.L tn 40)) := by
     rw [tils25, ← hty, ← hes2, ← htn, List.getD_eq_getElem?_getD, hge]
     rfl
    generalize es[i] = e at *
    repeat (first | (apply RL_pu; rfl; exact PuMade259) | (refine js ?_; (first | (apply Stp_storeR; rfl; rfl; (focus repeat' constructor); rfl; rfl; rfl; (rw [hfl]; omega); decide; exact til_lay (til25 d.L tn (ty + (1 + pk d.L tn 40))) es i e hge) | (apply Stp_pick hL hr; rfl; rfl; (focus repeat' constructor); (focus repeat' constructor); (focus repeat' constructor); (focus repeat' constructor); omega; omega; omega) | (refine bx ?_; intro bk))) | (apply RD_Q; rfl; rfl; decide +kernel; rfl; rfl; exact QyMade259) | refine walk1 ?_ | (refine RD_Lw ?_; intro F; (first | (apply Stp_storeR; rfl; rfl; (focus repeat' constructor); rfl; rfl; rfl; (rw [hfl]; omega); decide; exact til_lay (til25 d.L tn (ty + (1 + pk d.L tn 40))) es i e hge) | (apply Stp_pick hL hr; rfl; rfl; (focus repeat' constructor); (focus repeat' constructor); (focus repeat' constructor); (focus repeat' constructor); omega; omega; omega) | (refine bx ?_; intro bk) | (refine stA ?_) | (apply Stp_pu; first | exact PuMade259 | exact PuA)); refine ⟨_, EndsA, QFMade259, ?_⟩) | (apply RD_W; rfl; intro bk))
    exact ⟨⟨i + 1, tn + 1 + 1 + 1 + 1, ty + (1 + pk d.L tn 40), es.set i (setTil (til25 d.L tn (ty + (1 + pk d.L tn 40))) e)⟩, OA, ⟨OA, OA, by rw [htl], by rw [htl]⟩, SFA, STA⟩
   have hiq : i = q := by simp only [decide_eq_false_iff_not, Int.ofNat_lt] at h; omega
   subst hiq
   have hzs : zones25 d.L d.made (k + 1) = ((zones25 d.L d.made k).1 ++ [⟨zoneN25.getD k ByteArray.empty, es⟩], tn) := by
    rw [zones25, ← hn, hzone, ← hes2, htn]
   rw [← hel]
   repeat (first | refine walk ?_ | (refine jn ?_; (try intro F); (first | (apply Stp_append (t := 27); rfl; rfl; (intro A' c'; (focus repeat' constructor)); (intro w' _ hO; exact blkRaw (hO.of (by repeat' constructor))); rfl; rfl; (simp only [maxLen]; omega); omega; intro A' c' hc1 hc2 hc3) | (refine bx ?_; intro bk) | (refine stA ?_) | (apply Stp_pu; exact PuA)); refine fin ?_) | (apply RD_W; rfl; intro bk))
   subst hT
   exact ⟨⟨k + 1, tn, A', c', m2 + 1, x2 ++ ZE.enc ⟨⟨zoneN25.getD k ByteArray.empty, es⟩, A3, c3⟩, ⟨⟨zoneN25.getD k ByteArray.empty, es⟩, A3, c3⟩ :: Zr⟩, OA, ⟨OA, by rw [hzs], by simp [hm], by simp [hx], by rw [hzs, ← hzz]; simp⟩, SFA, STA⟩
  have hkz : k = d.nz := by simp only [decide_eq_false_iff_not, Int.ofNat_lt] at h; omega
  subst hkz
  repeat (first | refine wkMade250 ?_ | (refine jn ?_; (try intro F); (refine bx ?_; intro bk); refine fin ?_) | (apply RD_W; rfl; intro bk))
  exact ⟨rfl, n, A2, c2, m2, x2, Zr, ⟨⟨rg2, by omega⟩, hn, hm, hx, hzz⟩, SFA, STA⟩
end Go.Proofs.YtbjkhnlnedfceaaGreatDoor
