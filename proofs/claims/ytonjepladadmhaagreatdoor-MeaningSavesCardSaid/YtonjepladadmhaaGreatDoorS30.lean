/- Contract: format.Check. The shelf's laying of slices.SortFunc at events, written out (by genlay.py). What the shelf asks of a comparison: events.order, walked with the kit's own steps. Contract: slices.SortFunc at events, by the shelf. Contracts: events.In at the years that apart looks at, apart.Check. -/
import Derived.Test.YtonjepladadmhaaGreatDoorS24
import Derived.Shelf.SlSortCmp.NoneTotal
import Derived.Shelf.Lay
import Derived.Test.YtonjepladadmhaaGreatDoorS07
import Derived.Sort.Grow
import Derived.Deep.Draws
import Derived.Deep.RegionHeld3
import Derived.Test.YtonjepladadmhaaGreatDoorS13
import Derived.Test.YtonjepladadmhaaGreatDoorS08
import Derived.Test.YtonjepladadmhaaGreatDoorS15
import Derived.Test.YtonjepladadmhaaGreatDoorS14
set_option maxHeartbeats 4000000
set_option linter.unusedVariables false
set_option linter.unusedSimpArgs false
namespace Go.Proofs.YtonjepladadmhaaGreatDoor
open Go Go.RowKit Go.Wk Go.Lib
attribute [local irreducible] W RL Does thenQ blockQ retQ Calls Pu Stp RD Qy Ay DoesIn RW
structure LtG where
 k : Nat
 A : Option Addr
 c : Nat
 m : Nat
 ys : List Value
theorem PuFmtD0 {G : Prop} (h : G := by (first | (apply Pu_indexAddrH; rfl; rfl; omega; omega; (intro w' _ hO; exact (row_cell (hO.of (A := .row (.slice A1 L.length c1) 9 1 L.length (L.flatMap strEnc)) (by repeat' constructor)) hg1).1)) | (apply Pu_loadR; rfl; (focus repeat' constructor); exact hg1))) : G := h
theorem PuFmtD2 {G : Prop} (h : G := by (apply Pu_neqSB; rfl; rfl; exact hb)) : G := h
theorem PuFmtD3 {G : Prop} (h : G := by (apply Pu_neqB'; rfl; rfl; exact hb)) : G := h
theorem fcheck_spec (e : DEra) (A : Option Addr) (c : Nat) (l : List DRule) (w : World) (hL : LibW w) (hA : RdSl w A c DRule.enc 11 l) (ho : I64 e.off) (hs : I64 e.save) (hr : ∀ r ∈ l, I64 r.save) (hn : l.length ≤ 1000000) (hfs : e.format.size ≤ 1000000000) (hlt : ∀ r ∈ l, r.letter.size ≤ 1000000000) :
  Does Tryz.prog 171 [.agg e.enc.toArray, .slice A l.length c] w (fun v O => v = .int .i64 (fmtChk e l) ∧ O = []) := by
 have hk := fun w' (hw : Bel w.heap.size w w') => kind_spec e.format w' (hL.up hw) hfs
 have hx := fun w' (hw : Bel w.heap.size w w') => expand_spec e A c l w' (hA.up hw) ho hs hr hn
 have hab := fun (x : ByteArray) (hx : x.size ≤ 1000000000) w' (hw : Bel w.heap.size w w') => fabbr_spec e.format x 0 0 w' (hL.up hw) hfs hx ⟨by decide, by decide⟩ ⟨by decide, by decide⟩
 unfold fmtChk
 dsimp only
 obtain ⟨L, hLt⟩ : ∃ L : List ByteArray, (if e.kind = 2 then l.map (·.letter) else [ByteArray.empty]) = L := ⟨_, rfl⟩
 have hLe : (if e.kind = 2 then l.map (fun r => r.letter.data.toList) else [[]]) = L.map (·.data.toList) := by
  rw [← hLt]
  split
  ·rw [List.map_map]; rfl
  ·rfl
 have hLs : ∀ x ∈ L, x.size ≤ 1000000000 := by
  rw [← hLt]
  intro x hx
  split at hx
  ·obtain ⟨r, hr, rfl⟩ := List.mem_map.1 hx; exact hlt r hr
  ·simp only [List.mem_singleton] at hx; subst hx; decide
 have hLn : L.length ≤ 1000001 := by
  rw [← hLt]
  split
  ·rw [List.length_map]; omega
  ·decide
 rw [hLe]
 obtain ⟨off, kind, save, set, format, til⟩ := e
 dsimp only at ho hs hk hx hab hfs hLt ⊢
 generalize kindF format.data.toList = K at *
 obtain ⟨xv, hxv⟩ : ∃ xv, expandN ⟨off, kind, save, set, format, til⟩ l = xv := ⟨_, rfl⟩
 rw [hxv] at hx ⊢
 obtain ⟨xt, xe⟩ := xv
 simp only [xpV, DEra.enc] at hx hab ⊢
 refine Does_of_W Tryz.func171 rfl rfl rfl rfl ?_
 repeat (first | (refine js ?_; (refine bx ?_; intro bk)) | refine walkB ?_)
 rename_i b2
 obtain ⟨b1, hb1⟩ : ∃ b1, bk = b1 := ⟨_, rfl⟩
 rw [hb1]
 clear hb1 bk
 refine W_mid (fun fr' O' => ∃ A1 c1, Sub [(2, .pointer (some ⟨b2, 0, none⟩)), (1, .slice A l.length c), (5, .slice A1 L.length c1)] fr' ∧ SubO [.row (.slice A1 L.length c1) 9 1 L.length (L.flatMap strEnc), .blk b2 [.int .i64 off, .int .i64 kind, .int .i64 save, .string set, .string format, .bool til.is, .int .i64 til.year, .int .i64 til.month, .int .i64 til.day.kind, .int .i64 til.day.week, .int .i64 til.day.day, .int .i64 til.at_.sec, .int .i64 til.at_.base] 55] O') ?_ ?_
 ·refine W_cond rfl (fun h => ?_) (fun h => ?_)
  ·rw [if_pos (of_decide_eq_true h)] at hLt
   subst hLt
   repeat (first | (refine js ?_; (refine bx ?_; intro bk)) | refine walk ?_)
   refine W_nil 9 1 ?_
   refine W_loopF [(2, .pointer (some ⟨b2, 0, none⟩)), (1, .slice A l.length c), (19, .slice A l.length c), (20, .int .i64 l.length)] [.blk b2 [.int .i64 off, .int .i64 kind, .int .i64 save, .string set, .string format, .bool til.is, .int .i64 til.year, .int .i64 til.month, .int .i64 til.day.kind, .int .i64 til.day.week, .int .i64 til.day.day, .int .i64 til.at_.sec, .int .i64 til.at_.base] 55] (fun g : LtG => [(5, .slice g.A g.m g.c), (21, .int .i64 g.k)]) (fun g => [.row (.slice g.A g.m g.c) 9 1 g.m g.ys])
    (fun g => g.k ≤ l.length ∧ g.m = g.k ∧ g.ys = ((l.take g.k).map (·.letter)).flatMap strEnc) (fun g => l.length - g.k) ⟨0, none, 0, 0, []⟩ SFA SOA ⟨Nat.zero_le _, rfl, rfl⟩ ?_
   rintro ⟨k, A1, c1, m, ys⟩ ⟨hkl, hm, hy⟩
   dsimp only at hkl hm hy ⊢
   repeat (first | (refine js ?_; (refine bx ?_; intro bk)) | refine walk ?_)
   refine W_cond rfl (fun hc => ?_) (fun hc => ?_)
   ·simp only [decide_eq_true_eq, Int.ofNat_lt] at hc
    obtain ⟨hna, hca⟩ := hA.rd k _ (List.getElem?_eq_getElem hc)
    have htk := List.take_append_getElem hc
    generalize l[k] = r at *
    repeat (first | (apply RL_pu; rfl; exact PuI) | (refine js ?_; (first | (apply Stp_append; rfl; rfl; (intro A' c'; (focus repeat' constructor)); (intro w' _ hO; exact blkRaw (hO.of (by repeat' constructor))); rfl; rfl; (simp only [maxLen]; omega); omega; intro A' c' hc1 hc2 hc3) | (refine bx ?_; intro bk))) | refine walk1 ?_)
    exact ⟨⟨k + 1, A', c', m + 1, ys ++ [.string r.letter]⟩, OA, ⟨OA, OA, by dsimp only; rw [hy, ← htk]; simp [strEnc]⟩, SFA, SOA⟩
   ·obtain rfl : k = l.length := by simp only [decide_eq_false_iff_not, Int.ofNat_lt] at hc; omega
    rw [List.take_length] at hy
    subst hm hy
    repeat (first | (refine js ?_; (refine bx ?_; intro bk)) | refine walk ?_)
    rw [List.length_map]
    exact ⟨A1, c1, SFA, SOA⟩
  ·rw [if_neg (of_decide_eq_false h)] at hLt
   subst hLt
   refine W_toRow (b := b1) (m := 1) 1 (by repeat' constructor) rfl (by decide) ?_
   repeat (first | (refine js ?_; (refine bx ?_; intro bk)) | refine walk ?_)
   exact ⟨some ⟨b1, 0, none⟩, 1, SFA, SOA⟩
 rintro fr' O' ⟨A1, c1, hf, hO⟩
 refine W_sub hf hO ?_
 clear hf hO fr' O' hLt hLe b1
 by_cases k0 : K = 0
 ·subst k0
  rw [if_pos rfl]
  repeat (first | (refine js ?_; (first | (refine callE hk ?_) | (refine bx ?_; intro bk))) | refine walk ?_)
  exact rtA
 have e0 : decide (K = 0) = false := decide_eq_false k0
 rw [if_neg k0]
 by_cases k3 : K = 3
 ·subst k3
  rw [if_pos rfl]
  obtain ⟨res, hres⟩ : ∃ res, firstErr format.data.toList (L.map (·.data.toList)) = res := ⟨_, rfl⟩
  rw [hres]
  repeat (first | (refine js ?_; (first | (refine callE hk ?_) | (refine bx ?_; intro bk))) | refine walk ?_)
  refine W_loopF [(2, .pointer (some ⟨b2, 0, none⟩)), (39, .slice A1 L.length c1), (40, .int .i64 L.length)] [.row (.slice A1 L.length c1) 9 1 L.length (L.flatMap strEnc), .blk b2 [.int .i64 off, .int .i64 kind, .int .i64 save, .string set, .string format, .bool til.is, .int .i64 til.year, .int .i64 til.month, .int .i64 til.day.kind, .int .i64 til.day.week, .int .i64 til.day.day, .int .i64 til.at_.sec, .int .i64 til.at_.base] 55] (fun k : Nat => [(41, .int .i64 k)]) (fun _ => []) (fun k => k ≤ L.length ∧ firstErr format.data.toList ((L.drop k).map (·.data.toList)) = res) (fun k => L.length - k) 0 SFA SOA ⟨Nat.zero_le _, hres⟩ ?_
  rintro k ⟨hkl, hi⟩
  repeat (first | (refine js ?_; (refine bx ?_; intro bk)) | refine walk ?_)
  refine W_cond rfl (fun hc => ?_) (fun hc => ?_)
  ·simp only [decide_eq_true_eq, Int.ofNat_lt] at hc
   have hg1 : (L.flatMap strEnc)[k * 1]? = some (.string L[k]) := by
    have := flat_get (enc := strEnc) (fun _ => rfl) L k _ 0 (.string L[k]) (List.getElem?_eq_getElem hc) rfl
    simpa using this
   rw [drop_cons hc, List.map_cons, firstErr] at hi
   have hxs := hLs _ (List.getElem_mem hc)
   generalize L[k] = x at *
   have ha := hab x hxs
   generalize abbrF format.data.toList 0 0 x.data.toList = av at *
   obtain ⟨at_, ae⟩ := av
   dsimp only at ha hi
   by_cases hz : ae = 0
   ·subst hz
    rw [if_pos rfl] at hi
    repeat (first | (apply RL_pu; rfl; exact PuFmtD0) | (refine js ?_; (first | (refine callE ha ?_) | (refine bx ?_; intro bk))) | refine walk1 ?_)
    exact ⟨k + 1, OA, ⟨OA, hi⟩, SFA, SOA⟩
   ·rw [if_neg hz] at hi
    subst hi
    have hb : (!decide (ae = 0)) = true := by rw [decide_eq_false hz]; rfl
    repeat (first | (apply RL_pu; rfl; (first | exact PuFmtD0 | (apply Pu_neqB'; rfl; rfl; exact hb))) | (refine js ?_; (first | (refine callE ha ?_) | (refine bx ?_; intro bk))) | refine walk1 ?_)
    exact rtA
  ·simp only [decide_eq_false_iff_not, Int.ofNat_lt] at hc
   rw [List.drop_eq_nil_of_le (by omega)] at hi
   subst hi
   repeat (first | (refine js ?_; (refine bx ?_; intro bk)) | refine walk ?_)
   exact rtA
 have e3 : decide (K = 3) = false := decide_eq_false k3
 rw [if_neg k3]
 by_cases k45 : K = 4 ∨ K = 5
 ·rw [if_pos k45]
  by_cases hxe : xe = 0
  ·subst hxe
   rcases k45 with rfl | rfl
   ·rw [if_neg (by rintro (h | ⟨h, _⟩); exact h rfl; omega)]
    repeat (first | refine und ?_ | (refine js ?_; (first | (refine callE hk ?_) | (refine callE hx ?_) | (refine bx ?_; intro bk))) | refine walk ?_)
    exact rtA
   ·by_cases hxt : xt = format.data.toList
    ·have hb : (!decide ((⟨xt.toArray⟩ : ByteArray) = format)) = false := by rw [decide_eq_true (by rw [hxt])]; rfl
     rw [if_neg (by rintro (h | ⟨_, h⟩); exact h rfl; exact h hxt)]
     repeat (first | refine und ?_ | (apply RL_pu; rfl; exact PuFmtD2) | (refine js ?_; (first | (refine callE hk ?_) | (refine callE hx ?_) | (refine bx ?_; intro bk))) | refine walk1 ?_)
     exact rtA
    ·have hb : (!decide ((⟨xt.toArray⟩ : ByteArray) = format)) = true := by rw [decide_eq_false (fun h => hxt (by rw [← h]))]; rfl
     rw [if_pos (.inr ⟨rfl, hxt⟩)]
     repeat (first | refine und ?_ | (apply RL_pu; rfl; exact PuFmtD2) | (refine js ?_; (first | (refine callE hk ?_) | (refine callE hx ?_) | (refine bx ?_; intro bk))) | refine walk1 ?_)
     exact rtA
  ·have hb : (!decide (xe = 0)) = true := by rw [decide_eq_false hxe]; rfl
   rw [if_pos (.inl hxe)]
   rcases k45 with rfl | rfl
   ·repeat (first | refine und ?_ | (apply RL_pu; rfl; exact PuFmtD3) | (refine js ?_; (first | (refine callE hk ?_) | (refine callE hx ?_) | (refine bx ?_; intro bk))) | refine walk1 ?_)
    exact rtA
   ·repeat (first | refine und ?_ | (apply RL_pu; rfl; exact PuFmtD3) | (refine js ?_; (first | (refine callE hk ?_) | (refine callE hx ?_) | (refine bx ?_; intro bk))) | refine walk1 ?_)
    exact rtA
 rw [if_neg k45]
 have e4 : decide (K = 4) = false := decide_eq_false (fun h => k45 (.inl h))
 have e5 : decide (K = 5) = false := decide_eq_false (fun h => k45 (.inr h))
 repeat (first | (apply RL_pu; rfl; (first | (apply Pu_eqlB; rfl; rfl; exact e0) | (apply Pu_eqlB; rfl; rfl; exact e3) | (apply Pu_eqlB; rfl; rfl; exact e4) | (apply Pu_eqlB; rfl; rfl; exact e5))) | (refine js ?_; (first | (refine callE hk ?_) | (refine bx ?_; intro bk))) | refine walk1 ?_)
 exact rtA
end Go.Proofs.YtonjepladadmhaaGreatDoor
namespace Go.Proofs.YtonjepladadmhaaGreatDoor
open Go.Shelf Go.RowKit Go.Lib Go.Sort
def sortLay_ren : Ren where
 f := fun | 6 => 52 | 15 => 99 | 14 => 98 | 28 => 153 | 29 => 154 | 20 => 145 | 21 => 146 | 22 => 147 | 23 => 148 | 24 => 149 | 25 => 150 | 26 => 151 | 27 => 152 | 46 => 188 | 47 => 189 | 48 => 190 | 49 => 191 | 50 => 192 | 57 => 220 | n => n
 t := fun | 22 => 57 | 24 => 84 | 25 => 135 | 3 => 3 | 39 => 186 | 0 => 0 | 53 => 61 | 55 => 133 | 4 => 4 | 46 => 230 | 45 => 229 | 50 => 224 | 5 => 5 | 9 => 9 | 66 => 275 | 70 => 279 | 76 => 302 | 77 => 303 | n => n
 g := fun n => n
theorem sortLay : SlLaysF0.n6 Tryz.prog sortLay_ren where
 mixed := by kernel_rfl
 f6 := ⟨Tryz.f52.name, by decide, Tryz.func52.trans (congrArg some (by kernel_rfl))⟩
 f14 := ⟨Tryz.f98.name, by decide, Tryz.func98.trans (congrArg some (by kernel_rfl))⟩
 f20 := ⟨Tryz.f145.name, by decide, Tryz.func145.trans (congrArg some (by kernel_rfl))⟩
 f21 := ⟨Tryz.f146.name, by decide, Tryz.func146.trans (congrArg some (by kernel_rfl))⟩
 f22 := ⟨Tryz.f147.name, by decide, Tryz.func147.trans (congrArg some (by kernel_rfl))⟩
 f23 := ⟨Tryz.f148.name, by decide, Tryz.func148.trans (congrArg some (by kernel_rfl))⟩
 f24 := ⟨Tryz.f149.name, by decide, Tryz.func149.trans (congrArg some (by kernel_rfl))⟩
 f25 := ⟨Tryz.f150.name, by decide, Tryz.func150.trans (congrArg some (by kernel_rfl))⟩
 f26 := ⟨Tryz.f151.name, by decide, Tryz.func151.trans (congrArg some (by kernel_rfl))⟩
 f27 := ⟨Tryz.f152.name, by decide, Tryz.func152.trans (congrArg some (by kernel_rfl))⟩
 f46 := ⟨Tryz.f188.name, by decide, Tryz.func188.trans (congrArg some (by kernel_rfl))⟩
 f49 := ⟨Tryz.f191.name, by decide, Tryz.func191.trans (congrArg some (by kernel_rfl))⟩
 f50 := ⟨Tryz.f192.name, by decide, Tryz.func192.trans (congrArg some (by kernel_rfl))⟩
 f57 := ⟨Tryz.f220.name, by decide, Tryz.func220.trans (congrArg some (by kernel_rfl))⟩
 f15 := Tryz.func99.trans (congrArg some (by kernel_rfl))
 f28 := Tryz.func153.trans (congrArg some (by kernel_rfl))
 f29 := Tryz.func154.trans (congrArg some (by kernel_rfl))
 f47 := Tryz.func189.trans (congrArg some (by kernel_rfl))
 f48 := Tryz.func190.trans (congrArg some (by kernel_rfl))
 t0 := Tryz.underlying0
 a0 := Tryz.isAgg0
 z0 := Tryz.sizeOf0
 v0 := Tryz.zeroValue0
 t3 := Tryz.underlying3
 a3 := Tryz.isAgg3
 z3 := Tryz.sizeOf3
 v3 := Tryz.zeroValue3
 t4 := Tryz.underlying4
 a4 := Tryz.isAgg4
 z4 := Tryz.sizeOf4
 v4 := Tryz.zeroValue4
 t5 := Tryz.underlying5
 a5 := Tryz.isAgg5
 z5 := Tryz.sizeOf5
 v5 := Tryz.zeroValue5
 t9 := Tryz.underlying9
 a9 := Tryz.isAgg9
 z9 := Tryz.sizeOf9
 v9 := Tryz.zeroValue9
 t22 := Tryz.underlying57
 a22 := Tryz.isAgg57
 z22 := Tryz.sizeOf57
 v22 := Tryz.zeroValue57
 t25 := Tryz.underlying135
 a25 := Tryz.isAgg135
 z25 := Tryz.sizeOf135
 v25 := Tryz.zeroValue135
 t39 := Tryz.underlying186
 a39 := Tryz.isAgg186
 z39 := Tryz.sizeOf186
 v39 := Tryz.zeroValue186
 t45 := Tryz.underlying229
 a45 := Tryz.isAgg229
 z45 := Tryz.sizeOf229
 v45 := Tryz.zeroValue229
 t46 := Tryz.underlying230
 a46 := Tryz.isAgg230
 z46 := Tryz.sizeOf230
 v46 := Tryz.zeroValue230
 t50 := Tryz.underlying224
 a50 := Tryz.isAgg224
 z50 := Tryz.sizeOf224
 v50 := Tryz.zeroValue224
 t53 := Tryz.underlying61
 a53 := Tryz.isAgg61
 z53 := Tryz.sizeOf61
 v53 := Tryz.zeroValue61
 t55 := Tryz.underlying133
 a55 := Tryz.isAgg133
 z55 := Tryz.sizeOf133
 v55 := Tryz.zeroValue133
 t66 := Tryz.underlying275
 a66 := Tryz.isAgg275
 z66 := Tryz.sizeOf275
 v66 := Tryz.zeroValue275
 t70 := Tryz.underlying279
 a70 := Tryz.isAgg279
 z70 := Tryz.sizeOf279
 v70 := Tryz.zeroValue279
 t76 := Tryz.underlying302
 a76 := Tryz.isAgg302
 z76 := Tryz.sizeOf302
 v76 := Tryz.zeroValue302
 t77 := Tryz.underlying303
 a77 := Tryz.isAgg303
 z77 := Tryz.sizeOf303
 v77 := Tryz.zeroValue303
open Go Go.Wk
set_option maxHeartbeats 4000000
theorem cmp64_l (a b : Int) (w : World) : Calls Tryz.prog 101 #[.int .i64 a, .int .i64 b] w fun e w' => e = .returned (.int .i64 (cmpI a b)) ∧ w' = w := by
 go_enter Tryz.func101, Tryz.ntmps101
 go_wp2
 all_goals go_ret
 all_goals (unfold cmpI; repeat' split)
 all_goals first | exact ⟨rfl, rfl⟩ | (exfalso; omega)
theorem cmpN_l (a b : Int) (w : World) : Calls Tryz.prog 102 #[.int .i64 a, .int .i64 b] w fun e w' => e = .returned (.int .i64 (cmpI a b)) ∧ w' = w := by
 go_enter Tryz.func102, Tryz.ntmps102
 go_wp2
 all_goals go_ret
 all_goals (unfold cmpI; repeat' split)
 all_goals first | exact ⟨rfl, rfl⟩ | (exfalso; omega)
theorem or_l (x y z : Int) (b : Nat) (w : World) (h0 : w.cell? ⟨b, 0, none⟩ = some (.int .i64 x)) (h1 : w.cell? ⟨b, 1, none⟩ = some (.int .i64 y)) (h2 : w.cell? ⟨b, 2, none⟩ = some (.int .i64 z)) :
  Calls Tryz.prog 100 #[.slice (some ⟨b, 0, none⟩) 3 3] w fun e w' => e = .returned (.int .i64 (firstNz [x, y, z])) ∧ w' = w := by
 go_enter Tryz.func100, Tryz.ntmps100
 go_wp2
 refine wp_loop_rounds 4 ?_
 rw [rounds_succ]
 by_cases hx : x = 0
 ·subst hx
  go_wp2
  rw [rounds_succ]
  by_cases hy : y = 0
  ·subst hy
   go_wp2
   rw [rounds_succ]
   by_cases hz : z = 0
   ·subst hz
    go_wp2
    rw [rounds_succ]
    go_wp2
    go_ret
    exact ⟨rfl, rfl⟩
   ·go_wp2
    go_ret
    exact ⟨by simp [firstNz, hz], rfl⟩
  ·go_wp2
   go_ret
   exact ⟨by simp [firstNz, hy], rfl⟩
 ·go_wp2
  go_ret
  exact ⟨by simp [firstNz, hx], rfl⟩
attribute [local irreducible] cmpI firstNz
theorem order_lays (a b : DEvent) (w : World) : Calls Tryz.prog 53 #[.agg (DEvent.enc a).toArray, .agg (DEvent.enc b).toArray] w fun e w' => e = .returned (.int .i64 (ordE a b)) ∧ ∃ q os', w' = grow (w.drewN q) os' := by
 rw [ordE_eq]
 obtain ⟨y, r, n⟩ := a
 obtain ⟨y2, r2, n2⟩ := b
 dsimp only
 have h1 := cmp64_l
 have h2 := cmpN_l
 have h3 := or_l
 simp only [DEvent.enc]
 go_enter Tryz.func53, Tryz.ntmps53
 go_wp2_with fail
 go_region_held3 (fun W => W.cell? ⟨w.heap.size, 0, none⟩ = some (.int .i64 y) ∧ W.cell? ⟨w.heap.size, 1, none⟩ = some (.int .i64 r) ∧ W.cell? ⟨w.heap.size, 2, none⟩ = some (.int .i64 n) ∧ W.cell? ⟨w.heap.size + 1, 0, none⟩ = some (.int .i64 y2) ∧ W.cell? ⟨w.heap.size + 1, 1, none⟩ = some (.int .i64 r2) ∧ W.cell? ⟨w.heap.size + 1, 2, none⟩ = some (.int .i64 n2)) (go_keep)
  (first
   | (go_at_call 101; refine (h1 _ _ _).mono ?_; rintro e w' ⟨rfl, rfl⟩)
   | (go_at_call 102; refine (h2 _ _ _).mono ?_; rintro e w' ⟨rfl, rfl⟩)
   | (go_at_call 100; refine (h3 (cmpI n n2) (cmpI r r2) (cmpI y y2) _ _ (by go_simp) (by go_simp) (by go_simp)).mono ?_; rintro e w' ⟨rfl, rfl⟩))
 all_goals (try go_wp2)
 all_goals go_ret
 all_goals exact ⟨rfl, 1, _, by rw [alloc_eq_grow, alloc_eq_grow, alloc_eq_grow, grow_grow, grow_grow]; rfl⟩
end Go.Proofs.YtonjepladadmhaaGreatDoor
namespace Go.Proofs.YtonjepladadmhaaGreatDoor
open Go Go.RowKit Go.Wk
theorem DEvent.len (x : DEvent) : (DEvent.enc x).length = 3 := rfl
def evRow (A : Option Addr) (c : Nat) (l : List DEvent) : It := .row (.slice A l.length c) 84 3 l.length (l.flatMap DEvent.enc)
def sortedE (l : List DEvent) : List DEvent := l.mergeSort fun x y => !ltE y x
theorem sortedE_len (l : List DEvent) : (sortedE l).length = l.length := List.length_mergeSort _
instance : Inhabited DEvent := ⟨dEv0⟩
theorem flatK_eq (l : List DEvent) : Go.Sort.flatK DEvent.enc 3 l.toArray = (l.flatMap DEvent.enc).toArray := by
 have hfl := flat_len DEvent.len l
 refine Go.Sort.ext_get! (by rw [Go.Sort.size_flatK]; simp [hfl]) fun t ht => ?_
 have ht' : t < l.toArray.size * 3 := by rwa [Go.Sort.size_flatK] at ht
 rw [Go.Sort.get_flatK _ _ _ _ ht']
 have hlt : t / 3 < l.length := by simp at ht'; omega
 have h3 : t % 3 < 3 := Nat.mod_lt _ (by decide)
 have hget := flat_get DEvent.len l (t / 3) l[t / 3] (t % 3) ((DEvent.enc l[t / 3])[t % 3]'h3) (List.getElem?_eq_getElem hlt) (List.getElem?_eq_getElem h3)
 rw [show t / 3 * 3 + t % 3 = t by omega] at hget
 rw [getElem!_pos l.toArray (t / 3) (by simpa using hlt)]
 rw [show (l.flatMap DEvent.enc).toArray[t]! = (l.flatMap DEvent.enc)[t]?.getD default from by simp only [getElem!_def, List.getElem?_toArray]; cases (l.flatMap DEvent.enc)[t]? <;> rfl]
 rw [hget]
 rw [getElem!_pos (DEvent.enc _) (t % 3) (by rw [DEvent.len]; exact h3)]
 simp
 rfl
theorem sort_cmp (b : Nat) (l : List DEvent) (w : World) : CmpLays Tryz.prog 53 #[] DEvent.enc 3 ordE b 0 l.toArray.size w :=
 fun m os dk _ x y => by
  have := order_lays x y (sortWorldK DEvent.enc 3 w b 0 m dk os)
  simpa using this
theorem sortEv_in (A : Option Addr) (c : Nat) (l : List DEvent) (wr : World) (hn : l.length ≤ 1000000000) :
  DoesIn Tryz.prog 52 [.slice A l.length c, .func (.func 53) #[] #[]] wr [evRow A c l] (fun v O => v = .tuple #[] ∧ O = [evRow A c (sortedE l)]) := by
 intro w hB hH
 have hsat := hH.sat _ (List.mem_singleton.2 rfl)
 obtain ⟨hxl, ⟨hv, _⟩ | ⟨b, cap, cur, hval, hb0, hg, hmc, hcm, hsz, hcur⟩⟩ := id hsat
 ·injection hv with h1 h2 h3
  obtain rfl := List.eq_nil_of_length_eq_zero h2
  subst h1 h3
  refine Calls.mono (AnyF.slices_SortFunc_none sortLay none 0 (.func (.func 53) #[] #[]) w) ?_
  rintro e w' ⟨rfl, rfl⟩
  exact ⟨_, _, rfl, hB, hH, rfl, by rw [show sortedE [] = [] from by simp [sortedE]]⟩
 injection hval with hA h2 h3
 subst hA h3
 have hbw : b < w.heap.size := (Array.getElem?_eq_some_iff.1 hg).1
 have hin := hH.inb _ (List.mem_singleton.2 rfl) b (by simp [It.S, evRow, Value.ownBlock])
 have hfl := flat_len DEvent.len l
 have hcl : l.length * 3 ≤ cur.size := by
  have := congrArg List.length hcur
  rw [List.length_take, hfl, Array.length_toList] at this
  omega
 have hget : ∀ j, j < l.length * 3 → cur[j]? = (l.flatMap DEvent.enc)[j]? := fun j hj => by
  rw [← hcur, List.getElem?_take, if_pos (by omega)]
  simp
 have hHold : Go.Sort.HoldsK DEvent.enc 3 w b 0 l.toArray := fun j hj => by
  rw [flatK_eq] at hj ⊢
  have hj' : j < l.length * 3 := by simpa [hfl] using hj
  have hjl : j < (l.flatMap DEvent.enc).length := by rw [hfl]; exact hj'
  refine ⟨?_, by simp [World.frozen?, hg]⟩
  rw [Nat.zero_add, show w.cell? ⟨b, j, none⟩ = cur[j]? from by simp [World.cell?, hg], hget j hj', List.getElem?_eq_getElem hjl, getElem!_pos _ j (by simpa using hjl)]
  simp
 have h := AnyQ.slices_SortFunc_total sortLay 3 Tryz.isAgg84 Tryz.sizeOf84 DEvent.enc DEvent.len (fun x v hv => by simp [DEvent.enc] at hv; rcases hv with rfl | rfl | rfl <;> rfl) ordE swoE 53 #[] b 0 c l.toArray w
  (enters_of Tryz.func53 (by kernel_rfl) rfl) (sort_cmp b l w) hHold hbw (by simp; omega) totE
 refine Calls.mono h ?_
 rintro e w' ⟨rfl, n, os, rfl⟩
 rw [show (l.toArray.toList.mergeSort fun x y => !(ltOf ordE) y x) = sortedE l from rfl]
 have hlen := sortedE_len l
 generalize sortedE l = s at hlen ⊢
 have hfs := flat_len DEvent.len s
 have hsh : (sortWorldK DEvent.enc 3 w b 0 n s.toArray os).heap = (w.heap.modify b (Go.Sort.onCells (Go.Sort.putCells id 0 (s.flatMap DEvent.enc).toArray))) ++ os := by
  unfold sortWorldK Go.Sort.putRowK
  rw [flatK_eq]
  rfl
 have hold : ∀ i, i < w.heap.size → i ≠ b → (sortWorldK DEvent.enc 3 w b 0 n s.toArray os).heap[i]? = w.heap[i]? := fun i hi hne => by
  rw [hsh, Array.getElem?_append_left (by simpa using hi), Array.getElem?_modify, if_neg (fun e => hne e.symm)]
 have hnew : (sortWorldK DEvent.enc 3 w b 0 n s.toArray os).heap[b]? = some (.cells (Go.Sort.putCells id 0 (s.flatMap DEvent.enc).toArray cur) 84 (0, 0)) := by
  rw [hsh, Array.getElem?_append_left (by simpa using hbw), Array.getElem?_modify, if_pos rfl, hg]
  rfl
 have hsize : w.heap.size ≤ (sortWorldK DEvent.enc 3 w b 0 n s.toArray os).heap.size := by rw [hsh]; simp
 have hbel : Bel wr.heap.size wr (sortWorldK DEvent.enc 3 w b 0 n s.toArray os) :=
  hB.trans ⟨⟨rfl, rfl, rfl, hsize, fun i hi => hold i (by have := hB.size; omega) (by omega)⟩⟩
 refine ⟨_, [evRow (some ⟨b, 0, none⟩) c s], rfl, hbel, ?_, rfl, rfl⟩
 refine hH.upd (A := evRow (some ⟨b, 0, none⟩) c l) .here hB.size hsize (fun i hi hS => hold i hi (fun e => hS (by rw [e]; simp [It.S, evRow, Value.ownBlock]))) ?_ (fun i hi => .inl hi)
 refine ⟨by rw [hfs], .inr ⟨b, c, _, rfl, Nat.zero_le _, hnew, by omega, hcm, ?_, ?_⟩⟩
 ·simp only [Go.Sort.putCells, Array.size_mapIdx]
  exact hsz
 ·apply List.ext_getElem?
  intro j
  rw [List.getElem?_take]
  by_cases hj : j < s.length * 3
  ·rw [if_pos hj]
   have hjc : j < cur.size := by omega
   have hjs : j < (s.flatMap DEvent.enc).length := by omega
   simp only [Array.getElem?_toList, Go.Sort.putCells, Array.getElem?_mapIdx, Array.getElem?_eq_getElem hjc, Option.map_some, Nat.zero_le, true_and, Nat.zero_add, List.size_toArray, if_pos hjs, Nat.sub_zero]
   rw [List.getElem?_eq_getElem hjs, getElem!_pos _ j (by simpa using hjs)]
   simp
  ·rw [if_neg hj, List.getElem?_eq_none (by omega)]
attribute [local irreducible] W RL Does thenQ blockQ retQ Calls Pu Stp RD Qy Ay DoesIn
structure IG where
 k : Nat
 A : Option Addr
 c : Nat
 m : Nat
 xs : List Value
 acc : List DEvent
def NewEv (l : List DEvent) (v : Value) (O : List It) : Prop := ∃ A c, v = .tuple #[.slice A l.length c, .int .i64 0] ∧ O = [evRow A c l]
theorem u64_le {f t : Int} {M : Nat} (hf : -2000000000 ≤ f ∧ f ≤ 2000000000) (ht : t + 1 = f + M) (h0 : 0 < M) (hM : M ≤ 1000) : decide ((1000 : Int) < IntKind.u64.wrap (IntKind.u64.wrap t - IntKind.u64.wrap f)) = false := by
 refine decide_eq_false ?_
 simp [IntKind.wrap, IntKind.signed, IntKind.bits]
 omega
theorem inG_spec (A : Option Addr) (c : Nat) (l : List DRule) (f t : Int) (M : Nat) (w : World) (hG : Glob w) (hA : RdSl w A c DRule.enc 11 l) (hn : l.length ≤ 1000000) (hR : ∀ r ∈ l, -4611686018427387904 ≤ r.save ∧ r.save ≤ 4611686018427387904)
  (hf : -2000000000 ≤ f ∧ f ≤ 2000000000) (ht : t + 1 = f + M) (hM0 : 0 < M) (hM : M ≤ 1000) :
  Does Tryz.prog 18 [.slice A l.length c, .int .i64 f, .int .i64 t] w (NewEv (sortedE (allC l (leastD l) f M))) := by
 have e1 : decide (t < f) = false := decide_eq_false (by omega)
 have e2 := u64_le hf ht hM0 hM
 have hon := fun (i : Nat) r (hi : l[i]? = some r) y w' (hw : Bel w.heap.size w w') => evOn_spec A c l i y r w' (hG.up hw) (hA.up hw) hi hn hR
 generalize leastD l = least at *
 obtain ⟨res, hres⟩ : ∃ res, allC l least f M = res := ⟨_, rfl⟩
 rw [hres]
 refine Does_of_W Tryz.func18 rfl rfl rfl rfl ?_
 repeat (first | (apply RL_pu; rfl; (first | (apply Pu_sub'; rfl; rfl; (constructor <;> omega)) | (apply Pu_subW; rfl; rfl) | (apply Pu_gtrB; rfl; rfl; exact e2) | (apply Pu_lssB; rfl; rfl; exact e1) | (apply Pu_convI; rfl))) | (refine js ?_; (refine bx ?_; intro bk)) | refine walk1 ?_)
 refine W_nil 84 3 ?_
 obtain ⟨N, hN⟩ : ∃ N : Int, N = (M : Int) := ⟨_, rfl⟩
 rw [show t - f + 1 = N by omega]
 refine W_loopF [(0, .slice A l.length c), (1, .int .i64 f), (27, .int .i64 N)] [] (fun g : IG => [(8, .slice g.A g.m g.c), (28, .int .i64 g.k)]) (fun g => [.row (.slice g.A g.m g.c) 84 3 g.m g.xs])
  (fun g => g.k ≤ M ∧ g.m = g.acc.length ∧ g.xs = g.acc.flatMap DEvent.enc ∧ g.m ≤ g.k * 1000000 ∧ g.acc = allC l least f g.k) (fun g => M - g.k) ⟨0, none, 0, 0, [], []⟩ SFA SOA ⟨Nat.zero_le _, rfl, rfl, Nat.le_refl _, rfl⟩ ?_
 rintro ⟨k, A1, c1, m, xs, acc⟩ ⟨hk, hm, hx, hmk, hi⟩
 dsimp only at hk hm hx hmk hi ⊢
 repeat (first | (refine js ?_; (refine bx ?_; intro bk)) | refine walk ?_)
 refine W_cond rfl (fun hc => ?_) (fun hc => ?_)
 ·have hk2 : k < M := by have := of_decide_eq_true hc; omega
  obtain ⟨nxt, hnxt⟩ : ∃ nxt, allC l least f (k + 1) = nxt := ⟨_, rfl⟩
  have hst : acc ++ yearC least (f + k) l 0 = nxt := by rw [← hnxt, allC, hi]
  repeat (first | (refine js ?_; (refine bx ?_; intro bk)) | refine walk ?_)
  refine W_loopF [(0, .slice A l.length c), (1, .int .i64 f), (27, .int .i64 N), (28, .int .i64 k), (9, .int .i64 k), (31, .slice A l.length c), (32, .int .i64 l.length)] [] (fun g : IG => [(8, .slice g.A g.m g.c), (33, .int .i64 g.k)]) (fun g => [.row (.slice g.A g.m g.c) 84 3 g.m g.xs])
   (fun g => g.k ≤ l.length ∧ g.m = g.acc.length ∧ g.xs = g.acc.flatMap DEvent.enc ∧ g.m ≤ k * 1000000 + g.k ∧ g.acc ++ yearC least (f + k) (l.drop g.k) g.k = nxt) (fun g => l.length - g.k) ⟨0, A1, c1, m, xs, acc⟩ SFA SOA ⟨Nat.zero_le _, hm, hx, Nat.le_trans hmk (Nat.le_add_right _ _), by dsimp only; rw [List.drop_zero]; exact hst⟩ ?_
  clear hm hx hmk hi hst hc
  rintro ⟨i, A1, c1, m, xs, acc⟩ ⟨hil, hm, hx, hmk, hi⟩
  dsimp only at hil hm hx hmk hi ⊢
  repeat (first | (refine js ?_; (refine bx ?_; intro bk)) | refine walk ?_)
  refine W_cond rfl (fun hc => ?_) (fun hc => ?_)
  ·simp only [decide_eq_true_eq, Int.ofNat_lt] at hc
   have ho := hon i _ (List.getElem?_eq_getElem hc) (f + (k : Int))
   rw [drop_cons hc, yearC] at hi
   generalize onR least l[i] i (f + (k : Int)) = o at *
   cases o with
   | none =>
    simp only [evV, DEvent.enc, dEv0, Option.isSome, Option.toList, List.nil_append] at ho hi
    repeat (first | (refine js ?_; (first | (refine callE ho ?_) | (refine bx ?_; intro bk))) | refine walk ?_)
    exact ⟨⟨i + 1, A1, c1, m, xs, acc⟩, OA, ⟨OA, hm, hx, OA, hi⟩, SFA, SOA⟩
   | some e =>
    obtain ⟨ey, er, en⟩ := e
    simp only [evV, DEvent.enc, Option.isSome, Option.toList] at ho hi
    repeat (first | (refine js ?_; (first | (refine callE ho ?_) | (apply Stp_append; rfl; rfl; (intro A' c'; (focus repeat' constructor)); (intro w' _ hO; exact blkRaw (hO.of (by repeat' constructor))); rfl; rfl; (simp only [maxLen]; omega); omega; intro A' c' hc1 hc2 hc3) | (refine bx ?_; intro bk))) | refine walk ?_)
    exact ⟨⟨i + 1, A', c', m + 1, xs ++ [.int .i64 ey, .int .i64 er, .int .i64 en], acc ++ [⟨ey, er, en⟩]⟩, OA, ⟨OA, by simp [hm], by rw [hx]; simp [DEvent.enc], OA, by rw [← hi]; simp⟩, SFA, SOA⟩
  ·simp only [decide_eq_false_iff_not, Int.ofNat_lt] at hc
   rw [List.drop_eq_nil_of_le (by omega), yearC, List.append_nil] at hi
   repeat (first | (refine js ?_; (refine bx ?_; intro bk)) | refine walk ?_)
   exact ⟨⟨k + 1, A1, c1, m, xs, acc⟩, OA, ⟨OA, hm, hx, OA, hi.trans hnxt.symm⟩, SFA, SOA⟩
 ·obtain rfl : k = M := by have := of_decide_eq_false hc; omega
  rw [hres] at hi
  subst hi hm hx
  repeat (first | (refine js ?_; (first | (apply Stp_callIn; rfl; exact sortEv_in A1 c1 acc w (by omega); exact .refl _; rintro v O' ⟨rfl, rfl⟩) | (refine bx ?_; intro bk))) | refine walk ?_)
  exact ret_2 _ _ [evRow A1 c1 (sortedE acc)] (.tmp rfl) (.tmp rfl) SOA ⟨A1, c1, by rw [sortedE_len], rfl⟩
theorem in_spec (A : Option Addr) (c : Nat) (l : List DRule) (w : World) (hG : Glob w) (hA : RdSl w A c DRule.enc 11 l) (hn : l.length ≤ 1000000) (hR : ∀ r ∈ l, -4611686018427387904 ≤ r.save ∧ r.save ≤ 4611686018427387904) :
  Does Tryz.prog 18 [.slice A l.length c, .int .i64 1850, .int .i64 2550] w (NewEv (sortedE (allC l (leastD l) 1850 701))) :=
 inG_spec A c l 1850 2550 701 w hG hA hn hR (by omega) (by omega) (by omega) (by omega)
def apV : Option DEvent → Value
 | none => .tuple #[.agg (DEvent.enc dEv0).toArray, .int .i64 0]
 | some e => .tuple #[.agg (DEvent.enc e).toArray, .int .i64 13]
theorem closeA_drop {l : List DEvent} {k : Nat} (h : k + 1 < l.length) : closeA (l.drop k) = if (l[k + 1]'h).nominal - (l[k]'(by omega)).nominal < 259200 then some (l[k + 1]'h) else closeA (l.drop (k + 1)) := by
 rw [drop_cons (show k < l.length by omega), drop_cons h, closeA]
theorem closeA_end {l : List DEvent} {k : Nat} (h : l.length ≤ k + 1) : closeA (l.drop k) = none := by
 by_cases hk : k < l.length
 ·rw [drop_cons hk, List.drop_eq_nil_of_le h]; rfl
 ·rw [List.drop_eq_nil_of_le (by omega)]; rfl
theorem evRow_get {l : List DEvent} {k : Nat} (h : k < l.length) (j : Nat) (v : Value) (hj : (DEvent.enc l[k])[j]? = some v) : (l.flatMap DEvent.enc)[k * 3 + j]? = some v := flat_get DEvent.len l k _ j v (List.getElem?_eq_getElem h) hj
def NomOk (e : DEvent) : Prop := -200000000000000000 ≤ e.nominal ∧ e.nominal ≤ 200000000000000000
theorem yearC_ok (least y : Int) (hl : least ≤ 0) : ∀ (l : List DRule) (i : Nat), (yearC least y l i).length ≤ l.length ∧ ∀ e ∈ yearC least y l i, NomOk e
 | [], _ => ⟨Nat.le_refl _, fun _ h => by cases h⟩
 | r :: l, i => by
  obtain ⟨h1, h2⟩ := yearC_ok least y hl l (i + 1)
  have h3 := onR_bd least hl r i y
  simp only [yearC, List.length_append, List.length_cons, List.mem_append]
  generalize onR least r i y = o at *
  cases o with
  | none => exact ⟨by simp only [Option.toList, List.length_nil]; omega, fun e he => by rcases he with h | h; cases h; exact h2 e h⟩
  | some x => exact ⟨by simp only [Option.toList, List.length_cons, List.length_nil]; omega, fun e he => by
    rcases he with h | h
    ·simp only [Option.toList, List.mem_singleton] at h; subst h; exact h3 _ rfl
    ·exact h2 e h⟩
theorem allC_ok (l : List DRule) (least from_ : Int) (hl : least ≤ 0) : ∀ k, (allC l least from_ k).length ≤ k * l.length ∧ ∀ e ∈ allC l least from_ k, NomOk e
 | 0 => ⟨Nat.zero_le _, fun _ h => by cases h⟩
 | k + 1 => by
  obtain ⟨h1, h2⟩ := allC_ok l least from_ hl k
  obtain ⟨h3, h4⟩ := yearC_ok least (from_ + k) hl l 0
  simp only [allC, List.length_append, List.mem_append, Nat.succ_mul]
  exact ⟨by omega, fun e he => he.elim (h2 e) (h4 e)⟩
theorem allC_len (l : List DRule) (least from_ : Int) (hl : least ≤ 0) (hn : l.length ≤ 1000000) : (allC l least from_ 701).length ≤ 701000000 := by
 have := (allC_ok l least from_ hl 701).1
 omega
theorem PuEvI1 {G : Prop} (h : G := by (apply Pu_maxK; rfl; rfl; exact hmx)) : G := h
theorem QyEvI1 {G : Prop} (h : G := by first | (apply Qy_y; rfl; exact PuEvI1) | exact QyA) : G := h
theorem QFEvI1 {G : Prop} (h : G := by repeat (first | exact QF.nil | (apply QF.mk; rfl; rfl; decide +kernel; exact QyEvI1))) : G := h
theorem PuEvI2 {G : Prop} (h : G := by (first | (apply Pu_indexAddrH; rfl; rfl; omega; omega; (intro w' _ hO; exact (row_cell (hO.of (A := .row (.slice A1 s.length c1) 84 3 s.length (s.flatMap DEvent.enc)) (by repeat' constructor)) hg1).1)) | (apply Pu_loadRF; rfl; (focus repeat' constructor); exact hg1) | (apply Pu_loadRF; rfl; (focus repeat' constructor); exact hg2) | (apply Pu_loadRN; rfl; (focus repeat' constructor); exact hgn; rfl) | (apply Pu_lssB; rfl; rfl; exact hb))) : G := h
theorem QyEvI2 {G : Prop} (h : G := by first | (apply Qy_y; rfl; exact PuEvI2) | exact QyA) : G := h
theorem QFEvI2 {G : Prop} (h : G := by repeat (first | exact QF.nil | (apply QF.mk; rfl; rfl; decide +kernel; exact QyEvI2))) : G := h
theorem apart_spec (A : Option Addr) (c : Nat) (l : List DRule) (w : World) (hG : Glob w) (hA : RdSl w A c DRule.enc 11 l) (hn : l.length ≤ 1000000) (hR : ∀ r ∈ l, -4611686018427387904 ≤ r.save ∧ r.save ≤ 4611686018427387904) :
  Does Tryz.prog 108 [.slice A l.length c] w (fun v O => v = apV (apartD l) ∧ O = []) := by
 have hin := fun w' (hw : Bel w.heap.size w w') => in_spec A c l w' (hG.up hw) (hA.up hw) hn hR
 have hle := (leastD_le l hR).2
 have hal := allC_len l (leastD l) 1850 hle hn
 have hok := (allC_ok l (leastD l) 1850 hle 701).2
 rw [← apartD_eq]
 rw [show ((allC l (leastD l) 1850 701).mergeSort fun x y => !ltE y x) = sortedE (allC l (leastD l) 1850 701) from rfl]
 have hsl := sortedE_len (allC l (leastD l) 1850 701)
 have hso : ∀ e ∈ sortedE (allC l (leastD l) 1850 701), NomOk e := fun e he => hok e (List.mem_mergeSort.1 he)
 generalize sortedE (allC l (leastD l) 1850 701) = s at *
 have hsl2 : s.length ≤ 701000000 := by omega
 clear hal hok hsl
 obtain ⟨res, hres⟩ : ∃ res, closeA s = res := ⟨_, rfl⟩
 rw [hres]
 have hmx : (if (s.length : Int) - 1 < 0 then 0 else (s.length : Int) - 1) = ((s.length - 1 : Nat) : Int) := by split <;> omega
 refine Does_of_W Tryz.func108 rfl rfl rfl rfl ?_
 repeat (first | (apply RL_pu; rfl; exact PuEvI1) | (apply RD_Q; rfl; rfl; decide +kernel; rfl; rfl; exact QyEvI1) | refine walk1 ?_ | (refine jg ?_; (try intro F); (first | (apply Stp_call (h := fun w' hw _ => hin w' hw); rfl; rintro v O' ⟨A1, c1, rfl, rfl⟩) | (refine bx ?_; intro bk) | (refine stA ?_)); first | refine ⟨_, EndsA, QFEvI1, ?_⟩ | refine fin ?_) | (refine jn ?_; (try intro F); (first | (refine bx ?_; intro bk) | (refine stA ?_) | (apply Stp_pu; first | exact PuEvI1 | exact PuA)); first | refine ⟨_, EndsA, QFEvI1, ?_⟩ | refine fin ?_) | (apply RD_W; rfl; intro bk))
 have hn1 : s.length - 1 ≤ 701000000 := by omega
 obtain ⟨b2, hb2⟩ : ∃ b2, bk = b2 := ⟨_, rfl⟩
 rw [hb2]
 clear hb2 bk
 refine W_loopF [(2, .pointer (some ⟨b2, 0, none⟩)), (4, .slice A1 s.length c1), (19, .int .i64 (s.length - 1 : Nat))] [.row (.slice A1 s.length c1) 84 3 s.length (s.flatMap DEvent.enc), .blk b2 [.int .i64 0, .int .i64 0, .int .i64 0] 84] (fun k : Nat => [(20, .int .i64 k)]) (fun _ => []) (fun k => k ≤ s.length - 1 ∧ closeA (s.drop k) = res) (fun k => s.length - 1 - k) 0 SFA SOA ⟨Nat.zero_le _, hres⟩ ?_
 rintro k ⟨hk, hi⟩
 repeat (first | refine walk ?_ | (refine jn ?_; (try intro F); (first | (refine bx ?_; intro bk) | (refine stA ?_) | (apply Stp_pu; exact PuA)); refine fin ?_) | (apply RD_W; rfl; intro bk))
 refine W_cond rfl (fun hc => ?_) (fun hc => ?_)
 ·simp only [decide_eq_true_eq, Int.ofNat_lt] at hc
  have hk1 : k + 1 < s.length := by omega
  rw [closeA_drop hk1] at hi
  have hg1 := evRow_get hk1 2 _ rfl
  have hg2 := evRow_get (show k < s.length by omega) 2 _ rfl
  have hgn : ∀ j v, (DEvent.enc s[k + 1])[j]? = some v → (s.flatMap DEvent.enc)[(k + 1) * 3 + j]? = some v := fun j v hj => evRow_get hk1 j v hj
  have o1 := hso _ (List.getElem_mem hk1)
  have o2 := hso _ (List.getElem_mem (show k < s.length by omega))
  generalize s[k + 1] = e1 at *
  generalize s[k] = e2 at *
  obtain ⟨y1, r1, n1⟩ := e1
  obtain ⟨y2, r2, n2⟩ := e2
  simp only [DEvent.enc, NomOk] at hg1 hg2 hgn o1 o2 hi
  have hlen : (s.length : Int) ≤ 701000000 := by omega
  have hkk : (k : Int) + 1 < s.length := by omega
  by_cases h3 : n1 - n2 < 259200
  ·rw [if_pos h3] at hi
   subst hi
   have hb : decide (n1 - n2 < 259200) = true := decide_eq_true h3
   repeat (first | (apply RL_pu; rfl; exact PuEvI2) | (apply RD_Q; rfl; rfl; decide +kernel; rfl; rfl; exact QyEvI2) | refine walk1 ?_ | (refine jn ?_; (try intro F); (first | (refine bx ?_; intro bk) | (refine stA ?_) | (apply Stp_pu; first | exact PuEvI2 | exact PuA)); first | refine ⟨_, EndsA, QFEvI2, ?_⟩ | refine fin ?_) | (apply RD_W; rfl; intro bk))
   exact rtC
  ·rw [if_neg h3] at hi
   have hb : decide (n1 - n2 < 259200) = false := decide_eq_false h3
   repeat (first | (apply RL_pu; rfl; exact PuEvI2) | (apply RD_Q; rfl; rfl; decide +kernel; rfl; rfl; exact QyEvI2) | refine walk1 ?_ | (refine jn ?_; (try intro F); (first | (refine bx ?_; intro bk) | (refine stA ?_) | (apply Stp_pu; first | exact PuEvI2 | exact PuA)); first | refine ⟨_, EndsA, QFEvI2, ?_⟩ | refine fin ?_) | (apply RD_W; rfl; intro bk))
   exact ⟨k + 1, OA, ⟨OA, hi⟩, SFA, SOA⟩
 ·simp only [decide_eq_false_iff_not, Int.ofNat_lt] at hc
  rw [closeA_end (show s.length ≤ k + 1 by omega)] at hi
  subst hi
  repeat (first | refine walk ?_ | (refine jn ?_; (try intro F); (first | (refine bx ?_; intro bk) | (refine stA ?_) | (apply Stp_pu; exact PuA)); refine fin ?_) | (apply RD_W; rfl; intro bk))
  exact rtC
end Go.Proofs.YtonjepladadmhaaGreatDoor
