/- Contract: format.Check. Contract: ruleset.Of. The shelf's laying of slices.SortFunc at events, written out (by genlay.py). What the shelf asks of a comparison: events.order, walked with the kit's own steps. Plain law: the events sorted; the first that is close to the one in front of it. -/
import Derived.Test.YtbffjibfcgcoeaaGreatDoorQ25
import Derived.Test.YtbffjibfcgcoeaaGreatDoorQ10
import Derived.Shelf.SlSortCmp.NoneTotal
import Derived.Shelf.Lay
import Derived.Test.YtbffjibfcgcoeaaGreatDoorQ09
import Derived.Sort.Grow
import Derived.Deep.Draws
import Derived.Deep.RegionHeld3
import Derived.Test.YtbffjibfcgcoeaaGreatDoorQ22
import Derived.Sort.LotA
set_option linter.unusedVariables false
set_option linter.unusedSimpArgs false
namespace Go.Proofs.YtbffjibfcgcoeaaGreatDoor
open Go Go.RowKit Go.Wk Go.Lib
attribute [local irreducible] W RL Does thenQ blockQ retQ Calls Pu Stp RD Qy Ay DoesIn RW
structure LtG where
  k : Nat
  A : Option Addr
  c : Nat
  m : Nat
  ys : List Value
theorem fcheck_spec (e : DEra) (A : Option Addr) (c : Nat) (l : List DRule) (w : World) (hL : LibW w) (hA : RdSl w A c DRule.enc 11 l) (ho : I64 e.off) (hs : I64 e.save) (hr : ∀ r ∈ l, I64 r.save) (hn : l.length ≤ 1000000) (hfs : e.format.size ≤ 1000000000) (hlt : ∀ r ∈ l, r.letter.size ≤ 1000000000) :
    Does Tryz.prog 168 [.agg e.enc.toArray, .slice A l.length c] w (fun v O => v = .int .i64 (fmtChk e l) ∧ O = []) := by
  have hk := fun w' (hw : Bel w.heap.size w w') => kind_spec e.format w' (hL.up hw) hfs
  have hx := fun w' (hw : Bel w.heap.size w w') => expand_spec e A c l w' (hA.up hw) ho hs hr hn
  have hab := fun (x : ByteArray) (hx : x.size ≤ 1000000000) w' (hw : Bel w.heap.size w w') => fabbr_spec e.format x 0 0 w' (hL.up hw) hfs hx ⟨by decide, by decide⟩ ⟨by decide, by decide⟩
  unfold fmtChk
  dsimp only
  obtain ⟨L, hLt⟩ : ∃ L : List ByteArray, (if e.kind = 2 then l.map (·.letter) else [ByteArray.empty]) = L := ⟨_, rfl⟩
  have hLe : (if e.kind = 2 then l.map (fun r => r.letter.data.toList) else [[]]) = L.map (·.data.toList) := by
    rw [← hLt]
    split
    · rw [List.map_map]; rfl
    · rfl
  have hLs : ∀ x ∈ L, x.size ≤ 1000000000 := by
    rw [← hLt]
    intro x hx
    split at hx
    · obtain ⟨r, hr, rfl⟩ := List.mem_map.1 hx; exact hlt r hr
    · simp only [List.mem_singleton] at hx; subst hx; decide
  have hLn : L.length ≤ 1000001 := by
    rw [← hLt]
    split
    · rw [List.length_map]; omega
    · decide
  rw [hLe]
  obtain ⟨off, kind, save, set, format, til⟩ := e
  dsimp only at ho hs hk hx hab hfs hLt ⊢
  generalize kindF format.data.toList = K at *
  obtain ⟨xv, hxv⟩ : ∃ xv, expandN ⟨off, kind, save, set, format, til⟩ l = xv := ⟨_, rfl⟩
  rw [hxv] at hx ⊢
  obtain ⟨xt, xe⟩ := xv
  simp only [xpV, DEra.enc] at hx hab ⊢
  refine Does_of_W Tryz.func168 rfl rfl rfl rfl ?_
  repeat (first | (apply RL_st; rfl; (first | (apply Stp_boxNf; rfl; (focus repeat (first | exact Nf.nil | apply Nf.cons)); intro bk) | (apply Stp_buildSliceC; rfl; rfl; rfl; rfl; (focus repeat (first | exact Nf.nil | apply Nf.cons)); intro bk) | (apply Stp_alloc; intro bk))) | refine walkB ?_)
  rename_i b2
  obtain ⟨b1, hb1⟩ : ∃ b1, bk = b1 := ⟨_, rfl⟩
  rw [hb1]
  clear hb1 bk
  refine W_mid (fun fr' O' => ∃ A1 c1, Sub [(2, .pointer (some ⟨b2, 0, none⟩)), (1, .slice A l.length c), (5, .slice A1 L.length c1)] fr' ∧ SubO [.row (.slice A1 L.length c1) 9 1 L.length (L.flatMap strEnc), .blk b2 [.int .i64 off, .int .i64 kind, .int .i64 save, .string set, .string format, .bool til.is, .int .i64 til.year, .int .i64 til.month, .int .i64 til.day.kind, .int .i64 til.day.week, .int .i64 til.day.day, .int .i64 til.at_.sec, .int .i64 til.at_.base] 60] O') ?_ ?_
  · refine W_cond rfl (fun h => ?_) (fun h => ?_)
    · rw [if_pos (of_decide_eq_true h)] at hLt
      subst hLt
      repeat (first | (apply RL_st; rfl; (first | (apply Stp_boxNf; rfl; (focus repeat (first | exact Nf.nil | apply Nf.cons)); intro bk) | (apply Stp_buildSliceC; rfl; rfl; rfl; rfl; (focus repeat (first | exact Nf.nil | apply Nf.cons)); intro bk) | (apply Stp_alloc; intro bk))) | refine walk ?_)
      refine W_nil 9 1 ?_
      refine W_loopF [(2, .pointer (some ⟨b2, 0, none⟩)), (1, .slice A l.length c), (19, .slice A l.length c), (20, .int .i64 l.length)] [.blk b2 [.int .i64 off, .int .i64 kind, .int .i64 save, .string set, .string format, .bool til.is, .int .i64 til.year, .int .i64 til.month, .int .i64 til.day.kind, .int .i64 til.day.week, .int .i64 til.day.day, .int .i64 til.at_.sec, .int .i64 til.at_.base] 60] (fun g : LtG => [(5, .slice g.A g.m g.c), (21, .int .i64 g.k)]) (fun g => [.row (.slice g.A g.m g.c) 9 1 g.m g.ys])
        (fun g => g.k ≤ l.length ∧ g.m = g.k ∧ g.ys = ((l.take g.k).map (·.letter)).flatMap strEnc) (fun g => l.length - g.k) ⟨0, none, 0, 0, []⟩ (by repeat (first | exact trivial | refine ⟨rfl, ?_⟩)) (by first | exact .refl _ | focus repeat (first | exact SubO.nil | (apply SubO.cons; focus repeat' constructor))) ⟨Nat.zero_le _, rfl, rfl⟩ ?_
      rintro ⟨k, A1, c1, m, ys⟩ ⟨hkl, hm, hy⟩
      dsimp only at hkl hm hy ⊢
      repeat (first | (apply RL_st; rfl; (first | (apply Stp_boxNf; rfl; (focus repeat (first | exact Nf.nil | apply Nf.cons)); intro bk) | (apply Stp_buildSliceC; rfl; rfl; rfl; rfl; (focus repeat (first | exact Nf.nil | apply Nf.cons)); intro bk) | (apply Stp_alloc; intro bk))) | refine walk ?_)
      refine W_cond rfl (fun hc => ?_) (fun hc => ?_)
      · simp only [decide_eq_true_eq, Int.ofNat_lt] at hc
        obtain ⟨hna, hca⟩ := hA.rd k _ (List.getElem?_eq_getElem hc)
        have htk := List.take_append_getElem hc
        generalize l[k] = r at *
        repeat (first | (apply RL_pu; rfl; (first | (apply Pu_indexAddr; rfl; rfl; omega; omega; exact hna) | (apply Pu_loadON; rfl; exact hca; rfl))) | (apply RL_st0; (apply Stp_append; rfl; rfl; (intro A' c'; (focus repeat' constructor)); (intro w' _ hO; exact blkRaw (hO.of (by (focus repeat' constructor)))); rfl; rfl; (simp only [maxLen]; omega); omega; intro A' c' hc1 hc2 hc3)) | (apply RL_st; rfl; (first | (apply Stp_append; rfl; rfl; (intro A' c'; (focus repeat' constructor)); (intro w' _ hO; exact blkRaw (hO.of (by (focus repeat' constructor)))); rfl; rfl; (simp only [maxLen]; omega); omega; intro A' c' hc1 hc2 hc3) | (apply Stp_boxNf; rfl; (focus repeat (first | exact Nf.nil | apply Nf.cons)); intro bk) | (apply Stp_buildSliceC; rfl; rfl; rfl; rfl; (focus repeat (first | exact Nf.nil | apply Nf.cons)); intro bk) | (apply Stp_alloc; intro bk))) | refine walk1 ?_)
        exact ⟨⟨k + 1, A', c', m + 1, ys ++ [.string r.letter]⟩, (by first | omega | (dsimp only; omega)), ⟨(by first | omega | (dsimp only; omega)), (by first | omega | (dsimp only; omega)), by dsimp only; rw [hy, ← htk]; simp [strEnc]⟩, (by repeat (first | exact trivial | refine ⟨rfl, ?_⟩)), (by first | exact .refl _ | focus repeat (first | exact SubO.nil | (apply SubO.cons; focus repeat' constructor)))⟩
      · obtain rfl : k = l.length := by simp only [decide_eq_false_iff_not, Int.ofNat_lt] at hc; omega
        rw [List.take_length] at hy
        subst hm hy
        repeat (first | (apply RL_st; rfl; (first | (apply Stp_boxNf; rfl; (focus repeat (first | exact Nf.nil | apply Nf.cons)); intro bk) | (apply Stp_buildSliceC; rfl; rfl; rfl; rfl; (focus repeat (first | exact Nf.nil | apply Nf.cons)); intro bk) | (apply Stp_alloc; intro bk))) | refine walk ?_)
        rw [List.length_map]
        exact ⟨A1, c1, (by repeat (first | exact trivial | refine ⟨rfl, ?_⟩)), (by first | exact .refl _ | focus repeat (first | exact SubO.nil | (apply SubO.cons; focus repeat' constructor)))⟩
    · rw [if_neg (of_decide_eq_false h)] at hLt
      subst hLt
      refine W_toRow (b := b1) (m := 1) 1 (by (focus repeat' constructor)) rfl (by decide) ?_
      repeat (first | (apply RL_st; rfl; (first | (apply Stp_boxNf; rfl; (focus repeat (first | exact Nf.nil | apply Nf.cons)); intro bk) | (apply Stp_buildSliceC; rfl; rfl; rfl; rfl; (focus repeat (first | exact Nf.nil | apply Nf.cons)); intro bk) | (apply Stp_alloc; intro bk))) | refine walk ?_)
      exact ⟨some ⟨b1, 0, none⟩, 1, (by repeat (first | exact trivial | refine ⟨rfl, ?_⟩)), (by first | exact .refl _ | focus repeat (first | exact SubO.nil | (apply SubO.cons; focus repeat' constructor)))⟩
  rintro fr' O' ⟨A1, c1, hf, hO⟩
  refine W_sub hf hO ?_
  clear hf hO fr' O' hLt hLe b1
  by_cases k0 : K = 0
  · subst k0
    rw [if_pos rfl]
    repeat (first | (apply RL_st0; (apply Stp_call (h := fun w' hw _ => hk w' hw); rfl; rintro v O' ⟨rfl, rfl⟩)) | (apply RL_st; rfl; (first | (apply Stp_call (h := fun w' hw _ => hk w' hw); rfl; rintro v O' ⟨rfl, rfl⟩) | (apply Stp_boxNf; rfl; (focus repeat (first | exact Nf.nil | apply Nf.cons)); intro bk) | (apply Stp_buildSliceC; rfl; rfl; rfl; rfl; (focus repeat (first | exact Nf.nil | apply Nf.cons)); intro bk) | (apply Stp_alloc; intro bk))) | refine walk ?_)
    exact ret_1 _ [] (.tmp rfl) .nil ⟨rfl, rfl⟩
  have e0 : decide (K = 0) = false := decide_eq_false k0
  rw [if_neg k0]
  by_cases k3 : K = 3
  · subst k3
    rw [if_pos rfl]
    obtain ⟨res, hres⟩ : ∃ res, firstErr format.data.toList (L.map (·.data.toList)) = res := ⟨_, rfl⟩
    rw [hres]
    repeat (first | (apply RL_st0; (apply Stp_call (h := fun w' hw _ => hk w' hw); rfl; rintro v O' ⟨rfl, rfl⟩)) | (apply RL_st; rfl; (first | (apply Stp_call (h := fun w' hw _ => hk w' hw); rfl; rintro v O' ⟨rfl, rfl⟩) | (apply Stp_boxNf; rfl; (focus repeat (first | exact Nf.nil | apply Nf.cons)); intro bk) | (apply Stp_buildSliceC; rfl; rfl; rfl; rfl; (focus repeat (first | exact Nf.nil | apply Nf.cons)); intro bk) | (apply Stp_alloc; intro bk))) | refine walk ?_)
    refine W_loopF [(2, .pointer (some ⟨b2, 0, none⟩)), (39, .slice A1 L.length c1), (40, .int .i64 L.length)] [.row (.slice A1 L.length c1) 9 1 L.length (L.flatMap strEnc), .blk b2 [.int .i64 off, .int .i64 kind, .int .i64 save, .string set, .string format, .bool til.is, .int .i64 til.year, .int .i64 til.month, .int .i64 til.day.kind, .int .i64 til.day.week, .int .i64 til.day.day, .int .i64 til.at_.sec, .int .i64 til.at_.base] 60] (fun k : Nat => [(41, .int .i64 k)]) (fun _ => []) (fun k => k ≤ L.length ∧ firstErr format.data.toList ((L.drop k).map (·.data.toList)) = res) (fun k => L.length - k) 0 (by repeat (first | exact trivial | refine ⟨rfl, ?_⟩)) (by first | exact .refl _ | focus repeat (first | exact SubO.nil | (apply SubO.cons; focus repeat' constructor))) ⟨Nat.zero_le _, hres⟩ ?_
    rintro k ⟨hkl, hi⟩
    repeat (first | (apply RL_st; rfl; (first | (apply Stp_boxNf; rfl; (focus repeat (first | exact Nf.nil | apply Nf.cons)); intro bk) | (apply Stp_buildSliceC; rfl; rfl; rfl; rfl; (focus repeat (first | exact Nf.nil | apply Nf.cons)); intro bk) | (apply Stp_alloc; intro bk))) | refine walk ?_)
    refine W_cond rfl (fun hc => ?_) (fun hc => ?_)
    · simp only [decide_eq_true_eq, Int.ofNat_lt] at hc
      have hg1 : (L.flatMap strEnc)[k * 1]? = some (.string L[k]) := by
        have := flat_get (enc := strEnc) (fun _ => rfl) L k _ 0 (.string L[k]) (List.getElem?_eq_getElem hc) rfl
        simpa using this
      rw [drop_cons hc, List.map_cons, firstErr] at hi
      have hxs := hLs _ (List.getElem_mem hc)
      generalize L[k] = x at *
      have ha := hab x hxs
      generalize abbrF format.data.toList 0 0 x.data.toList = av at *
      obtain ⟨at_, ae⟩ := av
      dsimp only at ha hi
      by_cases hz : ae = 0
      · subst hz
        rw [if_pos rfl] at hi
        repeat (first | (apply RL_pu; rfl; (first | (apply Pu_indexAddrH; rfl; rfl; omega; omega; (intro w' _ hO; exact (row_cell (hO.of (A := .row (.slice A1 L.length c1) 9 1 L.length (L.flatMap strEnc)) (by (focus repeat' constructor))) hg1).1)) | (apply Pu_loadR; rfl; (focus repeat' constructor); exact hg1))) | (apply RL_st0; (apply Stp_call (h := fun w' hw _ => ha w' hw); rfl; rintro v O' ⟨rfl, rfl⟩)) | (apply RL_st; rfl; (first | (apply Stp_call (h := fun w' hw _ => ha w' hw); rfl; rintro v O' ⟨rfl, rfl⟩) | (apply Stp_boxNf; rfl; (focus repeat (first | exact Nf.nil | apply Nf.cons)); intro bk) | (apply Stp_buildSliceC; rfl; rfl; rfl; rfl; (focus repeat (first | exact Nf.nil | apply Nf.cons)); intro bk) | (apply Stp_alloc; intro bk))) | refine walk1 ?_)
        exact ⟨k + 1, (by first | omega | (dsimp only; omega)), ⟨(by first | omega | (dsimp only; omega)), hi⟩, (by repeat (first | exact trivial | refine ⟨rfl, ?_⟩)), (by first | exact .refl _ | focus repeat (first | exact SubO.nil | (apply SubO.cons; focus repeat' constructor)))⟩
      · rw [if_neg hz] at hi
        subst hi
        have hb : (!decide (ae = 0)) = true := by rw [decide_eq_false hz]; rfl
        repeat (first | (apply RL_pu; rfl; (first | (apply Pu_indexAddrH; rfl; rfl; omega; omega; (intro w' _ hO; exact (row_cell (hO.of (A := .row (.slice A1 L.length c1) 9 1 L.length (L.flatMap strEnc)) (by (focus repeat' constructor))) hg1).1)) | (apply Pu_loadR; rfl; (focus repeat' constructor); exact hg1) | (apply Pu_neqB'; rfl; rfl; exact hb))) | (apply RL_st0; (apply Stp_call (h := fun w' hw _ => ha w' hw); rfl; rintro v O' ⟨rfl, rfl⟩)) | (apply RL_st; rfl; (first | (apply Stp_call (h := fun w' hw _ => ha w' hw); rfl; rintro v O' ⟨rfl, rfl⟩) | (apply Stp_boxNf; rfl; (focus repeat (first | exact Nf.nil | apply Nf.cons)); intro bk) | (apply Stp_buildSliceC; rfl; rfl; rfl; rfl; (focus repeat (first | exact Nf.nil | apply Nf.cons)); intro bk) | (apply Stp_alloc; intro bk))) | refine walk1 ?_)
        exact ret_1 _ [] (.tmp rfl) .nil ⟨rfl, rfl⟩
    · simp only [decide_eq_false_iff_not, Int.ofNat_lt] at hc
      rw [List.drop_eq_nil_of_le (by omega)] at hi
      subst hi
      repeat (first | (apply RL_st; rfl; (first | (apply Stp_boxNf; rfl; (focus repeat (first | exact Nf.nil | apply Nf.cons)); intro bk) | (apply Stp_buildSliceC; rfl; rfl; rfl; rfl; (focus repeat (first | exact Nf.nil | apply Nf.cons)); intro bk) | (apply Stp_alloc; intro bk))) | refine walk ?_)
      exact ret_1 _ [] (.tmp rfl) .nil ⟨rfl, rfl⟩
  have e3 : decide (K = 3) = false := decide_eq_false k3
  rw [if_neg k3]
  by_cases k45 : K = 4 ∨ K = 5
  · rw [if_pos k45]
    by_cases hxe : xe = 0
    · subst hxe
      rcases k45 with rfl | rfl
      · rw [if_neg (by rintro (h | ⟨h, _⟩); exact h rfl; omega)]
        repeat (first | (refine RL_und rfl rfl rfl rfl ?_) | (apply RL_st0; (first | (apply Stp_call (h := fun w' hw _ => hk w' hw); rfl; rintro v O' ⟨rfl, rfl⟩) | (apply Stp_call (h := fun w' hw _ => hx w' hw); rfl; rintro v O' ⟨rfl, rfl⟩))) | (apply RL_st; rfl; (first | (apply Stp_call (h := fun w' hw _ => hk w' hw); rfl; rintro v O' ⟨rfl, rfl⟩) | (apply Stp_call (h := fun w' hw _ => hx w' hw); rfl; rintro v O' ⟨rfl, rfl⟩) | (apply Stp_boxNf; rfl; (focus repeat (first | exact Nf.nil | apply Nf.cons)); intro bk) | (apply Stp_buildSliceC; rfl; rfl; rfl; rfl; (focus repeat (first | exact Nf.nil | apply Nf.cons)); intro bk) | (apply Stp_alloc; intro bk))) | refine walk ?_)
        exact ret_1 _ [] (.tmp rfl) .nil ⟨rfl, rfl⟩
      · by_cases hxt : xt = format.data.toList
        · have hb : (!decide ((⟨xt.toArray⟩ : ByteArray) = format)) = false := by rw [decide_eq_true (by rw [hxt])]; rfl
          rw [if_neg (by rintro (h | ⟨_, h⟩); exact h rfl; exact h hxt)]
          repeat (first | (refine RL_und rfl rfl rfl rfl ?_) | (apply RL_pu; rfl; (apply Pu_neqSB; rfl; rfl; exact hb)) | (apply RL_st0; (first | (apply Stp_call (h := fun w' hw _ => hk w' hw); rfl; rintro v O' ⟨rfl, rfl⟩) | (apply Stp_call (h := fun w' hw _ => hx w' hw); rfl; rintro v O' ⟨rfl, rfl⟩))) | (apply RL_st; rfl; (first | (apply Stp_call (h := fun w' hw _ => hk w' hw); rfl; rintro v O' ⟨rfl, rfl⟩) | (apply Stp_call (h := fun w' hw _ => hx w' hw); rfl; rintro v O' ⟨rfl, rfl⟩) | (apply Stp_boxNf; rfl; (focus repeat (first | exact Nf.nil | apply Nf.cons)); intro bk) | (apply Stp_buildSliceC; rfl; rfl; rfl; rfl; (focus repeat (first | exact Nf.nil | apply Nf.cons)); intro bk) | (apply Stp_alloc; intro bk))) | refine walk1 ?_)
          exact ret_1 _ [] (.tmp rfl) .nil ⟨rfl, rfl⟩
        · have hb : (!decide ((⟨xt.toArray⟩ : ByteArray) = format)) = true := by rw [decide_eq_false (fun h => hxt (by rw [← h]))]; rfl
          rw [if_pos (.inr ⟨rfl, hxt⟩)]
          repeat (first | (refine RL_und rfl rfl rfl rfl ?_) | (apply RL_pu; rfl; (apply Pu_neqSB; rfl; rfl; exact hb)) | (apply RL_st0; (first | (apply Stp_call (h := fun w' hw _ => hk w' hw); rfl; rintro v O' ⟨rfl, rfl⟩) | (apply Stp_call (h := fun w' hw _ => hx w' hw); rfl; rintro v O' ⟨rfl, rfl⟩))) | (apply RL_st; rfl; (first | (apply Stp_call (h := fun w' hw _ => hk w' hw); rfl; rintro v O' ⟨rfl, rfl⟩) | (apply Stp_call (h := fun w' hw _ => hx w' hw); rfl; rintro v O' ⟨rfl, rfl⟩) | (apply Stp_boxNf; rfl; (focus repeat (first | exact Nf.nil | apply Nf.cons)); intro bk) | (apply Stp_buildSliceC; rfl; rfl; rfl; rfl; (focus repeat (first | exact Nf.nil | apply Nf.cons)); intro bk) | (apply Stp_alloc; intro bk))) | refine walk1 ?_)
          exact ret_1 _ [] (.tmp rfl) .nil ⟨rfl, rfl⟩
    · have hb : (!decide (xe = 0)) = true := by rw [decide_eq_false hxe]; rfl
      rw [if_pos (.inl hxe)]
      rcases k45 with rfl | rfl
      · repeat (first | (refine RL_und rfl rfl rfl rfl ?_) | (apply RL_pu; rfl; (apply Pu_neqB'; rfl; rfl; exact hb)) | (apply RL_st0; (first | (apply Stp_call (h := fun w' hw _ => hk w' hw); rfl; rintro v O' ⟨rfl, rfl⟩) | (apply Stp_call (h := fun w' hw _ => hx w' hw); rfl; rintro v O' ⟨rfl, rfl⟩))) | (apply RL_st; rfl; (first | (apply Stp_call (h := fun w' hw _ => hk w' hw); rfl; rintro v O' ⟨rfl, rfl⟩) | (apply Stp_call (h := fun w' hw _ => hx w' hw); rfl; rintro v O' ⟨rfl, rfl⟩) | (apply Stp_boxNf; rfl; (focus repeat (first | exact Nf.nil | apply Nf.cons)); intro bk) | (apply Stp_buildSliceC; rfl; rfl; rfl; rfl; (focus repeat (first | exact Nf.nil | apply Nf.cons)); intro bk) | (apply Stp_alloc; intro bk))) | refine walk1 ?_)
        exact ret_1 _ [] (.tmp rfl) .nil ⟨rfl, rfl⟩
      · repeat (first | (refine RL_und rfl rfl rfl rfl ?_) | (apply RL_pu; rfl; (apply Pu_neqB'; rfl; rfl; exact hb)) | (apply RL_st0; (first | (apply Stp_call (h := fun w' hw _ => hk w' hw); rfl; rintro v O' ⟨rfl, rfl⟩) | (apply Stp_call (h := fun w' hw _ => hx w' hw); rfl; rintro v O' ⟨rfl, rfl⟩))) | (apply RL_st; rfl; (first | (apply Stp_call (h := fun w' hw _ => hk w' hw); rfl; rintro v O' ⟨rfl, rfl⟩) | (apply Stp_call (h := fun w' hw _ => hx w' hw); rfl; rintro v O' ⟨rfl, rfl⟩) | (apply Stp_boxNf; rfl; (focus repeat (first | exact Nf.nil | apply Nf.cons)); intro bk) | (apply Stp_buildSliceC; rfl; rfl; rfl; rfl; (focus repeat (first | exact Nf.nil | apply Nf.cons)); intro bk) | (apply Stp_alloc; intro bk))) | refine walk1 ?_)
        exact ret_1 _ [] (.tmp rfl) .nil ⟨rfl, rfl⟩
  rw [if_neg k45]
  have e4 : decide (K = 4) = false := decide_eq_false (fun h => k45 (.inl h))
  have e5 : decide (K = 5) = false := decide_eq_false (fun h => k45 (.inr h))
  repeat (first | (apply RL_pu; rfl; (first | (apply Pu_eqlB; rfl; rfl; exact e0) | (apply Pu_eqlB; rfl; rfl; exact e3) | (apply Pu_eqlB; rfl; rfl; exact e4) | (apply Pu_eqlB; rfl; rfl; exact e5))) | (apply RL_st0; (apply Stp_call (h := fun w' hw _ => hk w' hw); rfl; rintro v O' ⟨rfl, rfl⟩)) | (apply RL_st; rfl; (first | (apply Stp_call (h := fun w' hw _ => hk w' hw); rfl; rintro v O' ⟨rfl, rfl⟩) | (apply Stp_boxNf; rfl; (focus repeat (first | exact Nf.nil | apply Nf.cons)); intro bk) | (apply Stp_buildSliceC; rfl; rfl; rfl; rfl; (focus repeat (first | exact Nf.nil | apply Nf.cons)); intro bk) | (apply Stp_alloc; intro bk))) | refine walk1 ?_)
  exact ret_1 _ [] (.tmp rfl) .nil ⟨rfl, rfl⟩
end Go.Proofs.YtbffjibfcgcoeaaGreatDoor

namespace Go.Proofs.YtbffjibfcgcoeaaGreatDoor
open Go Go.RowKit Go.Wk
attribute [local irreducible] W RL Does thenQ blockQ retQ Calls Pu Stp RD Qy Ay
theorem ofN_spec (Ar Az Al As : Option Addr) (cr cz cl cs : Nat) (a : DSource) (set : ByteArray) (w : World) (hA : RdSource w Ar Az Al As cr cz cl cs a) (hn : a.rules.length ≤ 1000000) :
    Does Tryz.prog 31 [srcV Ar Az Al As cr cz cl cs a, .string set] w (NewSl 51 11 DRule.enc (ofB a.rules set)) := by
  generalize hres : ofB a.rules set = res
  refine Does_of_W Tryz.func31 rfl rfl rfl rfl ?_
  repeat (first | (apply RL_st; rfl; (first | (apply Stp_boxNf; rfl; (focus repeat (first | exact Nf.nil | apply Nf.cons)); intro bk) | (apply Stp_alloc; intro bk) | (apply Stp_buildSliceC; rfl; rfl; rfl; rfl; (focus repeat (first | exact Nf.nil | apply Nf.cons)); intro bk))) | refine walk ?_)
  refine W_nil 51 11 ?_
  refine W_loopF [(1, _), (2, _), (4, _), (9, _), (10, _)] [_] (fun g : AG DRule => [(5, .slice g.A g.m g.c), (11, .int .i64 g.k)]) (fun g => [.row (.slice g.A g.m g.c) 51 11 g.m g.xs]) (fun g => g.k ≤ a.rules.length ∧ g.m = g.acc.length ∧ g.xs = g.acc.flatMap DRule.enc ∧ g.m ≤ g.k ∧ g.acc ++ ofB (a.rules.drop g.k) set = res) (fun g => a.rules.length - g.k) ⟨0, none, 0, 0, [], []⟩ ⟨rfl, rfl, rfl, rfl, rfl, rfl, rfl, trivial⟩ (.cons (by (focus repeat' constructor)) (.refl _)) ⟨by simp, rfl, rfl, Nat.le_refl _, by simpa using hres⟩ ?_
  rintro ⟨k, A, c, m, xs, acc⟩ ⟨hk, hm, hx, hmk, hi⟩
  dsimp only at hk hm hx hmk hi ⊢
  repeat (first | (apply RL_st; rfl; (first | (apply Stp_boxNf; rfl; (focus repeat (first | exact Nf.nil | apply Nf.cons)); intro bk) | (apply Stp_alloc; intro bk) | (apply Stp_buildSliceC; rfl; rfl; rfl; rfl; (focus repeat (first | exact Nf.nil | apply Nf.cons)); intro bk))) | refine walk ?_)
  refine W_cond rfl (fun hc => ?_) (fun hc => ?_)
  · simp only [decide_eq_true_eq, Int.ofNat_lt] at hc
    obtain ⟨hna, hca⟩ := hA.r.rd k _ (List.getElem?_eq_getElem hc)
    rw [drop_cons hc, ofB, List.filter_cons] at hi
    generalize a.rules[k] = r at *
    repeat (first | (apply RL_pu; rfl; (first | (apply Pu_indexAddr; rfl; rfl; omega; omega; (first | exact hna)) | (apply Pu_loadON; rfl; (first | exact hca); rfl))) | (apply RL_st; rfl; (first | (apply Stp_boxNf; rfl; (focus repeat (first | exact Nf.nil | apply Nf.cons)); intro bk) | (apply Stp_alloc; intro bk) | (apply Stp_buildSliceC; rfl; rfl; rfl; rfl; (focus repeat (first | exact Nf.nil | apply Nf.cons)); intro bk))) | refine walk1 ?_)
    refine W_cond rfl (fun h3 => ?_) (fun h3 => ?_)
    · rw [if_pos h3] at hi
      repeat (first | (apply RL_pu; rfl; (first | (apply Pu_indexAddr; rfl; rfl; omega; omega; (first | exact hna)) | (apply Pu_loadON; rfl; (first | exact hca); rfl))) | (apply RL_st0; (apply Stp_append; rfl; rfl; (intro A' c'; (focus repeat' constructor)); (intro w' _ hO; exact blkRaw (hO.of (by (focus repeat' constructor)))); rfl; rfl; (simp only [maxLen]; omega); omega; intro A' c' hc1 hc2 hc3)) | (apply RL_st; rfl; (first | (apply Stp_append; rfl; rfl; (intro A' c'; (focus repeat' constructor)); (intro w' _ hO; exact blkRaw (hO.of (by (focus repeat' constructor)))); rfl; rfl; (simp only [maxLen]; omega); omega; intro A' c' hc1 hc2 hc3) | (apply Stp_boxNf; rfl; (focus repeat (first | exact Nf.nil | apply Nf.cons)); intro bk) | (apply Stp_alloc; intro bk) | (apply Stp_buildSliceC; rfl; rfl; rfl; rfl; (focus repeat (first | exact Nf.nil | apply Nf.cons)); intro bk))) | refine walk1 ?_)
      exact ⟨⟨k + 1, A', c', m + 1, xs ++ r.enc, acc ++ [r]⟩, (by first | omega | (dsimp only; omega)), ⟨(by first | omega | (dsimp only; omega)), by simp [hm], by rw [hx]; exact flat_snoc acc r, (by first | omega | (dsimp only; omega)), by rw [← hi]; simp [ofB]⟩, (by repeat (first | exact trivial | refine ⟨rfl, ?_⟩)), (by first | exact .refl _ | focus repeat (first | exact SubO.nil | (apply SubO.cons; focus repeat' constructor)))⟩
    rw [h3] at hi
    repeat (first | (apply RL_st; rfl; (first | (apply Stp_boxNf; rfl; (focus repeat (first | exact Nf.nil | apply Nf.cons)); intro bk) | (apply Stp_alloc; intro bk) | (apply Stp_buildSliceC; rfl; rfl; rfl; rfl; (focus repeat (first | exact Nf.nil | apply Nf.cons)); intro bk))) | refine walk ?_)
    exact ⟨⟨k + 1, A, c, m, xs, acc⟩, (by first | omega | (dsimp only; omega)), ⟨(by first | omega | (dsimp only; omega)), hm, hx, (by first | omega | (dsimp only; omega)), hi⟩, (by repeat (first | exact trivial | refine ⟨rfl, ?_⟩)), (by first | exact .refl _ | focus repeat (first | exact SubO.nil | (apply SubO.cons; focus repeat' constructor)))⟩
  simp only [decide_eq_false_iff_not, Int.ofNat_lt] at hc
  rw [List.drop_eq_nil_of_le (by omega)] at hi
  simp only [ofB, List.filter_nil, List.append_nil] at hi
  subst hi
  repeat (first | (apply RL_st; rfl; (first | (apply Stp_boxNf; rfl; (focus repeat (first | exact Nf.nil | apply Nf.cons)); intro bk) | (apply Stp_alloc; intro bk) | (apply Stp_buildSliceC; rfl; rfl; rfl; rfl; (focus repeat (first | exact Nf.nil | apply Nf.cons)); intro bk))) | refine walk ?_)
  exact ret_1 _ [.row (.slice A acc.length c) 51 11 acc.length (acc.flatMap DRule.enc)] (.tmp rfl) (by subst hm hx; exact (by first | exact .refl _ | focus repeat (first | exact SubO.nil | (apply SubO.cons; focus repeat' constructor)))) ⟨A, c, by rw [hm], rfl⟩
end Go.Proofs.YtbffjibfcgcoeaaGreatDoor

namespace Go.Proofs.YtbffjibfcgcoeaaGreatDoor
open Go.Shelf Go.RowKit Go.Lib Go.Sort
def sortLay_ren : Ren where
  f := fun | 6 => 206 | 15 => 195 | 14 => 245 | 28 => 239 | 29 => 240 | 20 => 286 | 21 => 287 | 22 => 288 | 23 => 289 | 24 => 290 | 25 => 291 | 26 => 292 | 27 => 293 | 46 => 319 | 47 => 274 | 48 => 275 | 49 => 320 | 50 => 321 | 57 => 328 | n => n
  t := fun | 22 => 186 | 24 => 139 | 25 => 232 | 3 => 3 | 39 => 222 | 0 => 0 | 53 => 255 | 55 => 228 | 4 => 4 | 46 => 248 | 45 => 247 | 50 => 161 | 5 => 5 | 9 => 9 | 66 => 290 | 70 => 294 | 76 => 310 | 77 => 311 | n => n
  g := fun n => n
theorem sortLay : SlLaysF0.n6 Tryz.prog sortLay_ren where
  mixed := by kernel_rfl
  f6 := ⟨Tryz.f206.name, by decide, Tryz.func206.trans (congrArg some (by kernel_rfl))⟩
  f14 := ⟨Tryz.f245.name, by decide, Tryz.func245.trans (congrArg some (by kernel_rfl))⟩
  f20 := ⟨Tryz.f286.name, by decide, Tryz.func286.trans (congrArg some (by kernel_rfl))⟩
  f21 := ⟨Tryz.f287.name, by decide, Tryz.func287.trans (congrArg some (by kernel_rfl))⟩
  f22 := ⟨Tryz.f288.name, by decide, Tryz.func288.trans (congrArg some (by kernel_rfl))⟩
  f23 := ⟨Tryz.f289.name, by decide, Tryz.func289.trans (congrArg some (by kernel_rfl))⟩
  f24 := ⟨Tryz.f290.name, by decide, Tryz.func290.trans (congrArg some (by kernel_rfl))⟩
  f25 := ⟨Tryz.f291.name, by decide, Tryz.func291.trans (congrArg some (by kernel_rfl))⟩
  f26 := ⟨Tryz.f292.name, by decide, Tryz.func292.trans (congrArg some (by kernel_rfl))⟩
  f27 := ⟨Tryz.f293.name, by decide, Tryz.func293.trans (congrArg some (by kernel_rfl))⟩
  f46 := ⟨Tryz.f319.name, by decide, Tryz.func319.trans (congrArg some (by kernel_rfl))⟩
  f49 := ⟨Tryz.f320.name, by decide, Tryz.func320.trans (congrArg some (by kernel_rfl))⟩
  f50 := ⟨Tryz.f321.name, by decide, Tryz.func321.trans (congrArg some (by kernel_rfl))⟩
  f57 := ⟨Tryz.f328.name, by decide, Tryz.func328.trans (congrArg some (by kernel_rfl))⟩
  f15 := Tryz.func195.trans (congrArg some (by kernel_rfl))
  f28 := Tryz.func239.trans (congrArg some (by kernel_rfl))
  f29 := Tryz.func240.trans (congrArg some (by kernel_rfl))
  f47 := Tryz.func274.trans (congrArg some (by kernel_rfl))
  f48 := Tryz.func275.trans (congrArg some (by kernel_rfl))
  t0 := Tryz.underlying0
  a0 := Tryz.isAgg0
  z0 := Tryz.sizeOf0
  v0 := Tryz.zeroValue0
  t3 := Tryz.underlying3
  a3 := Tryz.isAgg3
  z3 := Tryz.sizeOf3
  v3 := Tryz.zeroValue3
  t4 := Tryz.underlying4
  a4 := Tryz.isAgg4
  z4 := Tryz.sizeOf4
  v4 := Tryz.zeroValue4
  t5 := Tryz.underlying5
  a5 := Tryz.isAgg5
  z5 := Tryz.sizeOf5
  v5 := Tryz.zeroValue5
  t9 := Tryz.underlying9
  a9 := Tryz.isAgg9
  z9 := Tryz.sizeOf9
  v9 := Tryz.zeroValue9
  t22 := Tryz.underlying186
  a22 := Tryz.isAgg186
  z22 := Tryz.sizeOf186
  v22 := Tryz.zeroValue186
  t25 := Tryz.underlying232
  a25 := Tryz.isAgg232
  z25 := Tryz.sizeOf232
  v25 := Tryz.zeroValue232
  t39 := Tryz.underlying222
  a39 := Tryz.isAgg222
  z39 := Tryz.sizeOf222
  v39 := Tryz.zeroValue222
  t45 := Tryz.underlying247
  a45 := Tryz.isAgg247
  z45 := Tryz.sizeOf247
  v45 := Tryz.zeroValue247
  t46 := Tryz.underlying248
  a46 := Tryz.isAgg248
  z46 := Tryz.sizeOf248
  v46 := Tryz.zeroValue248
  t50 := Tryz.underlying161
  a50 := Tryz.isAgg161
  z50 := Tryz.sizeOf161
  v50 := Tryz.zeroValue161
  t53 := Tryz.underlying255
  a53 := Tryz.isAgg255
  z53 := Tryz.sizeOf255
  v53 := Tryz.zeroValue255
  t55 := Tryz.underlying228
  a55 := Tryz.isAgg228
  z55 := Tryz.sizeOf228
  v55 := Tryz.zeroValue228
  t66 := Tryz.underlying290
  a66 := Tryz.isAgg290
  z66 := Tryz.sizeOf290
  v66 := Tryz.zeroValue290
  t70 := Tryz.underlying294
  a70 := Tryz.isAgg294
  z70 := Tryz.sizeOf294
  v70 := Tryz.zeroValue294
  t76 := Tryz.underlying310
  a76 := Tryz.isAgg310
  z76 := Tryz.sizeOf310
  v76 := Tryz.zeroValue310
  t77 := Tryz.underlying311
  a77 := Tryz.isAgg311
  z77 := Tryz.sizeOf311
  v77 := Tryz.zeroValue311
end Go.Proofs.YtbffjibfcgcoeaaGreatDoor

namespace Go.Proofs.YtbffjibfcgcoeaaGreatDoor
open Go Go.Shelf Go.Lib Go.RowKit Go.Sort Go.Wk
set_option maxHeartbeats 4000000
theorem cmp64_l (a b : Int) (w : World) : Calls Tryz.prog 247 #[.int .i64 a, .int .i64 b] w fun e w' => e = .returned (.int .i64 (cmpI a b)) ∧ w' = w := by
  go_enter Tryz.func247, Tryz.ntmps247
  go_wp2
  all_goals go_ret
  all_goals (unfold cmpI; repeat' split)
  all_goals first | exact ⟨rfl, rfl⟩ | (exfalso; omega)
theorem cmpN_l (a b : Int) (w : World) : Calls Tryz.prog 248 #[.int .i64 a, .int .i64 b] w fun e w' => e = .returned (.int .i64 (cmpI a b)) ∧ w' = w := by
  go_enter Tryz.func248, Tryz.ntmps248
  go_wp2
  all_goals go_ret
  all_goals (unfold cmpI; repeat' split)
  all_goals first | exact ⟨rfl, rfl⟩ | (exfalso; omega)
theorem or_l (x y z : Int) (b : Nat) (w : World) (h0 : w.cell? ⟨b, 0, none⟩ = some (.int .i64 x)) (h1 : w.cell? ⟨b, 1, none⟩ = some (.int .i64 y)) (h2 : w.cell? ⟨b, 2, none⟩ = some (.int .i64 z)) :
    Calls Tryz.prog 246 #[.slice (some ⟨b, 0, none⟩) 3 3] w fun e w' => e = .returned (.int .i64 (firstNz [x, y, z])) ∧ w' = w := by
  go_enter Tryz.func246, Tryz.ntmps246
  go_wp2
  refine wp_loop_rounds 4 ?_
  rw [rounds_succ]
  by_cases hx : x = 0
  · subst hx
    go_wp2
    rw [rounds_succ]
    by_cases hy : y = 0
    · subst hy
      go_wp2
      rw [rounds_succ]
      by_cases hz : z = 0
      · subst hz
        go_wp2
        rw [rounds_succ]
        go_wp2
        go_ret
        exact ⟨rfl, rfl⟩
      · go_wp2
        go_ret
        exact ⟨by simp [firstNz, hz], rfl⟩
    · go_wp2
      go_ret
      exact ⟨by simp [firstNz, hy], rfl⟩
  · go_wp2
    go_ret
    exact ⟨by simp [firstNz, hx], rfl⟩
attribute [local irreducible] cmpI firstNz
theorem order_lays (a b : DEvent) (w : World) : Calls Tryz.prog 207 #[.agg (DEvent.enc a).toArray, .agg (DEvent.enc b).toArray] w fun e w' => e = .returned (.int .i64 (ordE a b)) ∧ ∃ q os', w' = grow (w.drewN q) os' := by
  rw [ordE_eq]
  obtain ⟨y, r, n⟩ := a
  obtain ⟨y2, r2, n2⟩ := b
  dsimp only
  have h1 := cmp64_l
  have h2 := cmpN_l
  have h3 := or_l
  simp only [DEvent.enc]
  go_enter Tryz.func207, Tryz.ntmps207
  go_wp2_with fail
  go_region_held3 (fun W => W.cell? ⟨w.heap.size, 0, none⟩ = some (.int .i64 y) ∧ W.cell? ⟨w.heap.size, 1, none⟩ = some (.int .i64 r) ∧ W.cell? ⟨w.heap.size, 2, none⟩ = some (.int .i64 n) ∧ W.cell? ⟨w.heap.size + 1, 0, none⟩ = some (.int .i64 y2) ∧ W.cell? ⟨w.heap.size + 1, 1, none⟩ = some (.int .i64 r2) ∧ W.cell? ⟨w.heap.size + 1, 2, none⟩ = some (.int .i64 n2)) (go_keep)
    (first
      | (go_at_call 247; refine (h1 _ _ _).mono ?_; rintro e w' ⟨rfl, rfl⟩)
      | (go_at_call 248; refine (h2 _ _ _).mono ?_; rintro e w' ⟨rfl, rfl⟩)
      | (go_at_call 246; refine (h3 (cmpI n n2) (cmpI r r2) (cmpI y y2) _ _ (by go_simp) (by go_simp) (by go_simp)).mono ?_; rintro e w' ⟨rfl, rfl⟩))
  all_goals (try go_wp2)
  all_goals go_ret
  all_goals exact ⟨rfl, 1, _, by rw [alloc_eq_grow, alloc_eq_grow, alloc_eq_grow, grow_grow, grow_grow]; rfl⟩
end Go.Proofs.YtbffjibfcgcoeaaGreatDoor

namespace Go.Proofs.YtbffjibfcgcoeaaGreatDoor
open Go Go.RowKit Go.Wk
theorem ordE_lt (a b : DEvent) : ordE a b < 0 ↔ a.nominal < b.nominal ∨ (a.nominal = b.nominal ∧ (a.rule < b.rule ∨ (a.rule = b.rule ∧ a.year < b.year))) := by
  unfold ordE
  repeat' split
  all_goals omega
def ltE (x y : DEvent) : Bool := decide (ordE x y < 0)
theorem swoE : Go.Sort.SWO ltE where
  irrefl x := by simp only [ltE, ordE_lt, decide_eq_false_iff_not]; omega
  trans x y z h1 h2 := by simp only [ltE, ordE_lt, decide_eq_true_eq] at *; omega
  ntrans x y z h1 h2 := by simp only [ltE, ordE_lt, decide_eq_false_iff_not] at *; omega
theorem totE (x y : DEvent) (h1 : ltE x y = false) (h2 : ltE y x = false) : x = y := by
  simp only [ltE, ordE_lt, decide_eq_false_iff_not] at h1 h2
  obtain ⟨a, b, c⟩ := x
  obtain ⟨d, e, f⟩ := y
  simp only [DEvent.mk.injEq]
  simp only at h1 h2
  omega
/-- The events of a year, rule by rule. -/
def yearC (least y : Int) : List DRule → Nat → List DEvent
  | [], _ => []
  | r :: l, i => (onR least r i y).toList ++ yearC least y l (i + 1)
def allC (l : List DRule) (least from_ : Int) : Nat → List DEvent
  | 0 => []
  | k + 1 => allC l least from_ k ++ yearC least (from_ + k) l 0
def insF (a : List DEvent) (e : DEvent) : List DEvent := insE e a
theorem yearEvs_eq (least y : Int) : ∀ (l : List DRule) (i : Nat) (acc : List DEvent), yearEvs least y l i acc = (yearC least y l i).foldl insF acc
  | [], _, _ => rfl
  | r :: l, i, acc => by
    rw [yearEvs, yearC, yearEvs_eq least y l]
    cases onR least r i y with
    | none => rfl
    | some e => rfl
theorem insE_perm (e : DEvent) : ∀ l, (insE e l).Perm (e :: l)
  | [] => .refl _
  | x :: l => by
    rw [insE]
    split
    · exact .refl _
    · exact ((insE_perm e l).cons x).trans (.swap _ _ _)
theorem insF_perm : ∀ (xs acc : List DEvent), (xs.foldl insF acc).Perm (xs ++ acc)
  | [], _ => .refl _
  | x :: xs, acc => by
    rw [List.foldl_cons]
    refine (insF_perm xs _).trans ?_
    refine ((insE_perm x acc).append_left xs).trans ?_
    exact List.perm_middle
theorem allEvs_perm (l : List DRule) (least from_ : Int) : ∀ k, (allEvs l least from_ k).Perm (allC l least from_ k)
  | 0 => .refl _
  | k + 1 => by
    rw [allEvs, allC, yearEvs_eq]
    refine (insF_perm _ _).trans ?_
    refine List.perm_append_comm.trans ?_
    exact (allEvs_perm l least from_ k).append_right _
def DescE (l : List DEvent) : Prop := l.Pairwise fun a b => ltE a b = false
theorem insE_desc (e : DEvent) : ∀ l, DescE l → DescE (insE e l)
  | [], _ => List.pairwise_singleton _ _
  | x :: l, h => by
    obtain ⟨h1, h2⟩ := List.pairwise_cons.1 h
    rw [insE]
    split
    · rename_i hlt
      have hx : ltE x e = true := decide_eq_true hlt
      have hex : ltE e x = false := by
        cases h3 : ltE e x
        · rfl
        · have := swoE.trans x e x hx h3
          rw [swoE.irrefl] at this
          cases this
      refine List.pairwise_cons.2 ⟨fun b hb => ?_, h⟩
      rcases List.mem_cons.1 hb with rfl | hb
      · exact hex
      · exact swoE.ntrans e x b hex (h1 b hb)
    · rename_i hlt
      have hx : ltE x e = false := decide_eq_false hlt
      refine List.pairwise_cons.2 ⟨fun b hb => ?_, insE_desc e l h2⟩
      rcases List.mem_cons.1 ((insE_perm e l).mem_iff.1 hb) with rfl | hb
      · exact hx
      · exact h1 b hb
theorem insF_desc : ∀ (xs acc : List DEvent), DescE acc → DescE (xs.foldl insF acc)
  | [], _, h => h
  | x :: xs, acc, h => insF_desc xs _ (insE_desc x acc h)
theorem allEvs_desc (l : List DRule) (least from_ : Int) : ∀ k, DescE (allEvs l least from_ k)
  | 0 => List.Pairwise.nil
  | k + 1 => by
    rw [allEvs, yearEvs_eq]
    exact insF_desc _ _ (allEvs_desc l least from_ k)
theorem sortE_eq (l : List DRule) (least from_ : Int) (k : Nat) : (allC l least from_ k).mergeSort (fun x y => !ltE y x) = (allEvs l least from_ k).reverse := by
  refine List.Perm.eq_of_pairwise (le := fun x y => (!ltE y x) = true) ?_ ?_ ?_ ?_
  · intro a b _ _ h1 h2
    simp only [Bool.not_eq_true'] at h1 h2
    exact totE a b h2 h1
  · refine List.pairwise_mergeSort ?_ ?_ _
    · intro a b c h1 h2
      simp only [Bool.not_eq_true'] at h1 h2 ⊢
      exact swoE.ntrans c b a h2 h1
    · intro a b
      cases h : ltE b a with
      | false => simp
      | true =>
        have : ltE a b = false := by
          cases h3 : ltE a b
          · rfl
          · have := swoE.trans a b a h3 h
            rw [swoE.irrefl] at this
            cases this
        simp [this]
  · rw [List.pairwise_reverse]
    exact (allEvs_desc l least from_ k).imp fun h => by rw [h]; rfl
  · exact (List.mergeSort_perm _ _).trans ((allEvs_perm l least from_ k).symm.trans (List.reverse_perm _).symm)
/-- The first event that is close to the one in front of it, in ascending order. -/
def closeA : List DEvent → Option DEvent
  | a :: b :: l => if b.nominal - a.nominal < 259200 then some b else closeA (b :: l)
  | _ => none
theorem closeA_snoc (x y : DEvent) : ∀ l : List DEvent, closeA (l ++ [x, y]) = (closeA (l ++ [x])).or (if y.nominal - x.nominal < 259200 then some y else none)
  | [] => by simp [closeA]
  | [a] => by
    simp only [List.cons_append, List.nil_append, closeA]
    by_cases h : x.nominal - a.nominal < 259200 <;> simp [h]
  | a :: b :: l => by
    have ih := closeA_snoc x y (b :: l)
    simp only [List.cons_append, closeA] at ih ⊢
    by_cases h : b.nominal - a.nominal < 259200
    · simp [h]
    · simp only [if_neg h]
      exact ih
theorem closeA_rev : ∀ l : List DEvent, closeA l.reverse = closeE l
  | [] => rfl
  | [_] => rfl
  | a :: b :: l => by
    have ih := closeA_rev (b :: l)
    rw [List.reverse_cons] at ih
    rw [closeE, ← ih, List.reverse_cons, List.reverse_cons, List.append_assoc]
    exact closeA_snoc b a l.reverse
theorem apartD_eq (l : List DRule) : closeA ((allC l (leastD l) 1850 701).mergeSort fun x y => !ltE y x) = apartD l := by
  rw [sortE_eq, closeA_rev]; rfl
end Go.Proofs.YtbffjibfcgcoeaaGreatDoor
