/- Contracts: keep.chosen at three types; the functions that choose. Contract: printer.Copy. Contract: analemmaref33.Zones. Contracts: keep.Without, keep.Zones. -/
import Derived.Test.YtbjkhnlnedfceaaGreatDoorQ67
set_option maxHeartbeats 4000000
set_option linter.unusedVariables false
set_option linter.unusedSimpArgs false
namespace Go.Proofs.YtbjkhnlnedfceaaGreatDoor
open Go Go.RowKit Go.Wk
attribute [local irreducible] W RL Does thenQ blockQ retQ Calls Pu Stp RD Qy Ay DoesIn
theorem chosenR_spec (A : Option Addr) (c : Nat) (l : List DRule) (f : FuncId) [Body Tryz.prog f] (us cs : List Value) (p : DRule → Bool) (w : World) (hA : RdSl w A c DRule.enc 11 l) (hn : l.length ≤ 1000000)
  (hf : ∀ r w', Bel w.heap.size w w' → Does Tryz.prog f (us ++ [.agg (DRule.enc r).toArray] ++ cs) w' (fun v O => v = .bool (p r) ∧ O = [])) :
  Does Tryz.prog 64 [.slice A l.length c, .func (.func f) us.toArray cs.toArray] w (NewSl 39 11 DRule.enc (l.filter p)) := by
 refine Does_of_W Tryz.func64 rfl rfl rfl rfl ?_
 repeat (first | (refine js ?_; (refine bx ?_; intro bk)) | refine walk ?_)
 refine W_nil 39 11 ?_
 refine W_loopF [(1, _), (8, _), (9, _)] [] (fun g : AG DRule => [(10, .int .i64 g.k), (5, .slice g.A g.m g.c)]) (fun g => [.row (.slice g.A g.m g.c) 39 11 g.m g.xs]) (fun g => g.k ≤ l.length ∧ g.m = g.acc.length ∧ g.xs = g.acc.flatMap DRule.enc ∧ g.m ≤ g.k ∧ g.acc = (l.take g.k).filter p) (fun g => l.length - g.k) ⟨0, none, 0, 0, [], []⟩ SFA (.refl _) ⟨by simp, rfl, rfl, Nat.le_refl _, by simp⟩ ?_
 rintro ⟨k, A2, c2, m2, x2, ac2⟩ ⟨hk2, hm2, hx2, hmk2, ha2⟩
 dsimp only at hk2 hm2 hx2 hmk2 ha2 ⊢
 repeat (first | (refine js ?_; (refine bx ?_; intro bk)) | refine walk ?_)
 refine W_cond rfl (fun hc => ?_) (fun hc => ?_)
 ·simp only [decide_eq_true_eq, Int.ofNat_lt] at hc
  obtain ⟨hna, hca⟩ := hA.rd k _ (List.getElem?_eq_getElem hc)
  have hnb := hna
  have hcb := hca
  have ht := take_filter hc p
  generalize l[k] = r at *
  repeat (first | (apply RL_pu; rfl; exact PuI) | (refine js ?_; (first | (apply Stp_callV (f := f) (us := us) (cs := cs) (vs := [.agg (DRule.enc r).toArray]) (h := fun w' hw _ => hf r w' hw); rfl; rfl; rintro v O' ⟨rfl, rfl⟩) | (refine bx ?_; intro bk))) | refine walk1 ?_)
  refine W_cond rfl (fun h3 => ?_) (fun h3 => ?_)
  ·rw [h3] at ht
   repeat (first | (apply RL_pu; rfl; exact PuI) | (refine js ?_; (first | (apply Stp_append; rfl; rfl; (intro A' c'; (focus repeat' constructor)); (intro w' _ hO; exact blkRaw (hO.of (by repeat' constructor))); rfl; rfl; (simp only [maxLen]; omega); omega; intro A' c' hc1 hc2 hc3) | (refine bx ?_; intro bk))) | refine walk1 ?_)
   exact ⟨⟨k + 1, A', c', m2 + 1, x2 ++ DRule.enc r, ac2 ++ [r]⟩, OA, ⟨OA, by simp [hm2], by rw [hx2]; exact flat_snoc ac2 _, OA, by rw [ha2, ht]; rfl⟩, SFA, SOA⟩
  rw [h3] at ht
  repeat (first | (refine js ?_; (refine bx ?_; intro bk)) | refine walk ?_)
  exact ⟨⟨k + 1, A2, c2, m2, x2, ac2⟩, OA, ⟨OA, hm2, hx2, OA, by rw [ha2, ht]; simp⟩, SFA, SOA⟩
 simp only [decide_eq_false_iff_not, Int.ofNat_lt] at hc
 rw [List.take_of_length_le (by omega)] at ha2
 subst hm2 hx2 ha2
 repeat (first | (refine js ?_; (refine bx ?_; intro bk)) | refine walk ?_)
 exact ret_1 _ _ (.tmp rfl) (.refl _) ⟨A2, c2, rfl, rfl⟩
theorem chosenS_spec (A : Option Addr) (c : Nat) (l : List ByteArray) (f : FuncId) [Body Tryz.prog f] (us cs : List Value) (p : ByteArray → Bool) (w : World) (hA : RdSl w A c strEnc 1 l) (hn : l.length ≤ 1000000)
  (hf : ∀ r w', Bel w.heap.size w w' → Does Tryz.prog f (us ++ [.string r] ++ cs) w' (fun v O => v = .bool (p r) ∧ O = [])) :
  Does Tryz.prog 66 [.slice A l.length c, .func (.func f) us.toArray cs.toArray] w (NewSl 9 1 strEnc (l.filter p)) := by
 refine Does_of_W Tryz.func66 rfl rfl rfl rfl ?_
 repeat (first | (refine js ?_; (refine bx ?_; intro bk)) | refine walk ?_)
 refine W_nil 9 1 ?_
 refine W_loopF [(1, _), (8, _), (9, _)] [] (fun g : AG ByteArray => [(10, .int .i64 g.k), (5, .slice g.A g.m g.c)]) (fun g => [.row (.slice g.A g.m g.c) 9 1 g.m g.xs]) (fun g => g.k ≤ l.length ∧ g.m = g.acc.length ∧ g.xs = g.acc.flatMap strEnc ∧ g.m ≤ g.k ∧ g.acc = (l.take g.k).filter p) (fun g => l.length - g.k) ⟨0, none, 0, 0, [], []⟩ SFA (.refl _) ⟨by simp, rfl, rfl, Nat.le_refl _, by simp⟩ ?_
 rintro ⟨k, A2, c2, m2, x2, ac2⟩ ⟨hk2, hm2, hx2, hmk2, ha2⟩
 dsimp only at hk2 hm2 hx2 hmk2 ha2 ⊢
 repeat (first | (refine js ?_; (refine bx ?_; intro bk)) | refine walk ?_)
 refine W_cond rfl (fun hc => ?_) (fun hc => ?_)
 ·simp only [decide_eq_true_eq, Int.ofNat_lt] at hc
  obtain ⟨hna, hca⟩ := hA.rd k _ (List.getElem?_eq_getElem hc)
  have hnb := hna
  have hcb := hca
  have ht := take_filter hc p
  generalize l[k] = r at *
  repeat (first | (apply RL_pu; rfl; exact PuI) | (refine js ?_; (first | (apply Stp_callV (f := f) (us := us) (cs := cs) (vs := [.string r]) (h := fun w' hw _ => hf r w' hw); rfl; rfl; rintro v O' ⟨rfl, rfl⟩) | (refine bx ?_; intro bk))) | refine walk1 ?_)
  refine W_cond rfl (fun h3 => ?_) (fun h3 => ?_)
  ·rw [h3] at ht
   repeat (first | (apply RL_pu; rfl; exact PuI) | (refine js ?_; (first | (apply Stp_append; rfl; rfl; (intro A' c'; (focus repeat' constructor)); (intro w' _ hO; exact blkRaw (hO.of (by repeat' constructor))); rfl; rfl; (simp only [maxLen]; omega); omega; intro A' c' hc1 hc2 hc3) | (refine bx ?_; intro bk))) | refine walk1 ?_)
   exact ⟨⟨k + 1, A', c', m2 + 1, x2 ++ strEnc r, ac2 ++ [r]⟩, OA, ⟨OA, by simp [hm2], by rw [hx2]; exact flat_snoc ac2 _, OA, by rw [ha2, ht]; rfl⟩, SFA, SOA⟩
  rw [h3] at ht
  repeat (first | (refine js ?_; (refine bx ?_; intro bk)) | refine walk ?_)
  exact ⟨⟨k + 1, A2, c2, m2, x2, ac2⟩, OA, ⟨OA, hm2, hx2, OA, by rw [ha2, ht]; simp⟩, SFA, SOA⟩
 simp only [decide_eq_false_iff_not, Int.ofNat_lt] at hc
 rw [List.take_of_length_le (by omega)] at ha2
 subst hm2 hx2 ha2
 repeat (first | (refine js ?_; (refine bx ?_; intro bk)) | refine walk ?_)
 exact ret_1 _ _ (.tmp rfl) (.refl _) ⟨A2, c2, rfl, rfl⟩
theorem chosenL_spec (A : Option Addr) (c : Nat) (l : List DLink) (f : FuncId) [Body Tryz.prog f] (us cs : List Value) (p : DLink → Bool) (w : World) (hA : RdSl w A c DLink.enc 2 l) (hn : l.length ≤ 1000000)
  (hf : ∀ r w', Bel w.heap.size w w' → Does Tryz.prog f (us ++ [.agg (DLink.enc r).toArray] ++ cs) w' (fun v O => v = .bool (p r) ∧ O = [])) :
  Does Tryz.prog 109 [.slice A l.length c, .func (.func f) us.toArray cs.toArray] w (NewSl 89 2 DLink.enc (l.filter p)) := by
 refine Does_of_W Tryz.func109 rfl rfl rfl rfl ?_
 repeat (first | (refine js ?_; (refine bx ?_; intro bk)) | refine walk ?_)
 refine W_nil 89 2 ?_
 refine W_loopF [(1, _), (8, _), (9, _)] [] (fun g : AG DLink => [(10, .int .i64 g.k), (5, .slice g.A g.m g.c)]) (fun g => [.row (.slice g.A g.m g.c) 89 2 g.m g.xs]) (fun g => g.k ≤ l.length ∧ g.m = g.acc.length ∧ g.xs = g.acc.flatMap DLink.enc ∧ g.m ≤ g.k ∧ g.acc = (l.take g.k).filter p) (fun g => l.length - g.k) ⟨0, none, 0, 0, [], []⟩ SFA (.refl _) ⟨by simp, rfl, rfl, Nat.le_refl _, by simp⟩ ?_
 rintro ⟨k, A2, c2, m2, x2, ac2⟩ ⟨hk2, hm2, hx2, hmk2, ha2⟩
 dsimp only at hk2 hm2 hx2 hmk2 ha2 ⊢
 repeat (first | (refine js ?_; (refine bx ?_; intro bk)) | refine walk ?_)
 refine W_cond rfl (fun hc => ?_) (fun hc => ?_)
 ·simp only [decide_eq_true_eq, Int.ofNat_lt] at hc
  obtain ⟨hna, hca⟩ := hA.rd k _ (List.getElem?_eq_getElem hc)
  have hnb := hna
  have hcb := hca
  have ht := take_filter hc p
  generalize l[k] = r at *
  repeat (first | (apply RL_pu; rfl; exact PuI) | (refine js ?_; (first | (apply Stp_callV (f := f) (us := us) (cs := cs) (vs := [.agg (DLink.enc r).toArray]) (h := fun w' hw _ => hf r w' hw); rfl; rfl; rintro v O' ⟨rfl, rfl⟩) | (refine bx ?_; intro bk))) | refine walk1 ?_)
  refine W_cond rfl (fun h3 => ?_) (fun h3 => ?_)
  ·rw [h3] at ht
   repeat (first | (apply RL_pu; rfl; exact PuI) | (refine js ?_; (first | (apply Stp_append; rfl; rfl; (intro A' c'; (focus repeat' constructor)); (intro w' _ hO; exact blkRaw (hO.of (by repeat' constructor))); rfl; rfl; (simp only [maxLen]; omega); omega; intro A' c' hc1 hc2 hc3) | (refine bx ?_; intro bk))) | refine walk1 ?_)
   exact ⟨⟨k + 1, A', c', m2 + 1, x2 ++ DLink.enc r, ac2 ++ [r]⟩, OA, ⟨OA, by simp [hm2], by rw [hx2]; exact flat_snoc ac2 _, OA, by rw [ha2, ht]; rfl⟩, SFA, SOA⟩
  rw [h3] at ht
  repeat (first | (refine js ?_; (refine bx ?_; intro bk)) | refine walk ?_)
  exact ⟨⟨k + 1, A2, c2, m2, x2, ac2⟩, OA, ⟨OA, hm2, hx2, OA, by rw [ha2, ht]; simp⟩, SFA, SOA⟩
 simp only [decide_eq_false_iff_not, Int.ofNat_lt] at hc
 rw [List.take_of_length_le (by omega)] at ha2
 subst hm2 hx2 ha2
 repeat (first | (refine js ?_; (refine bx ?_; intro bk)) | refine walk ?_)
 exact ret_1 _ _ (.tmp rfl) (.refl _) ⟨A2, c2, rfl, rfl⟩
theorem chosenZ_spec (A : Option Addr) (c : Nat) (l : List ZE) (f : FuncId) [Body Tryz.prog f] (us cs : List Value) (p : ZE → Bool) (w : World) (hA : RdSl w A c ZE.enc 2 l) (hn : l.length ≤ 1000000)
  (hf : ∀ r w', Bel w.heap.size w w' → Does Tryz.prog f (us ++ [.agg (ZE.enc r).toArray] ++ cs) w' (fun v O => v = .bool (p r) ∧ O = [])) :
  Does Tryz.prog 62 [.slice A l.length c, .func (.func f) us.toArray cs.toArray] w (NewSl 43 2 ZE.enc (l.filter p)) := by
 refine Does_of_W Tryz.func62 rfl rfl rfl rfl ?_
 repeat (first | (refine js ?_; (refine bx ?_; intro bk)) | refine walk ?_)
 refine W_nil 43 2 ?_
 refine W_loopF [(1, _), (8, _), (9, _)] [] (fun g : AG ZE => [(10, .int .i64 g.k), (5, .slice g.A g.m g.c)]) (fun g => [.row (.slice g.A g.m g.c) 43 2 g.m g.xs]) (fun g => g.k ≤ l.length ∧ g.m = g.acc.length ∧ g.xs = g.acc.flatMap ZE.enc ∧ g.m ≤ g.k ∧ g.acc = (l.take g.k).filter p) (fun g => l.length - g.k) ⟨0, none, 0, 0, [], []⟩ SFA (.refl _) ⟨by simp, rfl, rfl, Nat.le_refl _, by simp⟩ ?_
 rintro ⟨k, A2, c2, m2, x2, ac2⟩ ⟨hk2, hm2, hx2, hmk2, ha2⟩
 dsimp only at hk2 hm2 hx2 hmk2 ha2 ⊢
 repeat (first | (refine js ?_; (refine bx ?_; intro bk)) | refine walk ?_)
 refine W_cond rfl (fun hc => ?_) (fun hc => ?_)
 ·simp only [decide_eq_true_eq, Int.ofNat_lt] at hc
  obtain ⟨hna, hca⟩ := hA.rd k _ (List.getElem?_eq_getElem hc)
  have hnb := hna
  have hcb := hca
  have ht := take_filter hc p
  generalize l[k] = r at *
  repeat (first | (apply RL_pu; rfl; exact PuI) | (refine js ?_; (first | (apply Stp_callV (f := f) (us := us) (cs := cs) (vs := [.agg (ZE.enc r).toArray]) (h := fun w' hw _ => hf r w' hw); rfl; rfl; rintro v O' ⟨rfl, rfl⟩) | (refine bx ?_; intro bk))) | refine walk1 ?_)
  refine W_cond rfl (fun h3 => ?_) (fun h3 => ?_)
  ·rw [h3] at ht
   repeat (first | (apply RL_pu; rfl; exact PuI) | (refine js ?_; (first | (apply Stp_append; rfl; rfl; (intro A' c'; (focus repeat' constructor)); (intro w' _ hO; exact blkRaw (hO.of (by repeat' constructor))); rfl; rfl; (simp only [maxLen]; omega); omega; intro A' c' hc1 hc2 hc3) | (refine bx ?_; intro bk))) | refine walk1 ?_)
   exact ⟨⟨k + 1, A', c', m2 + 1, x2 ++ ZE.enc r, ac2 ++ [r]⟩, OA, ⟨OA, by simp [hm2], by rw [hx2]; exact flat_snoc ac2 _, OA, by rw [ha2, ht]; rfl⟩, SFA, SOA⟩
  rw [h3] at ht
  repeat (first | (refine js ?_; (refine bx ?_; intro bk)) | refine walk ?_)
  exact ⟨⟨k + 1, A2, c2, m2, x2, ac2⟩, OA, ⟨OA, hm2, hx2, OA, by rw [ha2, ht]; simp⟩, SFA, SOA⟩
 simp only [decide_eq_false_iff_not, Int.ofNat_lt] at hc
 rw [List.take_of_length_le (by omega)] at ha2
 subst hm2 hx2 ha2
 repeat (first | (refine js ?_; (refine bx ?_; intro bk)) | refine walk ?_)
 exact ret_1 _ _ (.tmp rfl) (.refl _) ⟨A2, c2, rfl, rfl⟩
theorem Pu_castK {P : Program} {n : Nat} {wr : World} {fr : Fr} {O : List It} {op : Op} {ty : TypeId} {v v' : Value} (h : Pu P n wr fr O op ty v) (e : v = v') : Pu P n wr fr O op ty v' := e ▸ h
theorem mp_up {w w' : World} {b : Nat} {m : List (ByteArray × Value)} (h : (It.mp b m).sat w) (hb : Bel w.heap.size w w') : (It.mp b m).sat w' := by
 obtain ⟨es, cl, h2, h3⟩ := h
 refine ⟨es, cl, ?_, h3⟩
 rw [hb.block b (Array.getElem?_eq_some_iff.1 h2).1]
 exact h2
def CntAt (w : World) (ad : Addr) (names : List ByteArray) : Prop := ∃ b m, w.cell? ad = some (.map (some b)) ∧ (It.mp b m).sat w ∧ CntB m names
theorem CntAt.up {w w' : World} {ad : Addr} {names : List ByteArray} (h : CntAt w ad names) (hb : Bel w.heap.size w w') : CntAt w' ad names := by
 obtain ⟨b, m, h1, ⟨es, cl, h2, h3⟩, h4⟩ := h
 refine ⟨b, m, (hb.cell (World.block_lt_of_cell? w _ h1)).trans h1, ⟨es, cl, ?_, h3⟩, h4⟩
 rw [hb.block b (Array.getElem?_eq_some_iff.1 h2).1]
 exact h2
theorem PuKeepG0 {G : Prop} (h : G := by (first | (apply Pu_loadO1; rfl; exact h1) | (apply Pu_castK; (apply Pu_lookupO (m := m); rfl; rfl; exact fun w' hb _ => mp_up h2 hb); exact h3 _))) : G := h
theorem fnZ1_spec (r : ZE) (ad : Addr) (names : List ByteArray) (w : World) (h : CntAt w ad names) : Does Tryz.prog 63 [.agg (ZE.enc r).toArray, .pointer (some ad)] w (fun v O => v = .bool (memB r.z.name names) ∧ O = []) := by
 obtain ⟨b, m, h1, h2, h3⟩ := h
 have hpos := cntB_pos r.z.name names
 refine Does_of_W Tryz.func63 rfl rfl rfl rfl ?_
 repeat (first | (apply RL_pu; rfl; exact PuKeepG0) | (refine js ?_; (refine bx ?_; intro bk)) | refine walk1 ?_)
 exact ret_1 _ [] (.tmp rfl) .nil ⟨by rw [← hpos]; congr 1; simp, rfl⟩
theorem fnZ2_spec (r : DRule) (ad : Addr) (names : List ByteArray) (w : World) (h : CntAt w ad names) : Does Tryz.prog 65 [.agg (DRule.enc r).toArray, .pointer (some ad)] w (fun v O => v = .bool (memB r.name names) ∧ O = []) := by
 obtain ⟨b, m, h1, h2, h3⟩ := h
 have hpos := cntB_pos r.name names
 refine Does_of_W Tryz.func65 rfl rfl rfl rfl ?_
 repeat (first | (apply RL_pu; rfl; exact PuKeepG0) | (refine js ?_; (refine bx ?_; intro bk)) | refine walk1 ?_)
 exact ret_1 _ [] (.tmp rfl) .nil ⟨by rw [← hpos]; congr 1; simp, rfl⟩
theorem fnZ3_spec (r : ByteArray) (ad : Addr) (names : List ByteArray) (w : World) (h : CntAt w ad names) : Does Tryz.prog 67 [.string r, .pointer (some ad)] w (fun v O => v = .bool (memB r names) ∧ O = []) := by
 obtain ⟨b, m, h1, h2, h3⟩ := h
 have hpos := cntB_pos r names
 refine Does_of_W Tryz.func67 rfl rfl rfl rfl ?_
 repeat (first | (apply RL_pu; rfl; exact PuKeepG0) | refine walk1 ?_)
 exact ret_1 _ [] (.tmp rfl) .nil ⟨by rw [← hpos]; congr 1; simp, rfl⟩
theorem fnW1_spec (r : ZE) (ad : Addr) (names : List ByteArray) (w : World) (h : CntAt w ad names) : Does Tryz.prog 108 [.agg (ZE.enc r).toArray, .pointer (some ad)] w (fun v O => v = .bool (!memB r.z.name names) ∧ O = []) := by
 obtain ⟨b, m, h1, h2, h3⟩ := h
 have hpos := cntB_pos r.z.name names
 refine Does_of_W Tryz.func108 rfl rfl rfl rfl ?_
 repeat (first | (apply RL_pu; rfl; exact PuKeepG0) | (refine js ?_; (refine bx ?_; intro bk)) | refine walk1 ?_)
 exact ret_1 _ [] (.tmp rfl) .nil ⟨by rw [← hpos]; congr 1; rw [Bool.eq_iff_iff]; simp, rfl⟩
theorem fnW2_spec (r : DLink) (ad : Addr) (names : List ByteArray) (w : World) (h : CntAt w ad names) : Does Tryz.prog 110 [.agg (DLink.enc r).toArray, .pointer (some ad)] w (fun v O => v = .bool (!memB r.name names) ∧ O = []) := by
 obtain ⟨b, m, h1, h2, h3⟩ := h
 have hpos := cntB_pos r.name names
 refine Does_of_W Tryz.func110 rfl rfl rfl rfl ?_
 repeat (first | (apply RL_pu; rfl; exact PuKeepG0) | (refine js ?_; (refine bx ?_; intro bk)) | refine walk1 ?_)
 exact ret_1 _ [] (.tmp rfl) .nil ⟨by rw [← hpos]; congr 1; rw [Bool.eq_iff_iff]; simp, rfl⟩
end Go.Proofs.YtbjkhnlnedfceaaGreatDoor
namespace Go.Proofs.YtbjkhnlnedfceaaGreatDoor
open Go Go.RowKit Go.Wk
theorem zeOf2 {w : World} {A : Option Addr} : ∀ (zs : List DZone) (off : Nat), (∀ k z, zs[k]? = some z → A ≠ none ∧ ∃ cs, RdZone w z cs ∧ CellsAt w ((adr A).add ((off + k) * 2)) cs) →
  ∃ Zs : List ZE, Zs.map ZE.z = zs ∧ (∀ k q, Zs[k]? = some q → A ≠ none ∧ CellsAt w ((adr A).add ((off + k) * 2)) q.enc) ∧ ErasAt Zs w
 | [], _, _ => ⟨[], rfl, fun _ _ h => by simp at h, fun _ h => by simp at h⟩
 | z :: zs, off, h => by
  obtain ⟨h1, cs, ⟨A', c', h2, rfl⟩, h3⟩ := h 0 z rfl
  obtain ⟨Zs, h4, h5, h6⟩ := zeOf2 (A := A) zs (off + 1) fun k z' hz => by
   have := h (k + 1) z' (by simpa using hz)
   rwa [show off + (k + 1) = off + 1 + k from by omega] at this
  refine ⟨⟨z, A', c'⟩ :: Zs, by simp [h4], fun k q hq => ?_, fun q hq => ?_⟩
  ·cases k with
   | zero =>
    simp only [List.getElem?_cons_zero, Option.some.injEq] at hq
    subst hq
    exact ⟨h1, h3⟩
   | succ k =>
    have := h5 k q (by simpa using hq)
    rwa [show off + 1 + k = off + (k + 1) from by omega] at this
  ·rcases List.mem_cons.1 hq with rfl | hq
   ·exact h2
   ·exact h6 q hq
theorem srcZe2 {w : World} {Ar Az Al As : Option Addr} {cr cz cl cs : Nat} {s : DSource} (h : RdSource w Ar Az Al As cr cz cl cs s) : ∃ Zs : List ZE, Zs.map ZE.z = s.zones ∧ RdSl w Az cz ZE.enc 2 Zs ∧ ErasAt Zs w := by
 obtain ⟨Zs, h1, h2, h3⟩ := zeOf2 s.zones 0 (fun k z hz => by simpa using h.z k z hz)
 exact ⟨Zs, h1, ⟨by rw [← List.length_map (f := ZE.z), h1]; exact h.zle, h.zcap, fun k q hq => by simpa using h2 k q hq⟩, h3⟩
theorem ze_get (L : List ZE) (k : Nat) (z : ZE) (hk : L[k]? = some z) : (L.flatMap ZE.enc)[k * 2 + 1]? = some (.slice z.A z.z.eras.length z.c) := flat_get ZE.len L k z 1 _ hk rfl
theorem ze_set (L : List ZE) (k : Nat) (z : ZE) (A : Option Addr) (c : Nat) (hk : L[k]? = some z) : (L.flatMap ZE.enc).set (k * 2 + 1) (.slice A z.z.eras.length c) = (L.set k ⟨z.z, A, c⟩).flatMap ZE.enc := by
 induction L generalizing k with
 | nil => simp at hk
 | cons y L ih =>
  cases k with
  | zero =>
   simp only [List.getElem?_cons_zero, Option.some.injEq] at hk
   subst hk
   rfl
  | succ k =>
   rw [List.getElem?_cons_succ] at hk
   have := ih k hk
   rw [show (k + 1) * 2 + 1 = (k * 2 + 1) + 1 + 1 from by omega, List.set_cons_succ, List.flatMap_cons, List.flatMap_cons, ← this]
   rfl
attribute [local irreducible] W RL Does thenQ blockQ retQ Calls Pu Stp RD Qy Ay DoesIn
theorem cloneZ_spec (A : Option Addr) (c : Nat) (x : List ZE) (w : World) (hA : RdSl w A c ZE.enc 2 x) (hn : x.length ≤ 1000000) :
  Does Tryz.prog 101 [.slice A x.length c] w (fun v O => ∃ A c, v = .slice A x.length c ∧ O = [.row (.slice A x.length c) 43 2 x.length (x.flatMap ZE.enc)] ∧ (0 < x.length → A ≠ none)) := by
 refine Does_of_W Tryz.func101 rfl rfl rfl rfl ?_
 repeat (first | (refine js ?_; (refine bx ?_; intro bk)) | refine walk ?_)
 refine W_cond rfl (fun h1 => ?_) (fun h1 => ?_)
 ·obtain rfl := hA.none h1
  refine W_nil 43 2 ?_
  repeat (first | (refine js ?_; (refine bx ?_; intro bk)) | refine walk ?_)
  exact ret_1 _ [.row (.slice none 0 0) 43 2 0 []] (.tmp rfl) SOA ⟨none, 0, rfl, rfl, fun h => absurd h (by simp)⟩
 repeat (first | (refine js ?_; (first | (apply Stp_append0; rfl; rfl; (intro A' c'; (focus repeat' constructor)); (intro w' hw _; exact (hA.up hw).rd.raw ZE.len (by decide)); exact flat_len ZE.len x; exact all_flat oneZ x; (simp only [maxLen]; omega); omega; intro A' c' hc1 hc2 hc3) | (refine bx ?_; intro bk))) | refine walk ?_)
 exact ret_1 _ _ (.tmp rfl) (.refl _) ⟨A', c', rfl, rfl, hc3⟩
structure CpG where
 k : Nat
 Zr : List ZE
theorem PuKeepH0 {G : Prop} (h : G := by (first | (apply Pu_indexAddr; rfl; rfl; omega; omega; exact hAn) | (apply Pu_loadRF; rfl; (focus repeat' constructor); exact hx1))) : G := h
theorem QyKeepH0 {G : Prop} (h : G := by first | (apply Qy_y; rfl; exact PuKeepH0) | exact QyA) : G := h
theorem QFKeepH0 {G : Prop} (h : G := by repeat (first | exact QF.nil | (apply QF.mk; rfl; rfl; decide +kernel; exact QyKeepH0))) : G := h
set_option maxHeartbeats 4000000 in
theorem copyR_spec (Ar Az Al As : Option Addr) (cr cz cl cs : Nat) (a : DSource) (w : World) (hA : RdSource w Ar Az Al As cr cz cl cs a) (hn : Fits a) :
  Does Tryz.prog 60 [srcV Ar Az Al As cr cz cl cs a] w (NewSrcR a) := by
 obtain ⟨hnr, hnz, hnl, hns, hne⟩ := hn
 obtain ⟨Zo, hZo, hZr, hZe⟩ := srcZe2 hA
 have hzl : a.zones.length = Zo.length := by rw [← hZo, List.length_map]
 refine Does_of_W Tryz.func60 rfl rfl rfl rfl ?_
 unfold srcV
 rw [hzl] at hnz ⊢
 repeat (first | refine walk ?_ | (refine jg ?_; (try intro F); (first | (apply Stp_call (h := fun w' hw _ => cloneZ_spec Az cz Zo w' (hZr.up hw) hnz); rfl; rintro v O' ⟨A2, c2, rfl, rfl, hA2⟩) | (refine bx ?_; intro bk) | (refine stA ?_)); refine fin ?_) | (refine jn ?_; (try intro F); (first | (refine bx ?_; intro bk) | (refine stA ?_) | (apply Stp_pu; exact PuA)); refine fin ?_) | (apply RD_W; rfl; intro bk))
 rename_i b1
 generalize bk = b2
 refine W_loop (fun g : CpG => [(10, .int .i64 g.k), (1, _), (2, _), (3, _), (9, _)]) (fun g => .row (.slice A2 Zo.length c2) 43 2 Zo.length ((g.Zr.reverse ++ Zo.drop g.k).flatMap ZE.enc) :: .blk b2 _ _ :: .blk b1 _ _ :: g.Zr.map eraRow)
  (fun g => g.k ≤ Zo.length ∧ g.Zr.length = g.k ∧ g.Zr.reverse.map ZE.z = (Zo.take g.k).map ZE.z) (fun g => Zo.length - g.k) ⟨0, []⟩ SFA STA ⟨by simp, rfl, by simp⟩ ?_
 rintro ⟨k, Zr⟩ ⟨hk, hZl, hZz⟩
 dsimp only at hk hZl hZz ⊢
 rw [← List.length_reverse] at hZl
 obtain ⟨Zs, hZs⟩ : ∃ Zs, Zr.reverse = Zs := ⟨_, rfl⟩
 rw [hZs] at hZl hZz
 rw [hZs]
 generalize hT : Zr.map eraRow = T
 repeat (first | refine walk ?_ | (refine jn ?_; (try intro F); (first | (refine bx ?_; intro bk) | (refine stA ?_) | (apply Stp_pu; exact PuA)); refine fin ?_) | (apply RD_W; rfl; intro bk))
 refine W_cond rfl (fun hc => ?_) (fun hc => ?_)
 ·simp only [decide_eq_true_eq, Int.ofNat_lt] at hc
  have hAn := hA2 (by omega)
  have hEr := hZe _ (List.getElem_mem hc)
  have hlen : Zo[k].z.eras.length ≤ 1000000 := hne _ (by rw [← hZo]; exact List.mem_map.2 ⟨_, List.getElem_mem hc, rfl⟩)
  have hget : (Zs ++ Zo.drop k)[k]? = some Zo[k] := by rw [List.getElem?_append_right (by omega), hZl, Nat.sub_self, List.getElem?_drop, Nat.add_zero, List.getElem?_eq_getElem hc]
  have hset : ∀ q : ZE, (Zs ++ Zo.drop k).set k q = (Zs ++ [q]) ++ Zo.drop (k + 1) := fun q => by
   rw [List.set_append_right _ _ (by omega), hZl, Nat.sub_self, drop_cons hc, List.set_cons_zero]
   simp
  have htk : (Zo.take (k + 1)).map ZE.z = (Zo.take k).map ZE.z ++ [Zo[k].z] := by rw [← List.take_append_getElem hc, List.map_append]; rfl
  have hLl : (Zs ++ Zo.drop k).length = Zo.length := by rw [List.length_append, List.length_drop]; omega
  generalize Zo[k] = z at *
  have hx1 : ((Zs ++ Zo.drop k).flatMap ZE.enc)[((k : Int)).toNat * 2 + 1]? = some (.slice z.A z.z.eras.length z.c) := by
   rw [show ((k : Int)).toNat * 2 + 1 = k * 2 + 1 from by omega]; exact ze_get _ k z hget
  repeat (first | (apply RL_pu; rfl; exact PuKeepH0) | (refine js ?_; (first | (apply Stp_call (h := fun w' hw _ => cloneE_spec z.A z.c z.z.eras w' (hEr.up hw) hlen); rfl; rintro v O' ⟨Ae2, ce2, rfl, rfl⟩) | (apply Stp_storeRF; rfl; rfl; (focus repeat' constructor); rfl; rfl; rfl; (rw [flat_len ZE.len, hLl]; omega); decide; rfl) | (refine bx ?_; intro bk))) | (apply RD_Q; rfl; rfl; decide +kernel; rfl; rfl; exact QyKeepH0) | refine walk1 ?_ | (refine RD_G0w ?_; intro F; (apply Stp_call (h := fun w' hw _ => cloneE_spec z.A z.c z.z.eras w' (hEr.up hw) hlen); rfl; rintro v O' ⟨Ae2, ce2, rfl, rfl⟩); refine ⟨_, EndsA, SubO.right _ _, ?_⟩) | (refine RD_Lw ?_; intro F; (first | (apply Stp_call (h := fun w' hw _ => cloneE_spec z.A z.c z.z.eras w' (hEr.up hw) hlen); rfl; rintro v O' ⟨Ae2, ce2, rfl, rfl⟩) | (apply Stp_storeRF; rfl; rfl; (focus repeat' constructor); rfl; rfl; rfl; (rw [flat_len ZE.len, hLl]; omega); decide; rfl) | (refine bx ?_; intro bk) | (refine stA ?_) | (apply Stp_pu; first | exact PuKeepH0 | exact PuA)); refine ⟨_, EndsA, QFKeepH0, ?_⟩) | (apply RD_W; rfl; intro bk))
  have hfin : lay ((Zs ++ Zo.drop k).flatMap ZE.enc) (((k : Int)).toNat * 2 + 1) (Value.slice Ae2 z.z.eras.length ce2).cells.toList = ((Zs ++ [(⟨z.z, Ae2, ce2⟩ : ZE)]) ++ Zo.drop (k + 1)).flatMap ZE.enc := by
   rw [show ((k : Int)).toNat * 2 + 1 = k * 2 + 1 from by omega, ← hset, ← ze_set _ k z Ae2 ce2 hget]
   rfl
  subst hT
  have hrev : (⟨z.z, Ae2, ce2⟩ :: Zr : List ZE).reverse = Zs ++ [⟨z.z, Ae2, ce2⟩] := by rw [List.reverse_cons, hZs]
  exact ⟨⟨k + 1, ⟨z.z, Ae2, ce2⟩ :: Zr⟩, OA, ⟨OA, by rw [← List.length_reverse, hrev]; simp [hZl], by rw [hrev, List.map_append, hZz]; exact htk.symm⟩, SFA, by rw [hrev, ← hfin]; exact STA⟩
 simp only [decide_eq_false_iff_not, Int.ofNat_lt] at hc
 have hkl : k = Zo.length := by omega
 subst hkl
 rw [List.drop_length, List.append_nil]
 rw [List.take_length, hZo] at hZz
 subst hT
 refine W_perm _ (SubO.permT (l := [_, _, _]) (.refl _) ((List.reverse_perm Zr).symm.map eraRow)) ?_
 rw [hZs]
 rw [← hZl]
 repeat (first | refine walk ?_ | (refine jg ?_; (try intro F); (first | (apply Stp_call (h := fun w' hw _ => cloneR_spec Ar cr a.rules w' (hA.r.up hw) hnr); rfl; rintro v O' ⟨A3, c3, rfl, rfl⟩) | (apply Stp_call (h := fun w' hw _ => cloneL_spec Al cl a.links w' (hA.l.up hw) hnl); rfl; rintro v O' ⟨A4, c4, rfl, rfl⟩) | (apply Stp_call (h := fun w' hw _ => cloneS_spec As cs a.shifts w' (hA.s.up hw) hns); rfl; rintro v O' ⟨A5, c5, rfl, rfl⟩) | (refine bx ?_; intro bk) | (refine stA ?_)); refine fin ?_) | (refine jn ?_; (try intro F); (first | (refine bx ?_; intro bk) | (refine stA ?_) | (apply Stp_pu; exact PuA)); refine fin ?_) | (apply RD_W; rfl; intro bk))
 have hl : Zs.length = a.zones.length := by rw [← hZz, List.length_map]
 exact ret_1 _ (rowR A3 c3 a.rules :: rowZ A2 c2 Zs :: rowL A4 c4 a.links :: rowS A5 c5 a.shifts :: Zs.map eraRow) (.cellB rfl (by repeat' constructor) rfl rfl) STA ⟨A3, c3, A2, c2, A4, c4, A5, c5, Zs, by rw [srcV, ← hl]; rfl, hZz, rfl⟩
end Go.Proofs.YtbjkhnlnedfceaaGreatDoor
namespace Go.Proofs.YtbjkhnlnedfceaaGreatDoor
open Go Go.RowKit Go.Wk
attribute [local irreducible] W RL Does thenQ blockQ retQ Calls Pu Stp RD Qy Ay
def eraSets (es : List DEra) : List ByteArray := (es.filter fun e => decide (e.kind = 2)).map (·.set)
def setsOf (zs : List DZone) : List ByteArray := zs.flatMap fun z => eraSets z.eras
def keptZ (s : DSource) (names : List ByteArray) : List DZone := s.zones.filter fun z => memB z.name names
def zonesD (s : DSource) (names : List ByteArray) : DSource := ⟨s.rules.filter fun r => memB r.name (setsOf (keptZ s names)), keptZ s names, [], s.shifts.filter fun x => memB x (setsOf (keptZ s names))⟩
theorem eraSets_take {es : List DEra} {j : Nat} (hc : j < es.length) : eraSets (es.take (j + 1)) = eraSets (es.take j) ++ if decide (es[j].kind = 2) then [es[j].set] else [] := by
 rw [eraSets, take_filter hc, List.map_append, eraSets]
 by_cases h : decide (es[j].kind = 2) <;> simp [h]
end Go.Proofs.YtbjkhnlnedfceaaGreatDoor
namespace Go.Proofs.YtbjkhnlnedfceaaGreatDoor
open Go Go.RowKit Go.Wk
attribute [local irreducible] W RL Does thenQ blockQ retQ Calls Pu Stp RD Qy Ay DoesIn
theorem copyR2_spec (Ar Az Al As : Option Addr) (cr cz cl cs : Nat) (a : DSource) (w : World) (hA : RdSource w Ar Az Al As cr cz cl cs a) (hn : Fits a) :
  Does Tryz.prog 60 [srcV Ar Az Al As cr cz cl cs a] w (fun v O => ∃ Ar cr Az cz Al cl As cs Zs, v = .agg #[.slice Ar a.rules.length cr, .slice Az Zs.length cz, .slice Al a.links.length cl, .slice As a.shifts.length cs] ∧ Zs.map ZE.z = a.zones ∧ O = [rowR Ar cr a.rules, rowZ Az cz Zs, rowL Al cl a.links, rowS As cs a.shifts] ++ Zs.map eraRow) := by
 refine (copyR_spec Ar Az Al As cr cz cl cs a w hA hn).mono ?_
 rintro v O ⟨Ar, cr, Az, cz, Al, cl, As, cs, Zs, rfl, hz, rfl⟩
 exact ⟨Ar, cr, Az, cz, Al, cl, As, cs, Zs, by rw [srcV, ← hz, List.length_map], hz, rfl⟩
theorem cnt_at {w : World} {b bm : Nat} {mp : List (ByteArray × Value)} {names : List ByteArray} {t : TypeId} (h1 : (It.blk b [.map (some bm)] t).sat w) (h2 : (It.mp bm mp).sat w) (h3 : CntB mp names) : CntAt w ⟨b, 0, none⟩ names := ⟨bm, mp, by rw [blk_cell h1]; rfl, h2, h3⟩
theorem filter_z (Zs : List ZE) (p : DZone → Bool) : (Zs.filter fun q => p q.z).map ZE.z = (Zs.map ZE.z).filter p := by
 induction Zs with
 | nil => rfl
 | cons q Zs ih =>
  by_cases h : p q.z
  ·simp [h, ih]
  ·simp [h, ih]
set_option maxHeartbeats 4000000 in
theorem withoutR_spec (Ar Az Al As : Option Addr) (cr cz cl cs : Nat) (a : DSource) (An : Option Addr) (cn : Nat) (names : List ByteArray) (w : World) (hA : RdSource w Ar Az Al As cr cz cl cs a) (hN : RdSl w An cn strEnc 1 names) (hn : Fits a) (hnn : names.length ≤ 1000000) :
  Does Tryz.prog 73 [srcV Ar Az Al As cr cz cl cs a, .slice An names.length cn] w (NewSrcR (withoutD a names)) := by
 refine Does_of_W Tryz.func73 rfl rfl rfl rfl ?_
 repeat (first | ((apply RL_st; rfl; apply Stp_call (h := fun w' hw _ => copyR2_spec Ar Az Al As cr cz cl cs a w' (hA.up hw) hn); rfl; rintro v O' ⟨R1, r1, Z1, z1, L1, l1, H1, h1, Zs1, rfl, hZ1, rfl⟩); refine RL_tail ?_) | (refine js ?_; (first | (apply Stp_call (h := fun w' hw _ => counted_spec An cn names w' (hN.up hw) hnn); rfl; rintro v O' ⟨bm, mp, rfl, rfl, hmp⟩) | (refine bx ?_; intro bk))) | refine walk ?_)
 have hzl : Zs1.length ≤ 1000000 := by rw [← List.length_map (f := ZE.z), hZ1]; exact hn.z
 generalize bk = b5
 repeat (first | ((apply RL_st; rfl; apply Stp_call (h := fun w' hw hO => chosenZ_spec Z1 z1 Zs1 108 [] [.pointer (some ⟨b5, 0, none⟩)] (fun q => !memB q.z.name names) w' (rowRd ZE.len (hO.of (by repeat' constructor))) hzl (fun r w2 hw2 => fnW1_spec r ⟨b5, 0, none⟩ names w2 ((cnt_at (hO.of (A := .blk b5 _ _) (by repeat' constructor)) (hO.of (A := .mp bm mp) (by repeat' constructor)) hmp).up hw2))); rfl; rintro v O' ⟨Z2, z2, rfl, rfl⟩); refine RL_filtT (l := [_, _, _, _, _, _, _, _, _]) (fun q => !memB q.z.name names) ?_) | (refine js ?_; (first | (apply Stp_call (h := fun w' hw hO => chosenL_spec L1 l1 a.links 110 [] [.pointer (some ⟨b5, 0, none⟩)] (fun q => !memB q.name names) w' (rowRd DLink.len (hO.of (by repeat' constructor))) hn.l (fun r w2 hw2 => fnW2_spec r ⟨b5, 0, none⟩ names w2 ((cnt_at (hO.of (A := .blk b5 _ _) (by repeat' constructor)) (hO.of (A := .mp bm mp) (by repeat' constructor)) hmp).up hw2))); rfl; rintro v O' ⟨L2, l2, rfl, rfl⟩) | (refine bx ?_; intro bk))) | refine walk ?_)
 have hz : (Zs1.filter fun q => !memB q.z.name names).map ZE.z = (withoutD a names).zones := by rw [filter_z Zs1 (fun z => !memB z.name names), hZ1]; rfl
 have hl : (Zs1.filter fun q => !memB q.z.name names).length = (withoutD a names).zones.length := by rw [← hz, List.length_map]
 exact ret_1 _ (rowR R1 r1 a.rules :: rowZ Z2 z2 _ :: rowL L2 l2 _ :: rowS H1 h1 a.shifts :: (Zs1.filter fun q => !memB q.z.name names).map eraRow) (.cellB rfl (by repeat' constructor) rfl rfl) STA ⟨R1, r1, Z2, z2, L2, l2, H1, h1, _, by rw [srcV, ← hl]; rfl, hz, rfl⟩
theorem withoutP_spec (Ar Az Al As : Option Addr) (cr cz cl cs : Nat) (a : DSource) (An : Option Addr) (cn : Nat) (names : List ByteArray) (w : World) (hA : RdSource w Ar Az Al As cr cz cl cs a) (hN : RdSl w An cn strEnc 1 names) (hn : Fits a) (hnn : names.length ≤ 1000000) :
  Does Tryz.prog 73 [srcV Ar Az Al As cr cz cl cs a, .slice An names.length cn] w (NewSrc (withoutD a names)) := (withoutR_spec Ar Az Al As cr cz cl cs a An cn names w hA hN hn hnn).monoO fun _ _ h => newSrc_of h
end Go.Proofs.YtbjkhnlnedfceaaGreatDoor
