/- Contracts: keep.chosen at three types; the functions that choose. -/
import Derived.Test.YtfhjfpikngcknaaKeepN
namespace Go.Proofs.Ytfhjfpikngcknaa
open Go Go.RowKit Go.Wk
attribute [local irreducible] W RL Does thenQ blockQ retQ Calls Pu Stp RD Qy Ay DoesIn


theorem chosenR_spec (A : Option Addr) (c : Nat) (l : List DRule) (f : FuncId) [Body Try.prog f] (us cs : List Value) (p : DRule → Bool) (w : World) (hA : RdSl w A c DRule.enc 11 l) (hn : l.length ≤ 1000000)
    (hf : ∀ r w', Below w.heap.size w w' → Does Try.prog f (us ++ [.agg (DRule.enc r).toArray] ++ cs) w' (fun v O => v = .bool (p r) ∧ O = [])) :
    Does Try.prog 64 [.slice A l.length c, .func (.func f) us.toArray cs.toArray] w (NewSl 65 11 DRule.enc (l.filter p)) := by
  refine Does_of_W Try.func64 rfl rfl rfl rfl ?_
  repeat (first | (apply RL_st; rfl; (first | (apply Stp_alloc; intro bk) | (apply Stp_buildSliceC; rfl; rfl; rfl; rfl; (focus repeat (first | exact Nf.nil | apply Nf.cons)); intro bk))) | refine walk ?_)
  refine W_nil 65 11 ?_
  refine W_loopF [(1, _), (8, _), (9, _)] [] (fun g : AG DRule => [(10, .int .i64 g.k), (5, .slice g.A g.m g.c)]) (fun g => [.row (.slice g.A g.m g.c) 65 11 g.m g.xs]) (fun g => g.k ≤ l.length ∧ g.m = g.acc.length ∧ g.xs = g.acc.flatMap DRule.enc ∧ g.m ≤ g.k ∧ g.acc = (l.take g.k).filter p) (fun g => l.length - g.k) ⟨0, none, 0, 0, [], []⟩ (by repeat (first | exact trivial | refine ⟨rfl, ?_⟩)) (.refl _) ⟨by simp, rfl, rfl, Nat.le_refl _, by simp⟩ ?_
  rintro ⟨k, A2, c2, m2, x2, ac2⟩ ⟨hk2, hm2, hx2, hmk2, ha2⟩
  dsimp only at hk2 hm2 hx2 hmk2 ha2 ⊢
  repeat (first | (apply RL_st; rfl; (first | (apply Stp_alloc; intro bk) | (apply Stp_buildSliceC; rfl; rfl; rfl; rfl; (focus repeat (first | exact Nf.nil | apply Nf.cons)); intro bk))) | refine walk ?_)
  refine W_cond rfl (fun hc => ?_) (fun hc => ?_)
  · simp only [decide_eq_true_eq, Int.ofNat_lt] at hc
    obtain ⟨hna, hca⟩ := hA.rd k _ (List.getElem?_eq_getElem hc)
    have hnb := hna
    have hcb := hca
    have ht := take_filter hc p
    generalize l[k] = r at *
    repeat (first | (apply RL_pu; rfl; (first | (apply Pu_indexAddr; rfl; rfl; omega; omega; (first | exact hna | exact hnb)) | (apply Pu_loadON; rfl; (first | exact hca | exact hcb); rfl) | (apply Pu_loadO1'; rfl; (first | exact hca | exact hcb); rfl) | (apply Pu_loadO1; rfl; (first | exact hca 0 _ rfl | exact hcb 0 _ rfl)))) | (apply RL_st0; (apply Stp_callV (f := f) (us := us) (cs := cs) (vs := [.agg (DRule.enc r).toArray]) (h := fun w' hw _ => hf r w' hw); rfl; rfl; rintro v O' ⟨rfl, rfl⟩)) | (apply RL_st; rfl; (first | (apply Stp_callV (f := f) (us := us) (cs := cs) (vs := [.agg (DRule.enc r).toArray]) (h := fun w' hw _ => hf r w' hw); rfl; rfl; rintro v O' ⟨rfl, rfl⟩) | (apply Stp_alloc; intro bk) | (apply Stp_buildSliceC; rfl; rfl; rfl; rfl; (focus repeat (first | exact Nf.nil | apply Nf.cons)); intro bk))) | refine walk1 ?_)
    refine W_cond rfl (fun h3 => ?_) (fun h3 => ?_)
    · rw [h3] at ht
      repeat (first | (apply RL_pu; rfl; (first | (apply Pu_indexAddr; rfl; rfl; omega; omega; (first | exact hna | exact hnb)) | (apply Pu_loadON; rfl; (first | exact hca | exact hcb); rfl) | (apply Pu_loadO1'; rfl; (first | exact hca | exact hcb); rfl) | (apply Pu_loadO1; rfl; (first | exact hca 0 _ rfl | exact hcb 0 _ rfl)))) | (apply RL_st0; (apply Stp_append; rfl; rfl; (intro A' c'; (focus repeat' constructor)); (intro w' _ hO; exact blkRaw (hO.of (by (focus repeat' constructor)))); rfl; rfl; (simp only [maxLen]; omega); omega; intro A' c' hc1 hc2 hc3)) | (apply RL_st; rfl; (first | (apply Stp_append; rfl; rfl; (intro A' c'; (focus repeat' constructor)); (intro w' _ hO; exact blkRaw (hO.of (by (focus repeat' constructor)))); rfl; rfl; (simp only [maxLen]; omega); omega; intro A' c' hc1 hc2 hc3) | (apply Stp_alloc; intro bk) | (apply Stp_buildSliceC; rfl; rfl; rfl; rfl; (focus repeat (first | exact Nf.nil | apply Nf.cons)); intro bk))) | refine walk1 ?_)
      exact ⟨⟨k + 1, A', c', m2 + 1, x2 ++ DRule.enc r, ac2 ++ [r]⟩, (by first | omega | (dsimp only; omega)), ⟨(by first | omega | (dsimp only; omega)), by simp [hm2], by rw [hx2]; exact flat_snoc ac2 _, (by first | omega | (dsimp only; omega)), by rw [ha2, ht]; rfl⟩, (by repeat (first | exact trivial | refine ⟨rfl, ?_⟩)), (by first | exact .refl _ | focus repeat (first | exact SubO.nil | (apply SubO.cons; focus repeat' constructor)))⟩
    rw [h3] at ht
    repeat (first | (apply RL_st; rfl; (first | (apply Stp_alloc; intro bk) | (apply Stp_buildSliceC; rfl; rfl; rfl; rfl; (focus repeat (first | exact Nf.nil | apply Nf.cons)); intro bk))) | refine walk ?_)
    exact ⟨⟨k + 1, A2, c2, m2, x2, ac2⟩, (by first | omega | (dsimp only; omega)), ⟨(by first | omega | (dsimp only; omega)), hm2, hx2, (by first | omega | (dsimp only; omega)), by rw [ha2, ht]; simp⟩, (by repeat (first | exact trivial | refine ⟨rfl, ?_⟩)), (by first | exact .refl _ | focus repeat (first | exact SubO.nil | (apply SubO.cons; focus repeat' constructor)))⟩
  simp only [decide_eq_false_iff_not, Int.ofNat_lt] at hc
  rw [List.take_of_length_le (by omega)] at ha2
  subst hm2 hx2 ha2
  repeat (first | (apply RL_st; rfl; (first | (apply Stp_alloc; intro bk) | (apply Stp_buildSliceC; rfl; rfl; rfl; rfl; (focus repeat (first | exact Nf.nil | apply Nf.cons)); intro bk))) | refine walk ?_)
  exact ret_1 _ _ (.tmp rfl) (.refl _) ⟨A2, c2, rfl, rfl⟩

theorem chosenS_spec (A : Option Addr) (c : Nat) (l : List ByteArray) (f : FuncId) [Body Try.prog f] (us cs : List Value) (p : ByteArray → Bool) (w : World) (hA : RdSl w A c strEnc 1 l) (hn : l.length ≤ 1000000)
    (hf : ∀ r w', Below w.heap.size w w' → Does Try.prog f (us ++ [.string r] ++ cs) w' (fun v O => v = .bool (p r) ∧ O = [])) :
    Does Try.prog 66 [.slice A l.length c, .func (.func f) us.toArray cs.toArray] w (NewSl 9 1 strEnc (l.filter p)) := by
  refine Does_of_W Try.func66 rfl rfl rfl rfl ?_
  repeat (first | (apply RL_st; rfl; (apply Stp_buildSliceC; rfl; rfl; rfl; rfl; (focus repeat (first | exact Nf.nil | apply Nf.cons)); intro bk)) | refine walk ?_)
  refine W_nil 9 1 ?_
  refine W_loopF [(1, _), (8, _), (9, _)] [] (fun g : AG ByteArray => [(10, .int .i64 g.k), (5, .slice g.A g.m g.c)]) (fun g => [.row (.slice g.A g.m g.c) 9 1 g.m g.xs]) (fun g => g.k ≤ l.length ∧ g.m = g.acc.length ∧ g.xs = g.acc.flatMap strEnc ∧ g.m ≤ g.k ∧ g.acc = (l.take g.k).filter p) (fun g => l.length - g.k) ⟨0, none, 0, 0, [], []⟩ (by repeat (first | exact trivial | refine ⟨rfl, ?_⟩)) (.refl _) ⟨by simp, rfl, rfl, Nat.le_refl _, by simp⟩ ?_
  rintro ⟨k, A2, c2, m2, x2, ac2⟩ ⟨hk2, hm2, hx2, hmk2, ha2⟩
  dsimp only at hk2 hm2 hx2 hmk2 ha2 ⊢
  repeat (first | (apply RL_st; rfl; (apply Stp_buildSliceC; rfl; rfl; rfl; rfl; (focus repeat (first | exact Nf.nil | apply Nf.cons)); intro bk)) | refine walk ?_)
  refine W_cond rfl (fun hc => ?_) (fun hc => ?_)
  · simp only [decide_eq_true_eq, Int.ofNat_lt] at hc
    obtain ⟨hna, hca⟩ := hA.rd k _ (List.getElem?_eq_getElem hc)
    have hnb := hna
    have hcb := hca
    have ht := take_filter hc p
    generalize l[k] = r at *
    repeat (first | (apply RL_pu; rfl; (first | (apply Pu_indexAddr; rfl; rfl; omega; omega; (first | exact hna | exact hnb)) | (apply Pu_loadON; rfl; (first | exact hca | exact hcb); rfl) | (apply Pu_loadO1'; rfl; (first | exact hca | exact hcb); rfl) | (apply Pu_loadO1; rfl; (first | exact hca 0 _ rfl | exact hcb 0 _ rfl)))) | (apply RL_st0; (apply Stp_callV (f := f) (us := us) (cs := cs) (vs := [.string r]) (h := fun w' hw _ => hf r w' hw); rfl; rfl; rintro v O' ⟨rfl, rfl⟩)) | (apply RL_st; rfl; (first | (apply Stp_callV (f := f) (us := us) (cs := cs) (vs := [.string r]) (h := fun w' hw _ => hf r w' hw); rfl; rfl; rintro v O' ⟨rfl, rfl⟩) | (apply Stp_buildSliceC; rfl; rfl; rfl; rfl; (focus repeat (first | exact Nf.nil | apply Nf.cons)); intro bk))) | refine walk1 ?_)
    refine W_cond rfl (fun h3 => ?_) (fun h3 => ?_)
    · rw [h3] at ht
      repeat (first | (apply RL_pu; rfl; (first | (apply Pu_indexAddr; rfl; rfl; omega; omega; (first | exact hna | exact hnb)) | (apply Pu_loadON; rfl; (first | exact hca | exact hcb); rfl) | (apply Pu_loadO1'; rfl; (first | exact hca | exact hcb); rfl) | (apply Pu_loadO1; rfl; (first | exact hca 0 _ rfl | exact hcb 0 _ rfl)))) | (apply RL_st0; (apply Stp_append; rfl; rfl; (intro A' c'; (focus repeat' constructor)); (intro w' _ hO; exact blkRaw (hO.of (by (focus repeat' constructor)))); rfl; rfl; (simp only [maxLen]; omega); omega; intro A' c' hc1 hc2 hc3)) | (apply RL_st; rfl; (first | (apply Stp_append; rfl; rfl; (intro A' c'; (focus repeat' constructor)); (intro w' _ hO; exact blkRaw (hO.of (by (focus repeat' constructor)))); rfl; rfl; (simp only [maxLen]; omega); omega; intro A' c' hc1 hc2 hc3) | (apply Stp_buildSliceC; rfl; rfl; rfl; rfl; (focus repeat (first | exact Nf.nil | apply Nf.cons)); intro bk))) | refine walk1 ?_)
      exact ⟨⟨k + 1, A', c', m2 + 1, x2 ++ strEnc r, ac2 ++ [r]⟩, (by first | omega | (dsimp only; omega)), ⟨(by first | omega | (dsimp only; omega)), by simp [hm2], by rw [hx2]; exact flat_snoc ac2 _, (by first | omega | (dsimp only; omega)), by rw [ha2, ht]; rfl⟩, (by repeat (first | exact trivial | refine ⟨rfl, ?_⟩)), (by first | exact .refl _ | focus repeat (first | exact SubO.nil | (apply SubO.cons; focus repeat' constructor)))⟩
    rw [h3] at ht
    repeat (first | (apply RL_st; rfl; (apply Stp_buildSliceC; rfl; rfl; rfl; rfl; (focus repeat (first | exact Nf.nil | apply Nf.cons)); intro bk)) | refine walk ?_)
    exact ⟨⟨k + 1, A2, c2, m2, x2, ac2⟩, (by first | omega | (dsimp only; omega)), ⟨(by first | omega | (dsimp only; omega)), hm2, hx2, (by first | omega | (dsimp only; omega)), by rw [ha2, ht]; simp⟩, (by repeat (first | exact trivial | refine ⟨rfl, ?_⟩)), (by first | exact .refl _ | focus repeat (first | exact SubO.nil | (apply SubO.cons; focus repeat' constructor)))⟩
  simp only [decide_eq_false_iff_not, Int.ofNat_lt] at hc
  rw [List.take_of_length_le (by omega)] at ha2
  subst hm2 hx2 ha2
  repeat (first | (apply RL_st; rfl; (apply Stp_buildSliceC; rfl; rfl; rfl; rfl; (focus repeat (first | exact Nf.nil | apply Nf.cons)); intro bk)) | refine walk ?_)
  exact ret_1 _ _ (.tmp rfl) (.refl _) ⟨A2, c2, rfl, rfl⟩

theorem chosenL_spec (A : Option Addr) (c : Nat) (l : List DLink) (f : FuncId) [Body Try.prog f] (us cs : List Value) (p : DLink → Bool) (w : World) (hA : RdSl w A c DLink.enc 2 l) (hn : l.length ≤ 1000000)
    (hf : ∀ r w', Below w.heap.size w w' → Does Try.prog f (us ++ [.agg (DLink.enc r).toArray] ++ cs) w' (fun v O => v = .bool (p r) ∧ O = [])) :
    Does Try.prog 69 [.slice A l.length c, .func (.func f) us.toArray cs.toArray] w (NewSl 68 2 DLink.enc (l.filter p)) := by
  refine Does_of_W Try.func69 rfl rfl rfl rfl ?_
  repeat (first | (apply RL_st; rfl; (first | (apply Stp_alloc; intro bk) | (apply Stp_buildSliceC; rfl; rfl; rfl; rfl; (focus repeat (first | exact Nf.nil | apply Nf.cons)); intro bk))) | refine walk ?_)
  refine W_nil 68 2 ?_
  refine W_loopF [(1, _), (8, _), (9, _)] [] (fun g : AG DLink => [(10, .int .i64 g.k), (5, .slice g.A g.m g.c)]) (fun g => [.row (.slice g.A g.m g.c) 68 2 g.m g.xs]) (fun g => g.k ≤ l.length ∧ g.m = g.acc.length ∧ g.xs = g.acc.flatMap DLink.enc ∧ g.m ≤ g.k ∧ g.acc = (l.take g.k).filter p) (fun g => l.length - g.k) ⟨0, none, 0, 0, [], []⟩ (by repeat (first | exact trivial | refine ⟨rfl, ?_⟩)) (.refl _) ⟨by simp, rfl, rfl, Nat.le_refl _, by simp⟩ ?_
  rintro ⟨k, A2, c2, m2, x2, ac2⟩ ⟨hk2, hm2, hx2, hmk2, ha2⟩
  dsimp only at hk2 hm2 hx2 hmk2 ha2 ⊢
  repeat (first | (apply RL_st; rfl; (first | (apply Stp_alloc; intro bk) | (apply Stp_buildSliceC; rfl; rfl; rfl; rfl; (focus repeat (first | exact Nf.nil | apply Nf.cons)); intro bk))) | refine walk ?_)
  refine W_cond rfl (fun hc => ?_) (fun hc => ?_)
  · simp only [decide_eq_true_eq, Int.ofNat_lt] at hc
    obtain ⟨hna, hca⟩ := hA.rd k _ (List.getElem?_eq_getElem hc)
    have hnb := hna
    have hcb := hca
    have ht := take_filter hc p
    generalize l[k] = r at *
    repeat (first | (apply RL_pu; rfl; (first | (apply Pu_indexAddr; rfl; rfl; omega; omega; (first | exact hna | exact hnb)) | (apply Pu_loadON; rfl; (first | exact hca | exact hcb); rfl) | (apply Pu_loadO1'; rfl; (first | exact hca | exact hcb); rfl) | (apply Pu_loadO1; rfl; (first | exact hca 0 _ rfl | exact hcb 0 _ rfl)))) | (apply RL_st0; (apply Stp_callV (f := f) (us := us) (cs := cs) (vs := [.agg (DLink.enc r).toArray]) (h := fun w' hw _ => hf r w' hw); rfl; rfl; rintro v O' ⟨rfl, rfl⟩)) | (apply RL_st; rfl; (first | (apply Stp_callV (f := f) (us := us) (cs := cs) (vs := [.agg (DLink.enc r).toArray]) (h := fun w' hw _ => hf r w' hw); rfl; rfl; rintro v O' ⟨rfl, rfl⟩) | (apply Stp_alloc; intro bk) | (apply Stp_buildSliceC; rfl; rfl; rfl; rfl; (focus repeat (first | exact Nf.nil | apply Nf.cons)); intro bk))) | refine walk1 ?_)
    refine W_cond rfl (fun h3 => ?_) (fun h3 => ?_)
    · rw [h3] at ht
      repeat (first | (apply RL_pu; rfl; (first | (apply Pu_indexAddr; rfl; rfl; omega; omega; (first | exact hna | exact hnb)) | (apply Pu_loadON; rfl; (first | exact hca | exact hcb); rfl) | (apply Pu_loadO1'; rfl; (first | exact hca | exact hcb); rfl) | (apply Pu_loadO1; rfl; (first | exact hca 0 _ rfl | exact hcb 0 _ rfl)))) | (apply RL_st0; (apply Stp_append; rfl; rfl; (intro A' c'; (focus repeat' constructor)); (intro w' _ hO; exact blkRaw (hO.of (by (focus repeat' constructor)))); rfl; rfl; (simp only [maxLen]; omega); omega; intro A' c' hc1 hc2 hc3)) | (apply RL_st; rfl; (first | (apply Stp_append; rfl; rfl; (intro A' c'; (focus repeat' constructor)); (intro w' _ hO; exact blkRaw (hO.of (by (focus repeat' constructor)))); rfl; rfl; (simp only [maxLen]; omega); omega; intro A' c' hc1 hc2 hc3) | (apply Stp_alloc; intro bk) | (apply Stp_buildSliceC; rfl; rfl; rfl; rfl; (focus repeat (first | exact Nf.nil | apply Nf.cons)); intro bk))) | refine walk1 ?_)
      exact ⟨⟨k + 1, A', c', m2 + 1, x2 ++ DLink.enc r, ac2 ++ [r]⟩, (by first | omega | (dsimp only; omega)), ⟨(by first | omega | (dsimp only; omega)), by simp [hm2], by rw [hx2]; exact flat_snoc ac2 _, (by first | omega | (dsimp only; omega)), by rw [ha2, ht]; rfl⟩, (by repeat (first | exact trivial | refine ⟨rfl, ?_⟩)), (by first | exact .refl _ | focus repeat (first | exact SubO.nil | (apply SubO.cons; focus repeat' constructor)))⟩
    rw [h3] at ht
    repeat (first | (apply RL_st; rfl; (first | (apply Stp_alloc; intro bk) | (apply Stp_buildSliceC; rfl; rfl; rfl; rfl; (focus repeat (first | exact Nf.nil | apply Nf.cons)); intro bk))) | refine walk ?_)
    exact ⟨⟨k + 1, A2, c2, m2, x2, ac2⟩, (by first | omega | (dsimp only; omega)), ⟨(by first | omega | (dsimp only; omega)), hm2, hx2, (by first | omega | (dsimp only; omega)), by rw [ha2, ht]; simp⟩, (by repeat (first | exact trivial | refine ⟨rfl, ?_⟩)), (by first | exact .refl _ | focus repeat (first | exact SubO.nil | (apply SubO.cons; focus repeat' constructor)))⟩
  simp only [decide_eq_false_iff_not, Int.ofNat_lt] at hc
  rw [List.take_of_length_le (by omega)] at ha2
  subst hm2 hx2 ha2
  repeat (first | (apply RL_st; rfl; (first | (apply Stp_alloc; intro bk) | (apply Stp_buildSliceC; rfl; rfl; rfl; rfl; (focus repeat (first | exact Nf.nil | apply Nf.cons)); intro bk))) | refine walk ?_)
  exact ret_1 _ _ (.tmp rfl) (.refl _) ⟨A2, c2, rfl, rfl⟩

theorem chosenZ_spec (A : Option Addr) (c : Nat) (l : List ZE) (f : FuncId) [Body Try.prog f] (us cs : List Value) (p : ZE → Bool) (w : World) (hA : RdSl w A c ZE.enc 2 l) (hn : l.length ≤ 1000000)
    (hf : ∀ r w', Below w.heap.size w w' → Does Try.prog f (us ++ [.agg (ZE.enc r).toArray] ++ cs) w' (fun v O => v = .bool (p r) ∧ O = [])) :
    Does Try.prog 62 [.slice A l.length c, .func (.func f) us.toArray cs.toArray] w (NewSl 56 2 ZE.enc (l.filter p)) := by
  refine Does_of_W Try.func62 rfl rfl rfl rfl ?_
  repeat (first | (apply RL_st; rfl; (first | (apply Stp_alloc; intro bk) | (apply Stp_buildSliceC; rfl; rfl; rfl; rfl; (focus repeat (first | exact Nf.nil | apply Nf.cons)); intro bk))) | refine walk ?_)
  refine W_nil 56 2 ?_
  refine W_loopF [(1, _), (8, _), (9, _)] [] (fun g : AG ZE => [(10, .int .i64 g.k), (5, .slice g.A g.m g.c)]) (fun g => [.row (.slice g.A g.m g.c) 56 2 g.m g.xs]) (fun g => g.k ≤ l.length ∧ g.m = g.acc.length ∧ g.xs = g.acc.flatMap ZE.enc ∧ g.m ≤ g.k ∧ g.acc = (l.take g.k).filter p) (fun g => l.length - g.k) ⟨0, none, 0, 0, [], []⟩ (by repeat (first | exact trivial | refine ⟨rfl, ?_⟩)) (.refl _) ⟨by simp, rfl, rfl, Nat.le_refl _, by simp⟩ ?_
  rintro ⟨k, A2, c2, m2, x2, ac2⟩ ⟨hk2, hm2, hx2, hmk2, ha2⟩
  dsimp only at hk2 hm2 hx2 hmk2 ha2 ⊢
  repeat (first | (apply RL_st; rfl; (first | (apply Stp_alloc; intro bk) | (apply Stp_buildSliceC; rfl; rfl; rfl; rfl; (focus repeat (first | exact Nf.nil | apply Nf.cons)); intro bk))) | refine walk ?_)
  refine W_cond rfl (fun hc => ?_) (fun hc => ?_)
  · simp only [decide_eq_true_eq, Int.ofNat_lt] at hc
    obtain ⟨hna, hca⟩ := hA.rd k _ (List.getElem?_eq_getElem hc)
    have hnb := hna
    have hcb := hca
    have ht := take_filter hc p
    generalize l[k] = r at *
    repeat (first | (apply RL_pu; rfl; (first | (apply Pu_indexAddr; rfl; rfl; omega; omega; (first | exact hna | exact hnb)) | (apply Pu_loadON; rfl; (first | exact hca | exact hcb); rfl) | (apply Pu_loadO1'; rfl; (first | exact hca | exact hcb); rfl) | (apply Pu_loadO1; rfl; (first | exact hca 0 _ rfl | exact hcb 0 _ rfl)))) | (apply RL_st0; (apply Stp_callV (f := f) (us := us) (cs := cs) (vs := [.agg (ZE.enc r).toArray]) (h := fun w' hw _ => hf r w' hw); rfl; rfl; rintro v O' ⟨rfl, rfl⟩)) | (apply RL_st; rfl; (first | (apply Stp_callV (f := f) (us := us) (cs := cs) (vs := [.agg (ZE.enc r).toArray]) (h := fun w' hw _ => hf r w' hw); rfl; rfl; rintro v O' ⟨rfl, rfl⟩) | (apply Stp_alloc; intro bk) | (apply Stp_buildSliceC; rfl; rfl; rfl; rfl; (focus repeat (first | exact Nf.nil | apply Nf.cons)); intro bk))) | refine walk1 ?_)
    refine W_cond rfl (fun h3 => ?_) (fun h3 => ?_)
    · rw [h3] at ht
      repeat (first | (apply RL_pu; rfl; (first | (apply Pu_indexAddr; rfl; rfl; omega; omega; (first | exact hna | exact hnb)) | (apply Pu_loadON; rfl; (first | exact hca | exact hcb); rfl) | (apply Pu_loadO1'; rfl; (first | exact hca | exact hcb); rfl) | (apply Pu_loadO1; rfl; (first | exact hca 0 _ rfl | exact hcb 0 _ rfl)))) | (apply RL_st0; (apply Stp_append; rfl; rfl; (intro A' c'; (focus repeat' constructor)); (intro w' _ hO; exact blkRaw (hO.of (by (focus repeat' constructor)))); rfl; rfl; (simp only [maxLen]; omega); omega; intro A' c' hc1 hc2 hc3)) | (apply RL_st; rfl; (first | (apply Stp_append; rfl; rfl; (intro A' c'; (focus repeat' constructor)); (intro w' _ hO; exact blkRaw (hO.of (by (focus repeat' constructor)))); rfl; rfl; (simp only [maxLen]; omega); omega; intro A' c' hc1 hc2 hc3) | (apply Stp_alloc; intro bk) | (apply Stp_buildSliceC; rfl; rfl; rfl; rfl; (focus repeat (first | exact Nf.nil | apply Nf.cons)); intro bk))) | refine walk1 ?_)
      exact ⟨⟨k + 1, A', c', m2 + 1, x2 ++ ZE.enc r, ac2 ++ [r]⟩, (by first | omega | (dsimp only; omega)), ⟨(by first | omega | (dsimp only; omega)), by simp [hm2], by rw [hx2]; exact flat_snoc ac2 _, (by first | omega | (dsimp only; omega)), by rw [ha2, ht]; rfl⟩, (by repeat (first | exact trivial | refine ⟨rfl, ?_⟩)), (by first | exact .refl _ | focus repeat (first | exact SubO.nil | (apply SubO.cons; focus repeat' constructor)))⟩
    rw [h3] at ht
    repeat (first | (apply RL_st; rfl; (first | (apply Stp_alloc; intro bk) | (apply Stp_buildSliceC; rfl; rfl; rfl; rfl; (focus repeat (first | exact Nf.nil | apply Nf.cons)); intro bk))) | refine walk ?_)
    exact ⟨⟨k + 1, A2, c2, m2, x2, ac2⟩, (by first | omega | (dsimp only; omega)), ⟨(by first | omega | (dsimp only; omega)), hm2, hx2, (by first | omega | (dsimp only; omega)), by rw [ha2, ht]; simp⟩, (by repeat (first | exact trivial | refine ⟨rfl, ?_⟩)), (by first | exact .refl _ | focus repeat (first | exact SubO.nil | (apply SubO.cons; focus repeat' constructor)))⟩
  simp only [decide_eq_false_iff_not, Int.ofNat_lt] at hc
  rw [List.take_of_length_le (by omega)] at ha2
  subst hm2 hx2 ha2
  repeat (first | (apply RL_st; rfl; (first | (apply Stp_alloc; intro bk) | (apply Stp_buildSliceC; rfl; rfl; rfl; rfl; (focus repeat (first | exact Nf.nil | apply Nf.cons)); intro bk))) | refine walk ?_)
  exact ret_1 _ _ (.tmp rfl) (.refl _) ⟨A2, c2, rfl, rfl⟩

theorem Pu_castK {P : Program} {n : Nat} {wr : World} {fr : Fr} {O : List It} {op : Op} {ty : TypeId} {v v' : Value} (h : Pu P n wr fr O op ty v) (e : v = v') : Pu P n wr fr O op ty v' := e ▸ h
theorem mp_up {w w' : World} {b : Nat} {m : List (ByteArray × Value)} (h : (It.mp b m).sat w) (hb : Below w.heap.size w w') : (It.mp b m).sat w' := by
  obtain ⟨es, cl, h2, h3⟩ := h
  refine ⟨es, cl, ?_, h3⟩
  rw [hb.block b (Array.getElem?_eq_some_iff.1 h2).1]
  exact h2
/-- A cell that holds a map of counts, and the map. -/
def CntAt (w : World) (ad : Addr) (names : List ByteArray) : Prop := ∃ b m, w.cell? ad = some (.map (some b)) ∧ (It.mp b m).sat w ∧ CntB m names
theorem CntAt.up {w w' : World} {ad : Addr} {names : List ByteArray} (h : CntAt w ad names) (hb : Below w.heap.size w w') : CntAt w' ad names := by
  obtain ⟨b, m, h1, ⟨es, cl, h2, h3⟩, h4⟩ := h
  refine ⟨b, m, (hb.cell (World.block_lt_of_cell? w _ h1)).trans h1, ⟨es, cl, ?_, h3⟩, h4⟩
  rw [hb.block b (Array.getElem?_eq_some_iff.1 h2).1]
  exact h2
theorem fnZ1_spec (r : ZE) (ad : Addr) (names : List ByteArray) (w : World) (h : CntAt w ad names) : Does Try.prog 63 [.agg (ZE.enc r).toArray, .pointer (some ad)] w (fun v O => v = .bool (memB r.z.name names) ∧ O = []) := by
  obtain ⟨b, m, h1, h2, h3⟩ := h
  have hpos := cntB_pos r.z.name names
  refine Does_of_W Try.func63 rfl rfl rfl rfl ?_
  repeat (first | (apply RL_pu; rfl; (first | (apply Pu_loadO1; rfl; exact h1) | (apply Pu_castK; (apply Pu_lookupO (m := m); rfl; rfl; exact fun w' hb _ => mp_up h2 hb); exact h3 _))) | (apply RL_st; rfl; (apply Stp_boxNf; rfl; (focus repeat (first | exact Nf.nil | apply Nf.cons)); intro bk)) | refine walk1 ?_)
  exact ret_1 _ [] (.tmp rfl) .nil ⟨by rw [← hpos]; congr 1; simp, rfl⟩

theorem fnZ2_spec (r : DRule) (ad : Addr) (names : List ByteArray) (w : World) (h : CntAt w ad names) : Does Try.prog 65 [.agg (DRule.enc r).toArray, .pointer (some ad)] w (fun v O => v = .bool (memB r.name names) ∧ O = []) := by
  obtain ⟨b, m, h1, h2, h3⟩ := h
  have hpos := cntB_pos r.name names
  refine Does_of_W Try.func65 rfl rfl rfl rfl ?_
  repeat (first | (apply RL_pu; rfl; (first | (apply Pu_loadO1; rfl; exact h1) | (apply Pu_castK; (apply Pu_lookupO (m := m); rfl; rfl; exact fun w' hb _ => mp_up h2 hb); exact h3 _))) | (apply RL_st; rfl; (apply Stp_boxNf; rfl; (focus repeat (first | exact Nf.nil | apply Nf.cons)); intro bk)) | refine walk1 ?_)
  exact ret_1 _ [] (.tmp rfl) .nil ⟨by rw [← hpos]; congr 1; simp, rfl⟩

theorem fnZ3_spec (r : ByteArray) (ad : Addr) (names : List ByteArray) (w : World) (h : CntAt w ad names) : Does Try.prog 67 [.string r, .pointer (some ad)] w (fun v O => v = .bool (memB r names) ∧ O = []) := by
  obtain ⟨b, m, h1, h2, h3⟩ := h
  have hpos := cntB_pos r names
  refine Does_of_W Try.func67 rfl rfl rfl rfl ?_
  repeat (first | (apply RL_pu; rfl; (first | (apply Pu_loadO1; rfl; exact h1) | (apply Pu_castK; (apply Pu_lookupO (m := m); rfl; rfl; exact fun w' hb _ => mp_up h2 hb); exact h3 _))) | refine walk1 ?_)
  exact ret_1 _ [] (.tmp rfl) .nil ⟨by rw [← hpos]; congr 1; simp, rfl⟩

theorem fnW1_spec (r : ZE) (ad : Addr) (names : List ByteArray) (w : World) (h : CntAt w ad names) : Does Try.prog 68 [.agg (ZE.enc r).toArray, .pointer (some ad)] w (fun v O => v = .bool (!memB r.z.name names) ∧ O = []) := by
  obtain ⟨b, m, h1, h2, h3⟩ := h
  have hpos := cntB_pos r.z.name names
  refine Does_of_W Try.func68 rfl rfl rfl rfl ?_
  repeat (first | (apply RL_pu; rfl; (first | (apply Pu_loadO1; rfl; exact h1) | (apply Pu_castK; (apply Pu_lookupO (m := m); rfl; rfl; exact fun w' hb _ => mp_up h2 hb); exact h3 _))) | (apply RL_st; rfl; (apply Stp_boxNf; rfl; (focus repeat (first | exact Nf.nil | apply Nf.cons)); intro bk)) | refine walk1 ?_)
  exact ret_1 _ [] (.tmp rfl) .nil ⟨by rw [← hpos]; congr 1; rw [Bool.eq_iff_iff]; simp, rfl⟩

theorem fnW2_spec (r : DLink) (ad : Addr) (names : List ByteArray) (w : World) (h : CntAt w ad names) : Does Try.prog 70 [.agg (DLink.enc r).toArray, .pointer (some ad)] w (fun v O => v = .bool (!memB r.name names) ∧ O = []) := by
  obtain ⟨b, m, h1, h2, h3⟩ := h
  have hpos := cntB_pos r.name names
  refine Does_of_W Try.func70 rfl rfl rfl rfl ?_
  repeat (first | (apply RL_pu; rfl; (first | (apply Pu_loadO1; rfl; exact h1) | (apply Pu_castK; (apply Pu_lookupO (m := m); rfl; rfl; exact fun w' hb _ => mp_up h2 hb); exact h3 _))) | (apply RL_st; rfl; (apply Stp_boxNf; rfl; (focus repeat (first | exact Nf.nil | apply Nf.cons)); intro bk)) | refine walk1 ?_)
  exact ret_1 _ [] (.tmp rfl) .nil ⟨by rw [← hpos]; congr 1; rw [Bool.eq_iff_iff]; simp, rfl⟩

end Go.Proofs.Ytfhjfpikngcknaa
