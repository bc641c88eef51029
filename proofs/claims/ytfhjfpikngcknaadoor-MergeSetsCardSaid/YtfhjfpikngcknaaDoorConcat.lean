/- Contracts: slices.Grow on nil, slices.Concat, at links and zones. -/
import Derived.Test.YtfhjfpikngcknaaDoorCopy
import Derived.Test.YtfhjfpikngcknaaDoorWkI
namespace Go.Proofs.YtfhjfpikngcknaaDoor
open Go Go.RowKit Go.Wk
attribute [local irreducible] W RL Does thenQ blockQ retQ Calls Pu Stp RD Qy Ay


/-- A slice among slices. -/
structure SE (α : Type) where
  l : List α
  A : Option Addr
  c : Nat
def SE.enc {α : Type} (q : SE α) : List Value := [.slice q.A q.l.length q.c]
theorem SE.len {α : Type} (q : SE α) : q.enc.length = 1 := rfl
def tot {α : Type} : List (SE α) → Nat
  | [] => 0
  | q :: r => q.l.length + tot r
def flatE {α : Type} : List (SE α) → List α
  | [] => []
  | q :: r => q.l ++ flatE r

theorem growL_spec (k : Nat) (w : World) (hk : k ≤ 10000000) : Does Tryd.prog 37 [.slice none 0 0, .int .i64 k] w (fun v O => ∃ A c, v = .slice A 0 c ∧ O = [.row (.slice A 0 c) 39 2 0 []]) := by
  refine Does_of_W Tryd.func37 rfl rfl rfl rfl ?_
  repeat (first | refine walk ?_)
  refine W_cond rfl (fun h2 => ?_) (fun h2 => ?_)
  · simp only [decide_eq_true_eq] at h2
    repeat (first | (apply RL_st0; (apply Stp_appendZ (k := k); rfl; rfl; omega; omega; (simp only [maxLen]; omega); omega; intro b c' hc1 hc2)) | (apply RL_st; rfl; (apply Stp_appendZ (k := k); rfl; rfl; omega; omega; (simp only [maxLen]; omega); omega; intro b c' hc1 hc2)) | refine walk ?_)
    exact ret_1 _ _ (.tmp rfl) (.refl _) ⟨_, _, rfl, rfl⟩
  refine W_nil 39 2 ?_
  repeat (first | refine walk ?_)
  exact ret_1 _ _ (.tmp rfl) (.refl _) ⟨_, _, rfl, rfl⟩

theorem concatL_spec (A : Option Addr) (c : Nat) (vs : List (SE DLink)) (w : World) (hA : RdSl w A c SE.enc 1 vs) (hV : ∀ q ∈ vs, RdSl w q.A q.c DLink.enc 2 q.l) (hn : tot vs ≤ 10000000) (hn2 : vs.length ≤ 1000000) :
    Does Tryd.prog 20 [.slice A vs.length c] w (NewSl 39 2 DLink.enc (flatE vs)) := by
  refine Does_of_W Tryd.func20 rfl rfl rfl rfl ?_
  repeat (first | refine walk ?_)
  refine W_loopF [(0, _), (9, _), (10, _)] [] (fun g : Nat × Nat => [(3, .int .i64 g.2), (11, .int .i64 g.1)]) (fun _ => []) (fun g => g.1 ≤ vs.length ∧ g.2 + tot (vs.drop g.1) = tot vs) (fun g => vs.length - g.1) (0, 0) ⟨rfl, rfl, rfl, rfl, rfl, trivial⟩ .nil ⟨by simp, by simp⟩ ?_
  rintro ⟨k, s⟩ ⟨hk, hi⟩
  dsimp only at hk hi ⊢
  repeat (first | refine walk ?_)
  refine W_cond rfl (fun hc => ?_) (fun hc => ?_)
  · simp only [decide_eq_true_eq, Int.ofNat_lt] at hc
    obtain ⟨hna, hca⟩ := hA.rd k _ (List.getElem?_eq_getElem hc)
    have hnb := hna
    have hcb := hca
    rw [drop_cons hc, tot] at hi
    generalize vs[k] = q at *
    repeat (first | (apply RL_pu; rfl; (first | (apply Pu_indexAddr; rfl; rfl; omega; omega; (first | exact hna | exact hnb)) | (apply Pu_loadON; rfl; (first | exact hca | exact hcb); rfl) | (apply Pu_loadO1'; rfl; (first | exact hca | exact hcb); rfl) | (apply Pu_loadO1; rfl; (first | exact hca 0 _ rfl | exact hcb 0 _ rfl)))) | refine walk1 ?_)
    exact ⟨(k + 1, s + q.l.length), (by first | omega | (dsimp only; omega)), ⟨(by first | omega | (dsimp only; omega)), by dsimp only; omega⟩, (by repeat (first | exact trivial | refine ⟨rfl, ?_⟩)), (by first | exact .refl _ | focus repeat (first | exact SubO.nil | (apply SubO.cons; focus repeat' constructor)))⟩
  simp only [decide_eq_false_iff_not, Int.ofNat_lt] at hc
  rw [List.drop_eq_nil_of_le (by omega), tot] at hi
  repeat (first | (apply RL_st0; (apply Stp_call (h := fun w' _ _ => growL_spec s w' (by omega)); rfl; rintro v O' ⟨A1, c1, rfl, rfl⟩)) | (apply RL_st; rfl; (apply Stp_call (h := fun w' _ _ => growL_spec s w' (by omega)); rfl; rintro v O' ⟨A1, c1, rfl, rfl⟩)) | refine walk ?_)
  refine W_loopF [(25, _), (26, _)] [] (fun g : AG DLink => [(6, .slice g.A g.m g.c), (27, .int .i64 g.k)]) (fun g => [.row (.slice g.A g.m g.c) 39 2 g.m g.xs]) (fun g => g.k ≤ vs.length ∧ g.m = g.acc.length ∧ g.xs = g.acc.flatMap DLink.enc ∧ g.m + tot (vs.drop g.k) = tot vs ∧ g.acc ++ flatE (vs.drop g.k) = flatE vs) (fun g => vs.length - g.k) ⟨0, A1, c1, 0, [], []⟩ ⟨rfl, rfl, rfl, rfl, trivial⟩ (by first | exact .refl _ | focus repeat (first | exact SubO.nil | (apply SubO.cons; focus repeat' constructor))) ⟨by simp, rfl, rfl, by simp, by simp⟩ ?_
  clear hk hc hi
  rintro ⟨k, A2, c2, m, xs, acc⟩ ⟨hk, hm, hx, hi, hj⟩
  dsimp only at hk hm hx hi hj ⊢
  repeat (first | refine walk ?_)
  refine W_cond rfl (fun hc => ?_) (fun hc => ?_)
  · simp only [decide_eq_true_eq, Int.ofNat_lt] at hc
    obtain ⟨hna, hca⟩ := hA.rd k _ (List.getElem?_eq_getElem hc)
    have hnb := hna
    have hcb := hca
    have hq := hV _ (List.getElem_mem hc)
    rw [drop_cons hc, tot] at hi
    rw [drop_cons hc, flatE] at hj
    generalize vs[k] = q at *
    repeat (first | (apply RL_pu; rfl; (first | (apply Pu_indexAddr; rfl; rfl; omega; omega; (first | exact hna | exact hnb)) | (apply Pu_loadON; rfl; (first | exact hca | exact hcb); rfl) | (apply Pu_loadO1'; rfl; (first | exact hca | exact hcb); rfl) | (apply Pu_loadO1; rfl; (first | exact hca 0 _ rfl | exact hcb 0 _ rfl)))) | (apply RL_st0; (apply Stp_append (xs := xs); rfl; rfl; (intro A' c'; (focus repeat' constructor)); (intro w' hw _; exact (hq.up hw).rd.raw DLink.len (by decide)); exact flat_len DLink.len _; exact all_flat oneL _; (simp only [maxLen]; omega); omega; intro A' c' hc1 hc2 hc3)) | (apply RL_st; rfl; (apply Stp_append (xs := xs); rfl; rfl; (intro A' c'; (focus repeat' constructor)); (intro w' hw _; exact (hq.up hw).rd.raw DLink.len (by decide)); exact flat_len DLink.len _; exact all_flat oneL _; (simp only [maxLen]; omega); omega; intro A' c' hc1 hc2 hc3)) | refine walk1 ?_)
    exact ⟨⟨k + 1, A', c', m + q.l.length, xs ++ q.l.flatMap DLink.enc, acc ++ q.l⟩, (by first | omega | (dsimp only; omega)), ⟨(by first | omega | (dsimp only; omega)), by simp [hm], by rw [hx]; simp, by dsimp only; omega, by rw [← hj]; simp⟩, (by repeat (first | exact trivial | refine ⟨rfl, ?_⟩)), (by first | exact .refl _ | focus repeat (first | exact SubO.nil | (apply SubO.cons; focus repeat' constructor)))⟩
  simp only [decide_eq_false_iff_not, Int.ofNat_lt] at hc
  rw [List.drop_eq_nil_of_le (by omega), flatE, List.append_nil] at hj
  repeat (first | refine walk ?_)
  subst hm hx
  exact ret_1 _ [rowL A2 c2 acc] (.tmp rfl) (by first | exact .refl _ | focus repeat (first | exact SubO.nil | (apply SubO.cons; focus repeat' constructor))) ⟨A2, c2, by rw [← hj], by rw [← hj]⟩
/-! The same of zones. -/
theorem growZ_spec (k : Nat) (w : World) (hk : k ≤ 10000000) : Does Tryd.prog 38 [.slice none 0 0, .int .i64 k] w (fun v O => ∃ A c, v = .slice A 0 c ∧ O = [.row (.slice A 0 c) 37 2 0 []]) := by
  refine Does_of_W Tryd.func38 rfl rfl rfl rfl ?_
  repeat (first | refine walk ?_)
  refine W_cond rfl (fun h2 => ?_) (fun h2 => ?_)
  · simp only [decide_eq_true_eq] at h2
    repeat (first | (apply RL_st0; (apply Stp_appendZ (k := k); rfl; rfl; omega; omega; (simp only [maxLen]; omega); omega; intro b c' hc1 hc2)) | (apply RL_st; rfl; (apply Stp_appendZ (k := k); rfl; rfl; omega; omega; (simp only [maxLen]; omega); omega; intro b c' hc1 hc2)) | refine walk ?_)
    exact ret_1 _ _ (.tmp rfl) (.refl _) ⟨_, _, rfl, rfl⟩
  refine W_nil 37 2 ?_
  repeat (first | refine walk ?_)
  exact ret_1 _ _ (.tmp rfl) (.refl _) ⟨_, _, rfl, rfl⟩

theorem concatZ_spec (A : Option Addr) (c : Nat) (vs : List (SE ZE)) (w : World) (hA : RdSl w A c SE.enc 1 vs) (hV : ∀ q ∈ vs, RdSl w q.A q.c ZE.enc 2 q.l) (hn : tot vs ≤ 10000000) (hn2 : vs.length ≤ 1000000) :
    Does Tryd.prog 23 [.slice A vs.length c] w (NewSl 37 2 ZE.enc (flatE vs)) := by
  refine Does_of_W Tryd.func23 rfl rfl rfl rfl ?_
  repeat (first | refine walk ?_)
  refine W_loopF [(0, _), (9, _), (10, _)] [] (fun g : Nat × Nat => [(3, .int .i64 g.2), (11, .int .i64 g.1)]) (fun _ => []) (fun g => g.1 ≤ vs.length ∧ g.2 + tot (vs.drop g.1) = tot vs) (fun g => vs.length - g.1) (0, 0) ⟨rfl, rfl, rfl, rfl, rfl, trivial⟩ .nil ⟨by simp, by simp⟩ ?_
  rintro ⟨k, s⟩ ⟨hk, hi⟩
  dsimp only at hk hi ⊢
  repeat (first | refine walk ?_)
  refine W_cond rfl (fun hc => ?_) (fun hc => ?_)
  · simp only [decide_eq_true_eq, Int.ofNat_lt] at hc
    obtain ⟨hna, hca⟩ := hA.rd k _ (List.getElem?_eq_getElem hc)
    have hnb := hna
    have hcb := hca
    rw [drop_cons hc, tot] at hi
    generalize vs[k] = q at *
    repeat (first | (apply RL_pu; rfl; (first | (apply Pu_indexAddr; rfl; rfl; omega; omega; (first | exact hna | exact hnb)) | (apply Pu_loadON; rfl; (first | exact hca | exact hcb); rfl) | (apply Pu_loadO1'; rfl; (first | exact hca | exact hcb); rfl) | (apply Pu_loadO1; rfl; (first | exact hca 0 _ rfl | exact hcb 0 _ rfl)))) | refine walk1 ?_)
    exact ⟨(k + 1, s + q.l.length), (by first | omega | (dsimp only; omega)), ⟨(by first | omega | (dsimp only; omega)), by dsimp only; omega⟩, (by repeat (first | exact trivial | refine ⟨rfl, ?_⟩)), (by first | exact .refl _ | focus repeat (first | exact SubO.nil | (apply SubO.cons; focus repeat' constructor)))⟩
  simp only [decide_eq_false_iff_not, Int.ofNat_lt] at hc
  rw [List.drop_eq_nil_of_le (by omega), tot] at hi
  repeat (first | (apply RL_st0; (apply Stp_call (h := fun w' _ _ => growZ_spec s w' (by omega)); rfl; rintro v O' ⟨A1, c1, rfl, rfl⟩)) | (apply RL_st; rfl; (apply Stp_call (h := fun w' _ _ => growZ_spec s w' (by omega)); rfl; rintro v O' ⟨A1, c1, rfl, rfl⟩)) | refine walk ?_)
  refine W_loopF [(25, _), (26, _)] [] (fun g : AG ZE => [(6, .slice g.A g.m g.c), (27, .int .i64 g.k)]) (fun g => [.row (.slice g.A g.m g.c) 37 2 g.m g.xs]) (fun g => g.k ≤ vs.length ∧ g.m = g.acc.length ∧ g.xs = g.acc.flatMap ZE.enc ∧ g.m + tot (vs.drop g.k) = tot vs ∧ g.acc ++ flatE (vs.drop g.k) = flatE vs) (fun g => vs.length - g.k) ⟨0, A1, c1, 0, [], []⟩ ⟨rfl, rfl, rfl, rfl, trivial⟩ (by first | exact .refl _ | focus repeat (first | exact SubO.nil | (apply SubO.cons; focus repeat' constructor))) ⟨by simp, rfl, rfl, by simp, by simp⟩ ?_
  clear hk hc hi
  rintro ⟨k, A2, c2, m, xs, acc⟩ ⟨hk, hm, hx, hi, hj⟩
  dsimp only at hk hm hx hi hj ⊢
  repeat (first | refine walk ?_)
  refine W_cond rfl (fun hc => ?_) (fun hc => ?_)
  · simp only [decide_eq_true_eq, Int.ofNat_lt] at hc
    obtain ⟨hna, hca⟩ := hA.rd k _ (List.getElem?_eq_getElem hc)
    have hnb := hna
    have hcb := hca
    have hq := hV _ (List.getElem_mem hc)
    rw [drop_cons hc, tot] at hi
    rw [drop_cons hc, flatE] at hj
    generalize vs[k] = q at *
    repeat (first | (apply RL_pu; rfl; (first | (apply Pu_indexAddr; rfl; rfl; omega; omega; (first | exact hna | exact hnb)) | (apply Pu_loadON; rfl; (first | exact hca | exact hcb); rfl) | (apply Pu_loadO1'; rfl; (first | exact hca | exact hcb); rfl) | (apply Pu_loadO1; rfl; (first | exact hca 0 _ rfl | exact hcb 0 _ rfl)))) | (apply RL_st0; (apply Stp_append (xs := xs); rfl; rfl; (intro A' c'; (focus repeat' constructor)); (intro w' hw _; exact (hq.up hw).rd.raw ZE.len (by decide)); exact flat_len ZE.len _; exact all_flat oneZ _; (simp only [maxLen]; omega); omega; intro A' c' hc1 hc2 hc3)) | (apply RL_st; rfl; (apply Stp_append (xs := xs); rfl; rfl; (intro A' c'; (focus repeat' constructor)); (intro w' hw _; exact (hq.up hw).rd.raw ZE.len (by decide)); exact flat_len ZE.len _; exact all_flat oneZ _; (simp only [maxLen]; omega); omega; intro A' c' hc1 hc2 hc3)) | refine walk1 ?_)
    exact ⟨⟨k + 1, A', c', m + q.l.length, xs ++ q.l.flatMap ZE.enc, acc ++ q.l⟩, (by first | omega | (dsimp only; omega)), ⟨(by first | omega | (dsimp only; omega)), by simp [hm], by rw [hx]; simp, by dsimp only; omega, by rw [← hj]; simp⟩, (by repeat (first | exact trivial | refine ⟨rfl, ?_⟩)), (by first | exact .refl _ | focus repeat (first | exact SubO.nil | (apply SubO.cons; focus repeat' constructor)))⟩
  simp only [decide_eq_false_iff_not, Int.ofNat_lt] at hc
  rw [List.drop_eq_nil_of_le (by omega), flatE, List.append_nil] at hj
  repeat (first | refine walk ?_)
  subst hm hx
  exact ret_1 _ [rowZ A2 c2 acc] (.tmp rfl) (by first | exact .refl _ | focus repeat (first | exact SubO.nil | (apply SubO.cons; focus repeat' constructor))) ⟨A2, c2, by rw [← hj], by rw [← hj]⟩
end Go.Proofs.YtfhjfpikngcknaaDoor
