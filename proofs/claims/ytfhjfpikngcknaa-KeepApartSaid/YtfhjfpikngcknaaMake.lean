/- Contracts of functions that make slices: analemmaref16.Of, Names, ruleset.Names, slices.Clone. -/
import Derived.Test.YtfhjfpikngcknaaRead3
import Derived.Test.YtfhjfpikngcknaaWkI
namespace Go.Proofs.Ytfhjfpikngcknaa
open Go Go.RowKit Go.Wk
attribute [local irreducible] W RL Does thenQ blockQ retQ Calls Pu Stp RD Qy Ay


/-- The rules of a set. -/
def ofB (l : List DRule) (x : ByteArray) : List DRule := l.filter fun r => decide (r.name = x)

/-- A result that is a new slice. -/
def NewSl {α : Type} (e sz : Nat) (enc : α → List Value) (l : List α) (v : Value) (O : List It) : Prop := ∃ A c, v = .slice A l.length c ∧ O = [.row (.slice A l.length c) e sz l.length (l.flatMap enc)]

theorem of_spec (Ar Az Al As : Option Addr) (cr cz cl cs : Nat) (a : DSource) (set : ByteArray) (w : World) (hA : RdSource w Ar Az Al As cr cz cl cs a) (hn : a.rules.length ≤ 1000000) :
    Does Try.prog 47 [srcV Ar Az Al As cr cz cl cs a, .string set] w (NewSl 65 11 DRule.enc (ofB a.rules set)) := by
  generalize hres : ofB a.rules set = res
  refine Does_of_W Try.func47 rfl rfl rfl rfl ?_
  repeat (first | (apply RL_st; rfl; (first | (apply Stp_boxNf; rfl; (focus repeat (first | exact Nf.nil | apply Nf.cons)); intro bk) | (apply Stp_buildSliceC; rfl; rfl; rfl; rfl; (focus repeat (first | exact Nf.nil | apply Nf.cons)); intro bk))) | refine walk ?_)
  refine W_nil 65 11 ?_
  refine W_loopF [(1, _), (2, _), (4, _)] [_] (fun g : AG DRule => [(5, .slice g.A g.m g.c), (6, .int .i64 g.k)]) (fun g => [.row (.slice g.A g.m g.c) 65 11 g.m g.xs]) (fun g => g.k ≤ a.rules.length ∧ g.m = g.acc.length ∧ g.xs = g.acc.flatMap DRule.enc ∧ g.m ≤ g.k ∧ g.acc ++ ofB (a.rules.drop g.k) set = res) (fun g => a.rules.length - g.k) ⟨0, none, 0, 0, [], []⟩ ⟨rfl, rfl, rfl, rfl, rfl, trivial⟩ (.refl _) ⟨by simp, rfl, rfl, Nat.le_refl _, by simpa using hres⟩ ?_
  rintro ⟨k, A, c, m, xs, acc⟩ ⟨hk, hm, hx, hmk, hi⟩
  dsimp only at hk hm hx hmk hi ⊢
  repeat (first | (apply RL_st; rfl; (first | (apply Stp_boxNf; rfl; (focus repeat (first | exact Nf.nil | apply Nf.cons)); intro bk) | (apply Stp_buildSliceC; rfl; rfl; rfl; rfl; (focus repeat (first | exact Nf.nil | apply Nf.cons)); intro bk))) | refine walk ?_)
  refine W_cond rfl (fun hc => ?_) (fun hc => ?_)
  · simp only [decide_eq_true_eq, Int.ofNat_lt] at hc
    obtain ⟨hna, hca⟩ := hA.r.rd k _ (List.getElem?_eq_getElem hc)
    have hnb := hna
    have hcb := hca
    rw [drop_cons hc, ofB, List.filter_cons] at hi
    generalize a.rules[k] = r at *
    repeat (first | (apply RL_pu; rfl; (first | (apply Pu_indexAddr; rfl; rfl; omega; omega; (first | exact hna | exact hnb)) | (apply Pu_loadON; rfl; (first | exact hca | exact hcb); rfl) | (apply Pu_loadO1'; rfl; (first | exact hca | exact hcb); rfl) | (apply Pu_loadO1; rfl; (first | exact hca 0 _ rfl | exact hcb 0 _ rfl)))) | (apply RL_st; rfl; (first | (apply Stp_boxNf; rfl; (focus repeat (first | exact Nf.nil | apply Nf.cons)); intro bk) | (apply Stp_buildSliceC; rfl; rfl; rfl; rfl; (focus repeat (first | exact Nf.nil | apply Nf.cons)); intro bk))) | refine walk1 ?_)
    refine W_cond rfl (fun h3 => ?_) (fun h3 => ?_)
    · rw [if_pos h3] at hi
      repeat (first | (apply RL_pu; rfl; (first | (apply Pu_indexAddr; rfl; rfl; omega; omega; (first | exact hna | exact hnb)) | (apply Pu_loadON; rfl; (first | exact hca | exact hcb); rfl) | (apply Pu_loadO1'; rfl; (first | exact hca | exact hcb); rfl) | (apply Pu_loadO1; rfl; (first | exact hca 0 _ rfl | exact hcb 0 _ rfl)))) | (apply RL_st0; (apply Stp_append; rfl; rfl; (intro A' c'; (focus repeat' constructor)); (intro w' _ hO; exact blkRaw (hO.of (by (focus repeat' constructor)))); rfl; rfl; (simp only [maxLen]; omega); omega; intro A' c' hc1 hc2 hc3)) | (apply RL_st; rfl; (first | (apply Stp_append; rfl; rfl; (intro A' c'; (focus repeat' constructor)); (intro w' _ hO; exact blkRaw (hO.of (by (focus repeat' constructor)))); rfl; rfl; (simp only [maxLen]; omega); omega; intro A' c' hc1 hc2 hc3) | (apply Stp_boxNf; rfl; (focus repeat (first | exact Nf.nil | apply Nf.cons)); intro bk) | (apply Stp_buildSliceC; rfl; rfl; rfl; rfl; (focus repeat (first | exact Nf.nil | apply Nf.cons)); intro bk))) | refine walk1 ?_)
      exact ⟨⟨k + 1, A', c', m + 1, xs ++ r.enc, acc ++ [r]⟩, (by first | omega | (dsimp only; omega)), ⟨(by first | omega | (dsimp only; omega)), by simp [hm], by rw [hx]; exact flat_snoc acc r, (by first | omega | (dsimp only; omega)), by rw [← hi]; simp [ofB]⟩, (by repeat (first | exact trivial | refine ⟨rfl, ?_⟩)), (by first | exact .refl _ | focus repeat (first | exact SubO.nil | (apply SubO.cons; focus repeat' constructor)))⟩
    rw [h3] at hi
    repeat (first | (apply RL_st; rfl; (first | (apply Stp_boxNf; rfl; (focus repeat (first | exact Nf.nil | apply Nf.cons)); intro bk) | (apply Stp_buildSliceC; rfl; rfl; rfl; rfl; (focus repeat (first | exact Nf.nil | apply Nf.cons)); intro bk))) | refine walk ?_)
    exact ⟨⟨k + 1, A, c, m, xs, acc⟩, (by first | omega | (dsimp only; omega)), ⟨(by first | omega | (dsimp only; omega)), hm, hx, (by first | omega | (dsimp only; omega)), hi⟩, (by repeat (first | exact trivial | refine ⟨rfl, ?_⟩)), (by first | exact .refl _ | focus repeat (first | exact SubO.nil | (apply SubO.cons; focus repeat' constructor)))⟩
  simp only [decide_eq_false_iff_not, Int.ofNat_lt] at hc
  rw [List.drop_eq_nil_of_le (by omega)] at hi
  simp only [ofB, List.filter_nil, List.append_nil] at hi
  subst hi
  repeat (first | (apply RL_st; rfl; (first | (apply Stp_boxNf; rfl; (focus repeat (first | exact Nf.nil | apply Nf.cons)); intro bk) | (apply Stp_buildSliceC; rfl; rfl; rfl; rfl; (focus repeat (first | exact Nf.nil | apply Nf.cons)); intro bk))) | refine walk ?_)
  exact ret_1 _ [.row (.slice A acc.length c) 65 11 acc.length (acc.flatMap DRule.enc)] (.tmp rfl) (by subst hm hx; exact (by first | exact .refl _ | focus repeat (first | exact SubO.nil | (apply SubO.cons; focus repeat' constructor)))) ⟨A, c, by rw [hm], rfl⟩

/-- The names of all sets, in order. -/
def namesB : List DRule → List ByteArray → List ByteArray
  | [], acc => acc
  | r :: l, acc => if memB r.name acc then namesB l acc else namesB l (acc ++ [r.name])

theorem memB_snoc (x y : ByteArray) : ∀ l : List ByteArray, memB x (l ++ [y]) = (memB x l || decide (y = x))
  | [] => by simp [memB]
  | z :: l => by simp [memB, memB_snoc x y l, Bool.or_assoc]

theorem rnames_spec (Ar Az Al As : Option Addr) (cr cz cl cs : Nat) (a : DSource) (w : World) (hA : RdSource w Ar Az Al As cr cz cl cs a) (hn : a.rules.length ≤ 1000000) :
    Does Try.prog 43 [srcV Ar Az Al As cr cz cl cs a] w (NewSl 9 1 strEnc (namesB a.rules [])) := by
  generalize hres : namesB a.rules [] = res
  refine Does_of_W Try.func43 rfl rfl rfl rfl ?_
  repeat (first | (apply RL_st; rfl; (first | (apply Stp_boxNf; rfl; (focus repeat (first | exact Nf.nil | apply Nf.cons)); intro bk) | (apply Stp_buildSliceC; rfl; rfl; rfl; rfl; (focus repeat (first | exact Nf.nil | apply Nf.cons)); intro bk))) | refine walk ?_ | (refine RD_Lw ?_; intro F; (first | (apply Stp_boxNf; rfl; (focus repeat (first | exact Nf.nil | apply Nf.cons)); intro bk) | (apply Stp_buildSliceC; rfl; rfl; rfl; rfl; (focus repeat (first | exact Nf.nil | apply Nf.cons)); intro bk) | (apply Stp_pu; exact PuA)); refine ⟨_, EndsA, QFA, ?_⟩) | (apply RD_W; rfl; intro bk))
  refine W_nil 9 1 ?_
  refine W_loopF [(1, _), (2, _)] [_] (fun g : AG ByteArray => [(3, .slice g.A g.m g.c), (4, .int .i64 g.k)]) (fun g => [.row (.slice g.A g.m g.c) 9 1 g.m g.xs]) (fun g => g.k ≤ a.rules.length ∧ g.m = g.acc.length ∧ g.xs = g.acc.flatMap strEnc ∧ g.m ≤ g.k ∧ namesB (a.rules.drop g.k) g.acc = res) (fun g => a.rules.length - g.k) ⟨0, none, 0, 0, [], []⟩ ⟨rfl, rfl, rfl, rfl, trivial⟩ (.refl _) ⟨by simp, rfl, rfl, Nat.le_refl _, by simpa using hres⟩ ?_
  rintro ⟨k, A, c, m, xs, acc⟩ ⟨hk, hm, hx, hmk, hi⟩
  dsimp only at hk hm hx hmk hi ⊢
  repeat (first | (apply RL_st; rfl; (first | (apply Stp_boxNf; rfl; (focus repeat (first | exact Nf.nil | apply Nf.cons)); intro bk) | (apply Stp_buildSliceC; rfl; rfl; rfl; rfl; (focus repeat (first | exact Nf.nil | apply Nf.cons)); intro bk))) | refine walk ?_ | (refine RD_Lw ?_; intro F; (first | (apply Stp_boxNf; rfl; (focus repeat (first | exact Nf.nil | apply Nf.cons)); intro bk) | (apply Stp_buildSliceC; rfl; rfl; rfl; rfl; (focus repeat (first | exact Nf.nil | apply Nf.cons)); intro bk) | (apply Stp_pu; exact PuA)); refine ⟨_, EndsA, QFA, ?_⟩) | (apply RD_W; rfl; intro bk))
  refine W_cond rfl (fun hc => ?_) (fun hc => ?_)
  · simp only [decide_eq_true_eq, Int.ofNat_lt] at hc
    obtain ⟨hna, hca⟩ := hA.r.rd k _ (List.getElem?_eq_getElem hc)
    rw [drop_cons hc, namesB] at hi
    generalize a.rules[k] = r at *
    repeat (first | (apply RL_st; rfl; (first | (apply Stp_boxNf; rfl; (focus repeat (first | exact Nf.nil | apply Nf.cons)); intro bk) | (apply Stp_buildSliceC; rfl; rfl; rfl; rfl; (focus repeat (first | exact Nf.nil | apply Nf.cons)); intro bk))) | refine walk ?_ | (refine RD_Lw ?_; intro F; (first | (apply Stp_boxNf; rfl; (focus repeat (first | exact Nf.nil | apply Nf.cons)); intro bk) | (apply Stp_buildSliceC; rfl; rfl; rfl; rfl; (focus repeat (first | exact Nf.nil | apply Nf.cons)); intro bk) | (apply Stp_pu; exact PuA)); refine ⟨_, EndsA, QFA, ?_⟩) | (apply RD_W; rfl; intro bk))
    refine W_loopF [(1, _), (2, _), (3, _), (4, _)] [_, _] (fun g : Nat × Bool => [(5, .bool g.2), (6, .int .i64 g.1)]) (fun _ => []) (fun g => g.1 ≤ m ∧ (g.2 || memB r.name (acc.drop g.1)) = memB r.name acc) (fun g => m - g.1) (0, false) ⟨rfl, rfl, rfl, rfl, rfl, rfl, trivial⟩ (.refl _) ⟨by omega, by simp⟩ ?_
    rintro ⟨j, seen⟩ ⟨hj, hij⟩
    dsimp only at hj hij ⊢
    repeat (first | (apply RL_st; rfl; (first | (apply Stp_boxNf; rfl; (focus repeat (first | exact Nf.nil | apply Nf.cons)); intro bk) | (apply Stp_buildSliceC; rfl; rfl; rfl; rfl; (focus repeat (first | exact Nf.nil | apply Nf.cons)); intro bk))) | refine walk ?_ | (refine RD_Lw ?_; intro F; (first | (apply Stp_boxNf; rfl; (focus repeat (first | exact Nf.nil | apply Nf.cons)); intro bk) | (apply Stp_buildSliceC; rfl; rfl; rfl; rfl; (focus repeat (first | exact Nf.nil | apply Nf.cons)); intro bk) | (apply Stp_pu; exact PuA)); refine ⟨_, EndsA, QFA, ?_⟩) | (apply RD_W; rfl; intro bk))
    refine W_cond rfl (fun hc2 => ?_) (fun hc2 => ?_)
    · simp only [decide_eq_true_eq, Int.ofNat_lt] at hc2
      have hj2 : j < acc.length := by omega
      refine W_fact (fun w' _ hO => row_some (hO.of (by (focus repeat' constructor))) (by omega)) (fun hnb => ?_)
      rw [drop_cons hj2, memB] at hij
      have hg : xs[(j : Int).toNat * 1]? = some (.string acc[j]) := by
        rw [hx]
        exact flat_get strEnc.len acc j _ 0 _ (List.getElem?_eq_getElem hj2) rfl
      generalize acc[j] = y at *
      repeat (first | (apply RL_st; rfl; (first | (apply Stp_boxNf; rfl; (focus repeat (first | exact Nf.nil | apply Nf.cons)); intro bk) | (apply Stp_buildSliceC; rfl; rfl; rfl; rfl; (focus repeat (first | exact Nf.nil | apply Nf.cons)); intro bk))) | refine walk ?_ | (refine RD_Lw ?_; intro F; (first | (apply Stp_boxNf; rfl; (focus repeat (first | exact Nf.nil | apply Nf.cons)); intro bk) | (apply Stp_buildSliceC; rfl; rfl; rfl; rfl; (focus repeat (first | exact Nf.nil | apply Nf.cons)); intro bk) | (apply Stp_pu; exact PuA)); refine ⟨_, EndsA, QFA, ?_⟩) | (apply RD_W; rfl; intro bk))
      refine RD_split 21 rfl (fun h2 => ?_) (fun h2 => ?_)
      · repeat (first | (apply RL_st; rfl; (first | (apply Stp_boxNf; rfl; (focus repeat (first | exact Nf.nil | apply Nf.cons)); intro bk) | (apply Stp_buildSliceC; rfl; rfl; rfl; rfl; (focus repeat (first | exact Nf.nil | apply Nf.cons)); intro bk))) | refine walk ?_ | (refine RD_Lw ?_; intro F; (first | (apply Stp_boxNf; rfl; (focus repeat (first | exact Nf.nil | apply Nf.cons)); intro bk) | (apply Stp_buildSliceC; rfl; rfl; rfl; rfl; (focus repeat (first | exact Nf.nil | apply Nf.cons)); intro bk) | (apply Stp_pu; exact PuA)); refine ⟨_, EndsA, QFA, ?_⟩) | (apply RD_W; rfl; intro bk))
        exact ⟨(j + 1, true), (by first | omega | (dsimp only; omega)), ⟨(by first | omega | (dsimp only; omega)), by rw [← hij, h2]; simp⟩, (by repeat (first | exact trivial | refine ⟨rfl, ?_⟩)), (by first | exact .refl _ | focus repeat (first | exact SubO.nil | (apply SubO.cons; focus repeat' constructor)))⟩
      have hcb := hca
      repeat (first | (apply RL_pu; rfl; (first | (apply Pu_indexAddr; rfl; rfl; omega; omega; (first | exact hna | exact hnb)) | (apply Pu_loadON; rfl; (first | exact hca | exact hcb); rfl) | (apply Pu_loadO1'; rfl; (first | exact hca | exact hcb); rfl) | (apply Pu_loadO1; rfl; (first | exact hca 0 _ rfl | exact hcb 0 _ rfl)) | (apply Pu_loadR; rfl; (focus repeat' constructor); exact hg))) | (apply RL_st; rfl; (first | (apply Stp_boxNf; rfl; (focus repeat (first | exact Nf.nil | apply Nf.cons)); intro bk) | (apply Stp_buildSliceC; rfl; rfl; rfl; rfl; (focus repeat (first | exact Nf.nil | apply Nf.cons)); intro bk))) | (apply RD_Q; rfl; rfl; decide +kernel; rfl; rfl; (first | (apply Qy_y; rfl; (first | (apply Pu_indexAddr; rfl; rfl; omega; omega; (first | exact hna | exact hnb)) | (apply Pu_loadON; rfl; (first | exact hca | exact hcb); rfl) | (apply Pu_loadO1'; rfl; (first | exact hca | exact hcb); rfl) | (apply Pu_loadO1; rfl; (first | exact hca 0 _ rfl | exact hcb 0 _ rfl)) | (apply Pu_loadR; rfl; (focus repeat' constructor); exact hg))) | exact QyA)) | refine walk1 ?_ | (refine RD_Lw ?_; intro F; (first | (apply Stp_boxNf; rfl; (focus repeat (first | exact Nf.nil | apply Nf.cons)); intro bk) | (apply Stp_buildSliceC; rfl; rfl; rfl; rfl; (focus repeat (first | exact Nf.nil | apply Nf.cons)); intro bk) | (apply Stp_pu; first | (apply Pu_indexAddr; rfl; rfl; omega; omega; (first | exact hna | exact hnb)) | (apply Pu_loadON; rfl; (first | exact hca | exact hcb); rfl) | (apply Pu_loadO1'; rfl; (first | exact hca | exact hcb); rfl) | (apply Pu_loadO1; rfl; (first | exact hca 0 _ rfl | exact hcb 0 _ rfl)) | (apply Pu_loadR; rfl; (focus repeat' constructor); exact hg) | exact PuA)); refine ⟨_, EndsA, (by repeat (first | exact QF.nil | (apply QF.mk; rfl; rfl; decide +kernel; (first | (apply Qy_y; rfl; (first | (apply Pu_indexAddr; rfl; rfl; omega; omega; (first | exact hna | exact hnb)) | (apply Pu_loadON; rfl; (first | exact hca | exact hcb); rfl) | (apply Pu_loadO1'; rfl; (first | exact hca | exact hcb); rfl) | (apply Pu_loadO1; rfl; (first | exact hca 0 _ rfl | exact hcb 0 _ rfl)) | (apply Pu_loadR; rfl; (focus repeat' constructor); exact hg))) | exact QyA)))), ?_⟩) | (apply RD_W; rfl; intro bk))
      exact ⟨(j + 1, decide (y = r.name)), (by first | omega | (dsimp only; omega)), ⟨(by first | omega | (dsimp only; omega)), by rw [← hij, h2]; simp⟩, (by repeat (first | exact trivial | refine ⟨rfl, ?_⟩)), (by first | exact .refl _ | focus repeat (first | exact SubO.nil | (apply SubO.cons; focus repeat' constructor)))⟩
    simp only [decide_eq_false_iff_not, Int.ofNat_lt] at hc2
    rw [List.drop_eq_nil_of_le (by omega)] at hij
    simp only [memB, Bool.or_false] at hij
    repeat (first | (apply RL_st; rfl; (first | (apply Stp_boxNf; rfl; (focus repeat (first | exact Nf.nil | apply Nf.cons)); intro bk) | (apply Stp_buildSliceC; rfl; rfl; rfl; rfl; (focus repeat (first | exact Nf.nil | apply Nf.cons)); intro bk))) | refine walk ?_ | (refine RD_Lw ?_; intro F; (first | (apply Stp_boxNf; rfl; (focus repeat (first | exact Nf.nil | apply Nf.cons)); intro bk) | (apply Stp_buildSliceC; rfl; rfl; rfl; rfl; (focus repeat (first | exact Nf.nil | apply Nf.cons)); intro bk) | (apply Stp_pu; exact PuA)); refine ⟨_, EndsA, QFA, ?_⟩) | (apply RD_W; rfl; intro bk))
    refine W_cond rfl (fun h3 => ?_) (fun h3 => ?_)
    · have hnb := hna
      have hcb := hca
      simp only [Bool.not_eq_true'] at h3
      rw [← hij, h3] at hi
      repeat (first | (apply RL_pu; rfl; (first | (apply Pu_indexAddr; rfl; rfl; omega; omega; (first | exact hna | exact hnb)) | (apply Pu_loadON; rfl; (first | exact hca | exact hcb); rfl) | (apply Pu_loadO1'; rfl; (first | exact hca | exact hcb); rfl) | (apply Pu_loadO1; rfl; (first | exact hca 0 _ rfl | exact hcb 0 _ rfl)))) | (apply RL_st0; (apply Stp_append; rfl; rfl; (intro A' c'; (focus repeat' constructor)); (intro w' _ hO; exact blkRaw (hO.of (by (focus repeat' constructor)))); rfl; rfl; (simp only [maxLen]; omega); omega; intro A' c' hc1 hc2 hc3)) | (apply RL_st; rfl; (first | (apply Stp_append; rfl; rfl; (intro A' c'; (focus repeat' constructor)); (intro w' _ hO; exact blkRaw (hO.of (by (focus repeat' constructor)))); rfl; rfl; (simp only [maxLen]; omega); omega; intro A' c' hc1 hc2 hc3) | (apply Stp_boxNf; rfl; (focus repeat (first | exact Nf.nil | apply Nf.cons)); intro bk) | (apply Stp_buildSliceC; rfl; rfl; rfl; rfl; (focus repeat (first | exact Nf.nil | apply Nf.cons)); intro bk))) | (apply RD_Q; rfl; rfl; decide +kernel; rfl; rfl; (first | (apply Qy_y; rfl; (first | (apply Pu_indexAddr; rfl; rfl; omega; omega; (first | exact hna | exact hnb)) | (apply Pu_loadON; rfl; (first | exact hca | exact hcb); rfl) | (apply Pu_loadO1'; rfl; (first | exact hca | exact hcb); rfl) | (apply Pu_loadO1; rfl; (first | exact hca 0 _ rfl | exact hcb 0 _ rfl)))) | exact QyA)) | refine walk1 ?_ | (refine RD_Lw ?_; intro F; (first | (apply Stp_append; rfl; rfl; (intro A' c'; (focus repeat' constructor)); (intro w' _ hO; exact blkRaw (hO.of (by (focus repeat' constructor)))); rfl; rfl; (simp only [maxLen]; omega); omega; intro A' c' hc1 hc2 hc3) | (apply Stp_boxNf; rfl; (focus repeat (first | exact Nf.nil | apply Nf.cons)); intro bk) | (apply Stp_buildSliceC; rfl; rfl; rfl; rfl; (focus repeat (first | exact Nf.nil | apply Nf.cons)); intro bk) | (apply Stp_pu; first | (apply Pu_indexAddr; rfl; rfl; omega; omega; (first | exact hna | exact hnb)) | (apply Pu_loadON; rfl; (first | exact hca | exact hcb); rfl) | (apply Pu_loadO1'; rfl; (first | exact hca | exact hcb); rfl) | (apply Pu_loadO1; rfl; (first | exact hca 0 _ rfl | exact hcb 0 _ rfl)) | exact PuA)); refine ⟨_, EndsA, (by repeat (first | exact QF.nil | (apply QF.mk; rfl; rfl; decide +kernel; (first | (apply Qy_y; rfl; (first | (apply Pu_indexAddr; rfl; rfl; omega; omega; (first | exact hna | exact hnb)) | (apply Pu_loadON; rfl; (first | exact hca | exact hcb); rfl) | (apply Pu_loadO1'; rfl; (first | exact hca | exact hcb); rfl) | (apply Pu_loadO1; rfl; (first | exact hca 0 _ rfl | exact hcb 0 _ rfl)))) | exact QyA)))), ?_⟩) | (apply RD_W; rfl; intro bk))
      exact ⟨⟨k + 1, A', c', m + 1, xs ++ strEnc r.name, acc ++ [r.name]⟩, (by first | omega | (dsimp only; omega)), ⟨(by first | omega | (dsimp only; omega)), by simp [hm], by rw [hx]; exact flat_snoc acc r.name, (by first | omega | (dsimp only; omega)), by rw [← hi]; simp⟩, (by repeat (first | exact trivial | refine ⟨rfl, ?_⟩)), (by first | exact .refl _ | focus repeat (first | exact SubO.nil | (apply SubO.cons; focus repeat' constructor)))⟩
    simp only [Bool.not_eq_false'] at h3
    rw [← hij, h3] at hi
    repeat (first | (apply RL_st; rfl; (first | (apply Stp_boxNf; rfl; (focus repeat (first | exact Nf.nil | apply Nf.cons)); intro bk) | (apply Stp_buildSliceC; rfl; rfl; rfl; rfl; (focus repeat (first | exact Nf.nil | apply Nf.cons)); intro bk))) | refine walk ?_ | (refine RD_Lw ?_; intro F; (first | (apply Stp_boxNf; rfl; (focus repeat (first | exact Nf.nil | apply Nf.cons)); intro bk) | (apply Stp_buildSliceC; rfl; rfl; rfl; rfl; (focus repeat (first | exact Nf.nil | apply Nf.cons)); intro bk) | (apply Stp_pu; exact PuA)); refine ⟨_, EndsA, QFA, ?_⟩) | (apply RD_W; rfl; intro bk))
    exact ⟨⟨k + 1, A, c, m, xs, acc⟩, (by first | omega | (dsimp only; omega)), ⟨(by first | omega | (dsimp only; omega)), hm, hx, (by first | omega | (dsimp only; omega)), by rw [← hi]; simp⟩, (by repeat (first | exact trivial | refine ⟨rfl, ?_⟩)), (by first | exact .refl _ | focus repeat (first | exact SubO.nil | (apply SubO.cons; focus repeat' constructor)))⟩
  simp only [decide_eq_false_iff_not, Int.ofNat_lt] at hc
  rw [List.drop_eq_nil_of_le (by omega), namesB] at hi
  subst hi
  repeat (first | (apply RL_st; rfl; (first | (apply Stp_boxNf; rfl; (focus repeat (first | exact Nf.nil | apply Nf.cons)); intro bk) | (apply Stp_buildSliceC; rfl; rfl; rfl; rfl; (focus repeat (first | exact Nf.nil | apply Nf.cons)); intro bk))) | refine walk ?_ | (refine RD_Lw ?_; intro F; (first | (apply Stp_boxNf; rfl; (focus repeat (first | exact Nf.nil | apply Nf.cons)); intro bk) | (apply Stp_buildSliceC; rfl; rfl; rfl; rfl; (focus repeat (first | exact Nf.nil | apply Nf.cons)); intro bk) | (apply Stp_pu; exact PuA)); refine ⟨_, EndsA, QFA, ?_⟩) | (apply RD_W; rfl; intro bk))
  exact ret_1 _ [.row (.slice A acc.length c) 9 1 acc.length (acc.flatMap strEnc)] (.tmp rfl) (by subst hm hx; exact (by first | exact .refl _ | focus repeat (first | exact SubO.nil | (apply SubO.cons; focus repeat' constructor)))) ⟨A, c, by rw [hm], rfl⟩
end Go.Proofs.Ytfhjfpikngcknaa
