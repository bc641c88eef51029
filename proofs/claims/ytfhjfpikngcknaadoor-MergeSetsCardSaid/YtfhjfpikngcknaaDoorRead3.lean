/- Contracts: analemmaref34.taken, slices.Index, Contains, Equal, IndexFunc, merge.check's closure. -/
import Derived.Test.YtfhjfpikngcknaaDoorRead2
namespace Go.Proofs.YtfhjfpikngcknaaDoor
open Go Go.RowKit Go.Wk
attribute [local irreducible] W RL Does thenQ blockQ retQ Calls Pu Stp RD Qy Ay


def takenB (x : ByteArray) (s : DSource) : Bool := memB x (s.zones.map (·.name)) || memB x (s.links.map (·.name))

/-- The index of the first element that meets p, or -1. -/
def findI {α : Type} (p : α → Bool) : List α → Nat → Int
  | [], _ => -1
  | x :: l, k => if p x then k else findI p l (k + 1)

theorem index_spec (A : Option Addr) (c : Nat) (l : List ByteArray) (x : ByteArray) (w : World) (hA : RdSl w A c strEnc 1 l) :
    Does Tryd.prog 39 [.slice A l.length c, .string x] w (fun v O => v = .int .i64 (findI (fun y => decide (x = y)) l 0) ∧ O = []) := by
  have hs1 := hA.le
  have hs2 := hA.cap
  unfold maxLen at hs2
  generalize hres : findI (fun y => decide (x = y)) l 0 = res
  refine Does_of_W Tryd.func39 rfl rfl rfl rfl ?_
  repeat (first | refine walk ?_)
  refine W_loopF [(0, _), (1, _), (4, _), (7, _)] _ (fun k : Nat => [(8, .int .i64 k)]) (fun _ => []) (fun k => k ≤ l.length ∧ findI (fun y => decide (x = y)) (l.drop k) k = res) (fun k => l.length - k) 0 ⟨rfl, rfl, rfl, rfl, rfl, trivial⟩ (.refl _) ⟨by omega, by simpa using hres⟩ ?_
  rintro k ⟨hk, hi⟩
  repeat (first | refine walk ?_)
  refine W_cond rfl (fun hc => ?_) (fun hc => ?_)
  · simp only [decide_eq_true_eq, Int.ofNat_lt] at hc
    obtain ⟨hna, hca⟩ := hA.rd k _ (List.getElem?_eq_getElem hc)
    have hnb := hna
    have hcb := hca
    rw [drop_cons hc, findI] at hi
    generalize l[k] = p at *
    repeat (first | (apply RL_pu; rfl; (first | (apply Pu_indexAddr; rfl; rfl; omega; omega; (first | exact hna | exact hnb)) | (apply Pu_loadON; rfl; (first | exact hca | exact hcb); rfl) | (apply Pu_loadO1'; rfl; (first | exact hca | exact hcb); rfl) | (apply Pu_loadO1; rfl; (first | exact hca 0 _ rfl | exact hcb 0 _ rfl)))) | refine walk1 ?_)
    refine W_cond rfl (fun h3 => ?_) (fun h3 => ?_)
    · repeat (first | refine walk ?_)
      rw [if_pos h3] at hi
      exact ret_1 _ [] (.tmp rfl) .nil ⟨by rw [← hi], rfl⟩
    repeat (first | refine walk ?_)
    rw [h3] at hi
    exact ⟨k + 1, by omega, ⟨by omega, hi⟩, (by repeat (first | exact trivial | refine ⟨rfl, ?_⟩)), (by first | exact .refl _ | focus repeat (first | exact SubO.nil | (apply SubO.cons; focus repeat' constructor)))⟩
  simp only [decide_eq_false_iff_not, Int.ofNat_lt] at hc
  repeat (first | refine walk ?_)
  exact ret_1 _ [] (.tmp rfl) .nil ⟨by rw [← hi, List.drop_eq_nil_of_le (by omega)]; rfl, rfl⟩

theorem findI_mem (x : ByteArray) : ∀ (l : List ByteArray) (k : Nat), decide (0 ≤ findI (fun y => decide (x = y)) l k) = memB x l
  | [], k => by simp [findI, memB]
  | y :: l, k => by
    have ih := findI_mem x l (k + 1)
    simp only [findI, memB]
    by_cases h : x = y
    · subst h; simp
    · rw [← ih]
      have : ¬ y = x := fun e => h e.symm
      simp [h, this]

theorem contains_spec (A : Option Addr) (c : Nat) (l : List ByteArray) (x : ByteArray) (w : World) (hA : RdSl w A c strEnc 1 l) :
    Does Tryd.prog 25 [.slice A l.length c, .string x] w (fun v O => v = .bool (memB x l) ∧ O = []) := by
  refine Does_of_W Tryd.func25 rfl rfl rfl rfl ?_
  repeat (first | (apply RL_st0; (apply Stp_call (h := fun w' hw _ => index_spec A c l x w' (hA.up hw)); rfl; rintro v O' ⟨rfl, rfl⟩)) | (apply RL_st; rfl; (apply Stp_call (h := fun w' hw _ => index_spec A c l x w' (hA.up hw)); rfl; rintro v O' ⟨rfl, rfl⟩)) | refine walk ?_)
  exact ret_1 _ [] (.tmp rfl) .nil ⟨by rw [findI_mem], rfl⟩

theorem equalR_spec (A B : Option Addr) (ca cb : Nat) (x y : List DRule) (w : World) (hA : RdSl w A ca DRule.enc 11 x) (hB : RdSl w B cb DRule.enc 11 y) :
    Does Tryd.prog 33 [.slice A x.length ca, .slice B y.length cb] w (fun v O => v = .bool (decide (x = y)) ∧ O = []) := by
  have hs1 := hA.le
  have hs2 := hA.cap
  unfold maxLen at hs2
  generalize hres : decide (x = y) = res
  refine Does_of_W Tryd.func33 rfl rfl rfl rfl ?_
  repeat (first | refine walk ?_ | (refine RD_Lw ?_; intro F; (apply Stp_pu; exact PuA); refine ⟨_, EndsA, QFA, ?_⟩))
  refine W_cond rfl (fun h1 => ?_) (fun h1 => ?_)
  · repeat (first | refine walk ?_ | (refine RD_Lw ?_; intro F; (apply Stp_pu; exact PuA); refine ⟨_, EndsA, QFA, ?_⟩))
    exact ret_1 _ [] (.tmp rfl) .nil ⟨by rw [← hres, dec_len]; simp at h1; omega, rfl⟩
  have hlen : x.length = y.length := by simp at h1; omega
  clear h1
  repeat (first | refine walk ?_ | (refine RD_Lw ?_; intro F; (apply Stp_pu; exact PuA); refine ⟨_, EndsA, QFA, ?_⟩))
  refine W_loopF [(0, _), (1, _), (4, _), (12, _)] _ (fun k : Nat => [(13, .int .i64 k)]) (fun _ => []) (fun k => k ≤ x.length ∧ decide (x.drop k = y.drop k) = res) (fun k => x.length - k) 0 ⟨rfl, rfl, rfl, rfl, rfl, trivial⟩ (.refl _) ⟨by omega, hres⟩ ?_
  rintro k ⟨hk, hi⟩
  repeat (first | refine walk ?_ | (refine RD_Lw ?_; intro F; (apply Stp_pu; exact PuA); refine ⟨_, EndsA, QFA, ?_⟩))
  refine W_cond rfl (fun hc => ?_) (fun hc => ?_)
  · simp only [decide_eq_true_eq, Int.ofNat_lt] at hc
    have hcy : k < y.length := by omega
    obtain ⟨hna, hca⟩ := hA.rd k _ (List.getElem?_eq_getElem hc)
    obtain ⟨hnb, hcb⟩ := hB.rd k _ (List.getElem?_eq_getElem hcy)
    rw [drop_cons hc, drop_cons hcy, dec_cons] at hi
    generalize x[k] = p at *
    generalize y[k] = q at *
    repeat (first | (apply RL_pu; rfl; (first | (apply Pu_indexAddr; rfl; rfl; omega; omega; (first | exact hna | exact hnb)) | (apply Pu_loadON; rfl; (first | exact hca | exact hcb); rfl) | (apply Pu_loadO1'; rfl; (first | exact hca | exact hcb); rfl) | (apply Pu_loadO1; rfl; (first | exact hca 0 _ rfl | exact hcb 0 _ rfl)))) | (apply RD_Q; rfl; rfl; decide +kernel; rfl; rfl; (first | (apply Qy_y; rfl; (first | (apply Pu_indexAddr; rfl; rfl; omega; omega; (first | exact hna | exact hnb)) | (apply Pu_loadON; rfl; (first | exact hca | exact hcb); rfl) | (apply Pu_loadO1'; rfl; (first | exact hca | exact hcb); rfl) | (apply Pu_loadO1; rfl; (first | exact hca 0 _ rfl | exact hcb 0 _ rfl)))) | exact QyA)) | refine walk1 ?_ | (refine RD_Lw ?_; intro F; (apply Stp_pu; first | (apply Pu_indexAddr; rfl; rfl; omega; omega; (first | exact hna | exact hnb)) | (apply Pu_loadON; rfl; (first | exact hca | exact hcb); rfl) | (apply Pu_loadO1'; rfl; (first | exact hca | exact hcb); rfl) | (apply Pu_loadO1; rfl; (first | exact hca 0 _ rfl | exact hcb 0 _ rfl)) | exact PuA); refine ⟨_, EndsA, (by repeat (first | exact QF.nil | (apply QF.mk; rfl; rfl; decide +kernel; (first | (apply Qy_y; rfl; (first | (apply Pu_indexAddr; rfl; rfl; omega; omega; (first | exact hna | exact hnb)) | (apply Pu_loadON; rfl; (first | exact hca | exact hcb); rfl) | (apply Pu_loadO1'; rfl; (first | exact hca | exact hcb); rfl) | (apply Pu_loadO1; rfl; (first | exact hca 0 _ rfl | exact hcb 0 _ rfl)))) | exact QyA)))), ?_⟩))
    refine W_cond rfl (fun h3 => ?_) (fun h3 => ?_)
    · repeat (first | refine walk ?_ | (refine RD_Lw ?_; intro F; (apply Stp_pu; exact PuA); refine ⟨_, EndsA, QFA, ?_⟩))
      exact ret_1 _ [] (.tmp rfl) .nil ⟨by simp at h3; simp [← hi, h3], rfl⟩
    repeat (first | refine walk ?_ | (refine RD_Lw ?_; intro F; (apply Stp_pu; exact PuA); refine ⟨_, EndsA, QFA, ?_⟩))
    simp at h3
    exact ⟨k + 1, by omega, ⟨by omega, by rw [← hi]; simp [h3]⟩, (by repeat (first | exact trivial | refine ⟨rfl, ?_⟩)), (by first | exact .refl _ | focus repeat (first | exact SubO.nil | (apply SubO.cons; focus repeat' constructor)))⟩
  simp only [decide_eq_false_iff_not, Int.ofNat_lt] at hc
  repeat (first | refine walk ?_ | (refine RD_Lw ?_; intro F; (apply Stp_pu; exact PuA); refine ⟨_, EndsA, QFA, ?_⟩))
  exact ret_1 _ [] (.tmp rfl) .nil ⟨by rw [← hi, dec_nil (by omega) (by omega)], rfl⟩

theorem checkFn_spec (r : DRule) (nm : ByteArray) (ad : Addr) (w : World) (h : w.cell? ad = some (.string nm)) :
    Does Tryd.prog 35 [.agg r.enc.toArray, .pointer (some ad)] w (fun v O => v = .bool (decide (r.name = nm)) ∧ O = []) := by
  refine Does_of_W Tryd.func35 rfl rfl rfl rfl ?_
  repeat (first | (apply RL_pu; rfl; (apply Pu_loadO1; rfl; exact h)) | (apply RL_st; rfl; (apply Stp_boxNf; rfl; (focus repeat (first | exact Nf.nil | apply Nf.cons)); intro bk)) | refine walk1 ?_)
  exact ret_1 _ [] (.tmp rfl) .nil ⟨rfl, rfl⟩

theorem indexFunc_spec (A : Option Addr) (c : Nat) (l : List DRule) (f : FuncId) [Body Tryd.prog f] (us cs : List Value) (p : DRule → Bool) (w : World) (hA : RdSl w A c DRule.enc 11 l)
    (hf : ∀ r w', Below w.heap.size w w' → Does Tryd.prog f (us ++ [.agg (DRule.enc r).toArray] ++ cs) w' (fun v O => v = .bool (p r) ∧ O = [])) :
    Does Tryd.prog 34 [.slice A l.length c, .func (.func f) us.toArray cs.toArray] w (fun v O => v = .int .i64 (findI p l 0) ∧ O = []) := by
  have hs1 := hA.le
  have hs2 := hA.cap
  unfold maxLen at hs2
  generalize hres : findI p l 0 = res
  refine Does_of_W Tryd.func34 rfl rfl rfl rfl ?_
  repeat (first | refine walk ?_)
  refine W_loopF [(0, _), (1, _), (4, _), (7, _)] _ (fun k : Nat => [(8, .int .i64 k)]) (fun _ => []) (fun k => k ≤ l.length ∧ findI p (l.drop k) k = res) (fun k => l.length - k) 0 ⟨rfl, rfl, rfl, rfl, rfl, trivial⟩ (.refl _) ⟨by omega, by simpa using hres⟩ ?_
  rintro k ⟨hk, hi⟩
  repeat (first | refine walk ?_)
  refine W_cond rfl (fun hc => ?_) (fun hc => ?_)
  · simp only [decide_eq_true_eq, Int.ofNat_lt] at hc
    obtain ⟨hna, hca⟩ := hA.rd k _ (List.getElem?_eq_getElem hc)
    have hnb := hna
    have hcb := hca
    rw [drop_cons hc, findI] at hi
    generalize l[k] = r at *
    repeat (first | (apply RL_pu; rfl; (first | (apply Pu_indexAddr; rfl; rfl; omega; omega; (first | exact hna | exact hnb)) | (apply Pu_loadON; rfl; (first | exact hca | exact hcb); rfl) | (apply Pu_loadO1'; rfl; (first | exact hca | exact hcb); rfl) | (apply Pu_loadO1; rfl; (first | exact hca 0 _ rfl | exact hcb 0 _ rfl)))) | (apply RL_st0; (apply Stp_callV (h := fun w' hw _ => hf r w' hw); rfl; rfl; rintro v O' ⟨rfl, rfl⟩)) | (apply RL_st; rfl; (apply Stp_callV (h := fun w' hw _ => hf r w' hw); rfl; rfl; rintro v O' ⟨rfl, rfl⟩)) | refine walk1 ?_)
    refine W_cond rfl (fun h3 => ?_) (fun h3 => ?_)
    · repeat (first | refine walk ?_)
      rw [if_pos h3] at hi
      exact ret_1 _ [] (.tmp rfl) .nil ⟨by rw [← hi], rfl⟩
    repeat (first | refine walk ?_)
    rw [h3] at hi
    exact ⟨k + 1, by omega, ⟨by omega, hi⟩, (by repeat (first | exact trivial | refine ⟨rfl, ?_⟩)), (by first | exact .refl _ | focus repeat (first | exact SubO.nil | (apply SubO.cons; focus repeat' constructor)))⟩
  simp only [decide_eq_false_iff_not, Int.ofNat_lt] at hc
  repeat (first | refine walk ?_)
  exact ret_1 _ [] (.tmp rfl) .nil ⟨by rw [← hi, List.drop_eq_nil_of_le (by omega)]; rfl, rfl⟩
end Go.Proofs.YtfhjfpikngcknaaDoor
