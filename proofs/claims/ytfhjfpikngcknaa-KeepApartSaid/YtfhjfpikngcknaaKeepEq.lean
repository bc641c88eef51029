/- Contracts: slices.Equal at three types. -/
import Derived.Test.YtfhjfpikngcknaaRead3
namespace Go.Proofs.Ytfhjfpikngcknaa
open Go Go.RowKit Go.Wk
attribute [local irreducible] W RL Does thenQ blockQ retQ Calls Pu Stp RD Qy Ay


theorem equalS_spec (A B : Option Addr) (ca cb : Nat) (x y : List ByteArray) (w : World) (hA : RdSl w A ca strEnc 1 x) (hB : RdSl w B cb strEnc 1 y) :
    Does Try.prog 19 [.slice A x.length ca, .slice B y.length cb] w (fun v O => v = .bool (decide (x = y)) ∧ O = []) := by
  have hs1 := hA.le
  have hs2 := hA.cap
  unfold maxLen at hs2
  generalize hres : decide (x = y) = res
  refine Does_of_W Try.func19 rfl rfl rfl rfl ?_
  repeat (first | refine walk ?_ | (refine RD_Lw ?_; intro F; (apply Stp_pu; exact PuA); refine ⟨_, EndsA, QFA, ?_⟩))
  refine W_cond rfl (fun h1 => ?_) (fun h1 => ?_)
  · repeat (first | refine walk ?_ | (refine RD_Lw ?_; intro F; (apply Stp_pu; exact PuA); refine ⟨_, EndsA, QFA, ?_⟩))
    exact ret_1 _ [] (.tmp rfl) .nil ⟨by rw [← hres, dec_len]; simp at h1; omega, rfl⟩
  have hlen : x.length = y.length := by simp at h1; omega
  clear h1
  repeat (first | refine walk ?_ | (refine RD_Lw ?_; intro F; (apply Stp_pu; exact PuA); refine ⟨_, EndsA, QFA, ?_⟩))
  refine W_loopF [(0, _), (1, _), (4, _), (12, _)] _ (fun k : Nat => [(13, .int .i64 k)]) (fun _ => []) (fun k => k ≤ x.length ∧ decide (x.drop k = y.drop k) = res) (fun k => x.length - k) 0 ⟨rfl, rfl, rfl, rfl, rfl, trivial⟩ (.refl _) ⟨by omega, hres⟩ ?_
  rintro k ⟨hk, hi⟩
  repeat (first | refine walk ?_ | (refine RD_Lw ?_; intro F; (apply Stp_pu; exact PuA); refine ⟨_, EndsA, QFA, ?_⟩))
  refine W_cond rfl (fun hc => ?_) (fun hc => ?_)
  · simp only [decide_eq_true_eq, Int.ofNat_lt] at hc
    have hcy : k < y.length := by omega
    obtain ⟨hna, hca⟩ := hA.rd k _ (List.getElem?_eq_getElem hc)
    obtain ⟨hnb, hcb⟩ := hB.rd k _ (List.getElem?_eq_getElem hcy)
    rw [drop_cons hc, drop_cons hcy, dec_cons] at hi
    generalize x[k] = p at *
    generalize y[k] = q at *
    repeat (first | (apply RL_pu; rfl; (first | (apply Pu_indexAddr; rfl; rfl; omega; omega; (first | exact hna | exact hnb)) | (apply Pu_loadON; rfl; (first | exact hca | exact hcb); rfl) | (apply Pu_loadO1'; rfl; (first | exact hca | exact hcb); rfl) | (apply Pu_loadO1; rfl; (first | exact hca 0 _ rfl | exact hcb 0 _ rfl)))) | (apply RD_Q; rfl; rfl; decide +kernel; rfl; rfl; (first | (apply Qy_y; rfl; (first | (apply Pu_indexAddr; rfl; rfl; omega; omega; (first | exact hna | exact hnb)) | (apply Pu_loadON; rfl; (first | exact hca | exact hcb); rfl) | (apply Pu_loadO1'; rfl; (first | exact hca | exact hcb); rfl) | (apply Pu_loadO1; rfl; (first | exact hca 0 _ rfl | exact hcb 0 _ rfl)))) | exact QyA)) | refine walk1 ?_ | (refine RD_Lw ?_; intro F; (apply Stp_pu; first | (apply Pu_indexAddr; rfl; rfl; omega; omega; (first | exact hna | exact hnb)) | (apply Pu_loadON; rfl; (first | exact hca | exact hcb); rfl) | (apply Pu_loadO1'; rfl; (first | exact hca | exact hcb); rfl) | (apply Pu_loadO1; rfl; (first | exact hca 0 _ rfl | exact hcb 0 _ rfl)) | exact PuA); refine ⟨_, EndsA, (by repeat (first | exact QF.nil | (apply QF.mk; rfl; rfl; decide +kernel; (first | (apply Qy_y; rfl; (first | (apply Pu_indexAddr; rfl; rfl; omega; omega; (first | exact hna | exact hnb)) | (apply Pu_loadON; rfl; (first | exact hca | exact hcb); rfl) | (apply Pu_loadO1'; rfl; (first | exact hca | exact hcb); rfl) | (apply Pu_loadO1; rfl; (first | exact hca 0 _ rfl | exact hcb 0 _ rfl)))) | exact QyA)))), ?_⟩))
    refine W_cond rfl (fun h3 => ?_) (fun h3 => ?_)
    · repeat (first | refine walk ?_ | (refine RD_Lw ?_; intro F; (apply Stp_pu; exact PuA); refine ⟨_, EndsA, QFA, ?_⟩))
      exact ret_1 _ [] (.tmp rfl) .nil ⟨by simp at h3; simp [← hi, h3], rfl⟩
    repeat (first | refine walk ?_ | (refine RD_Lw ?_; intro F; (apply Stp_pu; exact PuA); refine ⟨_, EndsA, QFA, ?_⟩))
    simp at h3
    exact ⟨k + 1, by omega, ⟨by omega, by rw [← hi]; simp [h3]⟩, (by repeat (first | exact trivial | refine ⟨rfl, ?_⟩)), (by first | exact .refl _ | focus repeat (first | exact SubO.nil | (apply SubO.cons; focus repeat' constructor)))⟩
  simp only [decide_eq_false_iff_not, Int.ofNat_lt] at hc
  repeat (first | refine walk ?_ | (refine RD_Lw ?_; intro F; (apply Stp_pu; exact PuA); refine ⟨_, EndsA, QFA, ?_⟩))
  exact ret_1 _ [] (.tmp rfl) .nil ⟨by rw [← hi, dec_nil (by omega) (by omega)], rfl⟩

theorem equalE_spec (A B : Option Addr) (ca cb : Nat) (x y : List DEra) (w : World) (hA : RdSl w A ca DEra.enc 13 x) (hB : RdSl w B cb DEra.enc 13 y) :
    Does Try.prog 31 [.slice A x.length ca, .slice B y.length cb] w (fun v O => v = .bool (decide (x = y)) ∧ O = []) := by
  have hs1 := hA.le
  have hs2 := hA.cap
  unfold maxLen at hs2
  generalize hres : decide (x = y) = res
  refine Does_of_W Try.func31 rfl rfl rfl rfl ?_
  repeat (first | refine walk ?_ | (refine RD_Lw ?_; intro F; (apply Stp_pu; exact PuA); refine ⟨_, EndsA, QFA, ?_⟩))
  refine W_cond rfl (fun h1 => ?_) (fun h1 => ?_)
  · repeat (first | refine walk ?_ | (refine RD_Lw ?_; intro F; (apply Stp_pu; exact PuA); refine ⟨_, EndsA, QFA, ?_⟩))
    exact ret_1 _ [] (.tmp rfl) .nil ⟨by rw [← hres, dec_len]; simp at h1; omega, rfl⟩
  have hlen : x.length = y.length := by simp at h1; omega
  clear h1
  repeat (first | refine walk ?_ | (refine RD_Lw ?_; intro F; (apply Stp_pu; exact PuA); refine ⟨_, EndsA, QFA, ?_⟩))
  refine W_loopF [(0, _), (1, _), (4, _), (12, _)] _ (fun k : Nat => [(13, .int .i64 k)]) (fun _ => []) (fun k => k ≤ x.length ∧ decide (x.drop k = y.drop k) = res) (fun k => x.length - k) 0 ⟨rfl, rfl, rfl, rfl, rfl, trivial⟩ (.refl _) ⟨by omega, hres⟩ ?_
  rintro k ⟨hk, hi⟩
  repeat (first | refine walk ?_ | (refine RD_Lw ?_; intro F; (apply Stp_pu; exact PuA); refine ⟨_, EndsA, QFA, ?_⟩))
  refine W_cond rfl (fun hc => ?_) (fun hc => ?_)
  · simp only [decide_eq_true_eq, Int.ofNat_lt] at hc
    have hcy : k < y.length := by omega
    obtain ⟨hna, hca⟩ := hA.rd k _ (List.getElem?_eq_getElem hc)
    obtain ⟨hnb, hcb⟩ := hB.rd k _ (List.getElem?_eq_getElem hcy)
    rw [drop_cons hc, drop_cons hcy, dec_cons] at hi
    generalize x[k] = p at *
    generalize y[k] = q at *
    repeat (first | (apply RL_pu; rfl; (first | (apply Pu_indexAddr; rfl; rfl; omega; omega; (first | exact hna | exact hnb)) | (apply Pu_loadON; rfl; (first | exact hca | exact hcb); rfl) | (apply Pu_loadO1'; rfl; (first | exact hca | exact hcb); rfl) | (apply Pu_loadO1; rfl; (first | exact hca 0 _ rfl | exact hcb 0 _ rfl)))) | (apply RD_Q; rfl; rfl; decide +kernel; rfl; rfl; (first | (apply Qy_y; rfl; (first | (apply Pu_indexAddr; rfl; rfl; omega; omega; (first | exact hna | exact hnb)) | (apply Pu_loadON; rfl; (first | exact hca | exact hcb); rfl) | (apply Pu_loadO1'; rfl; (first | exact hca | exact hcb); rfl) | (apply Pu_loadO1; rfl; (first | exact hca 0 _ rfl | exact hcb 0 _ rfl)))) | exact QyA)) | refine walk1 ?_ | (refine RD_Lw ?_; intro F; (apply Stp_pu; first | (apply Pu_indexAddr; rfl; rfl; omega; omega; (first | exact hna | exact hnb)) | (apply Pu_loadON; rfl; (first | exact hca | exact hcb); rfl) | (apply Pu_loadO1'; rfl; (first | exact hca | exact hcb); rfl) | (apply Pu_loadO1; rfl; (first | exact hca 0 _ rfl | exact hcb 0 _ rfl)) | exact PuA); refine ⟨_, EndsA, (by repeat (first | exact QF.nil | (apply QF.mk; rfl; rfl; decide +kernel; (first | (apply Qy_y; rfl; (first | (apply Pu_indexAddr; rfl; rfl; omega; omega; (first | exact hna | exact hnb)) | (apply Pu_loadON; rfl; (first | exact hca | exact hcb); rfl) | (apply Pu_loadO1'; rfl; (first | exact hca | exact hcb); rfl) | (apply Pu_loadO1; rfl; (first | exact hca 0 _ rfl | exact hcb 0 _ rfl)))) | exact QyA)))), ?_⟩))
    refine W_cond rfl (fun h3 => ?_) (fun h3 => ?_)
    · repeat (first | refine walk ?_ | (refine RD_Lw ?_; intro F; (apply Stp_pu; exact PuA); refine ⟨_, EndsA, QFA, ?_⟩))
      exact ret_1 _ [] (.tmp rfl) .nil ⟨by simp at h3; simp [← hi, h3], rfl⟩
    repeat (first | refine walk ?_ | (refine RD_Lw ?_; intro F; (apply Stp_pu; exact PuA); refine ⟨_, EndsA, QFA, ?_⟩))
    simp at h3
    exact ⟨k + 1, by omega, ⟨by omega, by rw [← hi]; simp [h3]⟩, (by repeat (first | exact trivial | refine ⟨rfl, ?_⟩)), (by first | exact .refl _ | focus repeat (first | exact SubO.nil | (apply SubO.cons; focus repeat' constructor)))⟩
  simp only [decide_eq_false_iff_not, Int.ofNat_lt] at hc
  repeat (first | refine walk ?_ | (refine RD_Lw ?_; intro F; (apply Stp_pu; exact PuA); refine ⟨_, EndsA, QFA, ?_⟩))
  exact ret_1 _ [] (.tmp rfl) .nil ⟨by rw [← hi, dec_nil (by omega) (by omega)], rfl⟩

theorem equalL_spec (A B : Option Addr) (ca cb : Nat) (x y : List DLink) (w : World) (hA : RdSl w A ca DLink.enc 2 x) (hB : RdSl w B cb DLink.enc 2 y) :
    Does Try.prog 29 [.slice A x.length ca, .slice B y.length cb] w (fun v O => v = .bool (decide (x = y)) ∧ O = []) := by
  have hs1 := hA.le
  have hs2 := hA.cap
  unfold maxLen at hs2
  generalize hres : decide (x = y) = res
  refine Does_of_W Try.func29 rfl rfl rfl rfl ?_
  repeat (first | refine walk ?_ | (refine RD_Lw ?_; intro F; (apply Stp_pu; exact PuA); refine ⟨_, EndsA, QFA, ?_⟩))
  refine W_cond rfl (fun h1 => ?_) (fun h1 => ?_)
  · repeat (first | refine walk ?_ | (refine RD_Lw ?_; intro F; (apply Stp_pu; exact PuA); refine ⟨_, EndsA, QFA, ?_⟩))
    exact ret_1 _ [] (.tmp rfl) .nil ⟨by rw [← hres, dec_len]; simp at h1; omega, rfl⟩
  have hlen : x.length = y.length := by simp at h1; omega
  clear h1
  repeat (first | refine walk ?_ | (refine RD_Lw ?_; intro F; (apply Stp_pu; exact PuA); refine ⟨_, EndsA, QFA, ?_⟩))
  refine W_loopF [(0, _), (1, _), (4, _), (12, _)] _ (fun k : Nat => [(13, .int .i64 k)]) (fun _ => []) (fun k => k ≤ x.length ∧ decide (x.drop k = y.drop k) = res) (fun k => x.length - k) 0 ⟨rfl, rfl, rfl, rfl, rfl, trivial⟩ (.refl _) ⟨by omega, hres⟩ ?_
  rintro k ⟨hk, hi⟩
  repeat (first | refine walk ?_ | (refine RD_Lw ?_; intro F; (apply Stp_pu; exact PuA); refine ⟨_, EndsA, QFA, ?_⟩))
  refine W_cond rfl (fun hc => ?_) (fun hc => ?_)
  · simp only [decide_eq_true_eq, Int.ofNat_lt] at hc
    have hcy : k < y.length := by omega
    obtain ⟨hna, hca⟩ := hA.rd k _ (List.getElem?_eq_getElem hc)
    obtain ⟨hnb, hcb⟩ := hB.rd k _ (List.getElem?_eq_getElem hcy)
    rw [drop_cons hc, drop_cons hcy, dec_cons] at hi
    generalize x[k] = p at *
    generalize y[k] = q at *
    repeat (first | (apply RL_pu; rfl; (first | (apply Pu_indexAddr; rfl; rfl; omega; omega; (first | exact hna | exact hnb)) | (apply Pu_loadON; rfl; (first | exact hca | exact hcb); rfl) | (apply Pu_loadO1'; rfl; (first | exact hca | exact hcb); rfl) | (apply Pu_loadO1; rfl; (first | exact hca 0 _ rfl | exact hcb 0 _ rfl)))) | (apply RD_Q; rfl; rfl; decide +kernel; rfl; rfl; (first | (apply Qy_y; rfl; (first | (apply Pu_indexAddr; rfl; rfl; omega; omega; (first | exact hna | exact hnb)) | (apply Pu_loadON; rfl; (first | exact hca | exact hcb); rfl) | (apply Pu_loadO1'; rfl; (first | exact hca | exact hcb); rfl) | (apply Pu_loadO1; rfl; (first | exact hca 0 _ rfl | exact hcb 0 _ rfl)))) | exact QyA)) | refine walk1 ?_ | (refine RD_Lw ?_; intro F; (apply Stp_pu; first | (apply Pu_indexAddr; rfl; rfl; omega; omega; (first | exact hna | exact hnb)) | (apply Pu_loadON; rfl; (first | exact hca | exact hcb); rfl) | (apply Pu_loadO1'; rfl; (first | exact hca | exact hcb); rfl) | (apply Pu_loadO1; rfl; (first | exact hca 0 _ rfl | exact hcb 0 _ rfl)) | exact PuA); refine ⟨_, EndsA, (by repeat (first | exact QF.nil | (apply QF.mk; rfl; rfl; decide +kernel; (first | (apply Qy_y; rfl; (first | (apply Pu_indexAddr; rfl; rfl; omega; omega; (first | exact hna | exact hnb)) | (apply Pu_loadON; rfl; (first | exact hca | exact hcb); rfl) | (apply Pu_loadO1'; rfl; (first | exact hca | exact hcb); rfl) | (apply Pu_loadO1; rfl; (first | exact hca 0 _ rfl | exact hcb 0 _ rfl)))) | exact QyA)))), ?_⟩))
    refine W_cond rfl (fun h3 => ?_) (fun h3 => ?_)
    · repeat (first | refine walk ?_ | (refine RD_Lw ?_; intro F; (apply Stp_pu; exact PuA); refine ⟨_, EndsA, QFA, ?_⟩))
      exact ret_1 _ [] (.tmp rfl) .nil ⟨by simp at h3; simp [← hi, h3], rfl⟩
    repeat (first | refine walk ?_ | (refine RD_Lw ?_; intro F; (apply Stp_pu; exact PuA); refine ⟨_, EndsA, QFA, ?_⟩))
    simp at h3
    exact ⟨k + 1, by omega, ⟨by omega, by rw [← hi]; simp [h3]⟩, (by repeat (first | exact trivial | refine ⟨rfl, ?_⟩)), (by first | exact .refl _ | focus repeat (first | exact SubO.nil | (apply SubO.cons; focus repeat' constructor)))⟩
  simp only [decide_eq_false_iff_not, Int.ofNat_lt] at hc
  repeat (first | refine walk ?_ | (refine RD_Lw ?_; intro F; (apply Stp_pu; exact PuA); refine ⟨_, EndsA, QFA, ?_⟩))
  exact ret_1 _ [] (.tmp rfl) .nil ⟨by rw [← hi, dec_nil (by omega) (by omega)], rfl⟩

end Go.Proofs.Ytfhjfpikngcknaa
