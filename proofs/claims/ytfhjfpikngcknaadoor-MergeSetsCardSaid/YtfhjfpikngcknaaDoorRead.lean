/- Contracts of functions that only read: analemmaref14.zones, Same; analemmaref34.shifted, first, taken; slices.Index, Contains, Equal. -/
import Derived.Test.YtfhjfpikngcknaaDoorEq
namespace Go.Proofs.YtfhjfpikngcknaaDoor
open Go Go.RowKit Go.Wk
attribute [local irreducible] W RL Does thenQ blockQ retQ Calls Pu Stp RD Qy Ay

theorem drop_cons {α : Type} {xs : List α} {k : Nat} (h : k < xs.length) : xs.drop k = xs[k] :: xs.drop (k + 1) := List.drop_eq_getElem_cons h
theorem dec_cons {α : Type} [DecidableEq α] (x y : α) (xs ys : List α) : decide (x :: xs = y :: ys) = (decide (x = y) && decide (xs = ys)) := by
  rw [Bool.eq_iff_iff]; simp
theorem dec_nil {α : Type} [DecidableEq α] {xs ys : List α} {k : Nat} (hx : xs.length ≤ k) (hy : ys.length ≤ k) : decide (xs.drop k = ys.drop k) = true := by
  rw [List.drop_eq_nil_of_le hx, List.drop_eq_nil_of_le hy]; simp
theorem dec_len {α : Type} [DecidableEq α] {xs ys : List α} (h : xs.length ≠ ys.length) : decide (xs = ys) = false := by
  simp; rintro rfl; exact h rfl
theorem dec_zone (x y : DZone) : decide (x = y) = (decide (x.name = y.name) && decide (x.eras = y.eras)) := by
  rw [Bool.eq_iff_iff]; rcases x with ⟨_, _⟩; rcases y with ⟨_, _⟩; simp
theorem dec_source (a b : DSource) : decide (a = b) = (decide (a.rules = b.rules) && (decide (a.links = b.links) && (decide (a.shifts = b.shifts) && decide (a.zones = b.zones)))) := by
  rw [Bool.eq_iff_iff]; rcases a with ⟨_, _, _, _⟩; rcases b with ⟨_, _, _, _⟩; simp only [decide_eq_true_eq, DSource.mk.injEq, Bool.and_eq_true]
  constructor
  · rintro ⟨h1, h2, h3, h4⟩; exact ⟨h1, h3, h4, h2⟩
  · rintro ⟨h1, h3, h4, h2⟩; exact ⟨h1, h2, h3, h4⟩


theorem zones_spec (A B : Option Addr) (ca cb : Nat) (x y : List DZone) (w : World) (hA : RdZ w A x) (hB : RdZ w B y) (hx : x.length ≤ maxLen) :
    Does Tryd.prog 26 [.slice A x.length ca, .slice B y.length cb] w (fun v O => v = .bool (decide (x = y)) ∧ O = []) := by
  unfold maxLen at hx
  generalize hres : decide (x = y) = res
  refine Does_of_W Tryd.func26 rfl rfl rfl rfl ?_
  repeat (first | refine walk ?_ | (refine RD_Lw ?_; intro F; (apply Stp_pu; exact PuA); refine ⟨_, EndsA, QFA, ?_⟩))
  refine W_cond rfl (fun h1 => ?_) (fun h1 => ?_)
  · repeat (first | refine walk ?_ | (refine RD_Lw ?_; intro F; (apply Stp_pu; exact PuA); refine ⟨_, EndsA, QFA, ?_⟩))
    exact ret_1 _ [] (.tmp rfl) .nil ⟨by rw [← hres, dec_len]; simp at h1; omega, rfl⟩
  have hlen : x.length = y.length := by simp at h1; omega
  clear h1
  repeat (first | refine walk ?_ | (refine RD_Lw ?_; intro F; (apply Stp_pu; exact PuA); refine ⟨_, EndsA, QFA, ?_⟩))
  refine W_loopF [(0, _), (1, _), (4, _)] _ (fun k : Nat => [(5, .int .i64 k)]) (fun _ => []) (fun k => k ≤ x.length ∧ decide (x.drop k = y.drop k) = res) (fun k => x.length - k) 0 ⟨rfl, rfl, rfl, rfl, trivial⟩ (.refl _) ⟨by omega, hres⟩ ?_
  rintro k ⟨hk, hi⟩
  repeat (first | refine walk ?_ | (refine RD_Lw ?_; intro F; (apply Stp_pu; exact PuA); refine ⟨_, EndsA, QFA, ?_⟩))
  refine W_cond rfl (fun hc => ?_) (fun hc => ?_)
  · simp only [decide_eq_true_eq, Int.ofNat_lt] at hc
    have hcy : k < y.length := by omega
    obtain ⟨hna, za, ⟨Aa, ea, hea, rfl⟩, hca⟩ := hA k _ (List.getElem?_eq_getElem hc)
    obtain ⟨hnb, zb, ⟨Ab, eb, heb, rfl⟩, hcb⟩ := hB k _ (List.getElem?_eq_getElem hcy)
    rw [drop_cons hc, drop_cons hcy, dec_cons, dec_zone] at hi
    generalize x[k] = p at *
    generalize y[k] = q at *
    have hpe := hea.le
    have hpc := hea.cap
    unfold maxLen at hpc
    repeat (first | (apply RL_pu; rfl; (first | (apply Pu_indexAddr; rfl; rfl; omega; omega; (first | exact hna | exact hnb)) | (apply Pu_loadON; rfl; (first | exact hca | exact hcb); rfl) | (apply Pu_loadO1'; rfl; (first | exact hca | exact hcb); rfl))) | (apply RD_Q; rfl; rfl; decide +kernel; rfl; rfl; (first | (apply Qy_y; rfl; (first | (apply Pu_indexAddr; rfl; rfl; omega; omega; (first | exact hna | exact hnb)) | (apply Pu_loadON; rfl; (first | exact hca | exact hcb); rfl) | (apply Pu_loadO1'; rfl; (first | exact hca | exact hcb); rfl))) | exact QyA)) | refine walk1 ?_ | (refine RD_Lw ?_; intro F; (apply Stp_pu; first | (apply Pu_indexAddr; rfl; rfl; omega; omega; (first | exact hna | exact hnb)) | (apply Pu_loadON; rfl; (first | exact hca | exact hcb); rfl) | (apply Pu_loadO1'; rfl; (first | exact hca | exact hcb); rfl) | exact PuA); refine ⟨_, EndsA, (by repeat (first | exact QF.nil | (apply QF.mk; rfl; rfl; decide +kernel; (first | (apply Qy_y; rfl; (first | (apply Pu_indexAddr; rfl; rfl; omega; omega; (first | exact hna | exact hnb)) | (apply Pu_loadON; rfl; (first | exact hca | exact hcb); rfl) | (apply Pu_loadO1'; rfl; (first | exact hca | exact hcb); rfl))) | exact QyA)))), ?_⟩))
    refine RD_split 29 rfl (fun h2 => ?_) (fun h2 => ?_)
    · repeat (first | (apply RL_pu; rfl; (first | (apply Pu_indexAddr; rfl; rfl; omega; omega; (first | exact hna | exact hnb)) | (apply Pu_loadON; rfl; (first | exact hca | exact hcb); rfl) | (apply Pu_loadO1'; rfl; (first | exact hca | exact hcb); rfl))) | (apply RD_Q; rfl; rfl; decide +kernel; rfl; rfl; (first | (apply Qy_y; rfl; (first | (apply Pu_indexAddr; rfl; rfl; omega; omega; (first | exact hna | exact hnb)) | (apply Pu_loadON; rfl; (first | exact hca | exact hcb); rfl) | (apply Pu_loadO1'; rfl; (first | exact hca | exact hcb); rfl))) | exact QyA)) | refine walk1 ?_ | (refine RD_Lw ?_; intro F; (apply Stp_pu; first | (apply Pu_indexAddr; rfl; rfl; omega; omega; (first | exact hna | exact hnb)) | (apply Pu_loadON; rfl; (first | exact hca | exact hcb); rfl) | (apply Pu_loadO1'; rfl; (first | exact hca | exact hcb); rfl) | exact PuA); refine ⟨_, EndsA, (by repeat (first | exact QF.nil | (apply QF.mk; rfl; rfl; decide +kernel; (first | (apply Qy_y; rfl; (first | (apply Pu_indexAddr; rfl; rfl; omega; omega; (first | exact hna | exact hnb)) | (apply Pu_loadON; rfl; (first | exact hca | exact hcb); rfl) | (apply Pu_loadO1'; rfl; (first | exact hca | exact hcb); rfl))) | exact QyA)))), ?_⟩))
      exact ret_1 _ [] (.tmp rfl) .nil ⟨by simp at h2; simp [← hi, h2], rfl⟩
    simp only [Bool.not_eq_false', decide_eq_true_eq] at h2
    repeat (first | (apply RL_pu; rfl; (first | (apply Pu_indexAddr; rfl; rfl; omega; omega; (first | exact hna | exact hnb)) | (apply Pu_loadON; rfl; (first | exact hca | exact hcb); rfl) | (apply Pu_loadO1'; rfl; (first | exact hca | exact hcb); rfl))) | (apply RD_Q; rfl; rfl; decide +kernel; rfl; rfl; (first | (apply Qy_y; rfl; (first | (apply Pu_indexAddr; rfl; rfl; omega; omega; (first | exact hna | exact hnb)) | (apply Pu_loadON; rfl; (first | exact hca | exact hcb); rfl) | (apply Pu_loadO1'; rfl; (first | exact hca | exact hcb); rfl))) | exact QyA)) | refine walk1 ?_ | (refine RD_Lw ?_; intro F; (apply Stp_pu; first | (apply Pu_indexAddr; rfl; rfl; omega; omega; (first | exact hna | exact hnb)) | (apply Pu_loadON; rfl; (first | exact hca | exact hcb); rfl) | (apply Pu_loadO1'; rfl; (first | exact hca | exact hcb); rfl) | exact PuA); refine ⟨_, EndsA, (by repeat (first | exact QF.nil | (apply QF.mk; rfl; rfl; decide +kernel; (first | (apply Qy_y; rfl; (first | (apply Pu_indexAddr; rfl; rfl; omega; omega; (first | exact hna | exact hnb)) | (apply Pu_loadON; rfl; (first | exact hca | exact hcb); rfl) | (apply Pu_loadO1'; rfl; (first | exact hca | exact hcb); rfl))) | exact QyA)))), ?_⟩))
    refine W_cond rfl (fun h3 => ?_) (fun h3 => ?_)
    · repeat (first | refine walk ?_ | (refine RD_Lw ?_; intro F; (apply Stp_pu; exact PuA); refine ⟨_, EndsA, QFA, ?_⟩))
      exact ret_1 _ [] (.tmp rfl) .nil ⟨by rw [← hi, dec_len (xs := p.eras)]; simp; simp at h3; omega, rfl⟩
    have hel : p.eras.length = q.eras.length := by simp at h3; omega
    clear h3
    repeat (first | refine walk ?_ | (refine RD_Lw ?_; intro F; (apply Stp_pu; exact PuA); refine ⟨_, EndsA, QFA, ?_⟩))
    refine W_loopF [(0, _), (1, _), (4, _), (5, _)] _ (fun j : Nat => [(6, .int .i64 j)]) (fun _ => []) (fun j => j ≤ p.eras.length ∧ (decide (p.eras.drop j = q.eras.drop j) && decide (x.drop (k + 1) = y.drop (k + 1))) = res) (fun j => p.eras.length - j) 0 ⟨rfl, rfl, rfl, rfl, rfl, trivial⟩ (.refl _) ⟨by omega, by rw [← hi, h2]; simp⟩ ?_
    rintro j ⟨hj, hij⟩
    repeat (first | (apply RL_pu; rfl; (first | (apply Pu_indexAddr; rfl; rfl; omega; omega; (first | exact hna | exact hnb)) | (apply Pu_loadON; rfl; (first | exact hca | exact hcb); rfl) | (apply Pu_loadO1'; rfl; (first | exact hca | exact hcb); rfl))) | (apply RD_Q; rfl; rfl; decide +kernel; rfl; rfl; (first | (apply Qy_y; rfl; (first | (apply Pu_indexAddr; rfl; rfl; omega; omega; (first | exact hna | exact hnb)) | (apply Pu_loadON; rfl; (first | exact hca | exact hcb); rfl) | (apply Pu_loadO1'; rfl; (first | exact hca | exact hcb); rfl))) | exact QyA)) | refine walk1 ?_ | (refine RD_Lw ?_; intro F; (apply Stp_pu; first | (apply Pu_indexAddr; rfl; rfl; omega; omega; (first | exact hna | exact hnb)) | (apply Pu_loadON; rfl; (first | exact hca | exact hcb); rfl) | (apply Pu_loadO1'; rfl; (first | exact hca | exact hcb); rfl) | exact PuA); refine ⟨_, EndsA, (by repeat (first | exact QF.nil | (apply QF.mk; rfl; rfl; decide +kernel; (first | (apply Qy_y; rfl; (first | (apply Pu_indexAddr; rfl; rfl; omega; omega; (first | exact hna | exact hnb)) | (apply Pu_loadON; rfl; (first | exact hca | exact hcb); rfl) | (apply Pu_loadO1'; rfl; (first | exact hca | exact hcb); rfl))) | exact QyA)))), ?_⟩))
    refine W_cond rfl (fun hc2 => ?_) (fun hc2 => ?_)
    · simp only [decide_eq_true_eq, Int.ofNat_lt] at hc2
      have hcy2 : j < q.eras.length := by omega
      obtain ⟨hna2, hca2⟩ := hea.rd j _ (List.getElem?_eq_getElem hc2)
      obtain ⟨hnb2, hcb2⟩ := heb.rd j _ (List.getElem?_eq_getElem hcy2)
      rw [drop_cons hc2, drop_cons hcy2, dec_cons] at hij
      generalize p.eras[j] = e1 at *
      generalize q.eras[j] = e2 at *
      repeat (first | (apply RL_pu; rfl; (first | (apply Pu_indexAddr; rfl; rfl; omega; omega; (first | exact hna | exact hnb)) | (apply Pu_loadON; rfl; (first | exact hca | exact hcb); rfl) | (apply Pu_loadO1'; rfl; (first | exact hca | exact hcb); rfl) | (apply Pu_indexAddr; rfl; rfl; omega; omega; (first | exact hna2 | exact hnb2)) | (apply Pu_loadON; rfl; (first | exact hca2 | exact hcb2); rfl))) | (apply RD_Q; rfl; rfl; decide +kernel; rfl; rfl; (first | (apply Qy_y; rfl; (first | (apply Pu_indexAddr; rfl; rfl; omega; omega; (first | exact hna | exact hnb)) | (apply Pu_loadON; rfl; (first | exact hca | exact hcb); rfl) | (apply Pu_loadO1'; rfl; (first | exact hca | exact hcb); rfl) | (apply Pu_indexAddr; rfl; rfl; omega; omega; (first | exact hna2 | exact hnb2)) | (apply Pu_loadON; rfl; (first | exact hca2 | exact hcb2); rfl))) | exact QyA)) | refine walk1 ?_ | (refine RD_Lw ?_; intro F; (apply Stp_pu; first | (apply Pu_indexAddr; rfl; rfl; omega; omega; (first | exact hna | exact hnb)) | (apply Pu_loadON; rfl; (first | exact hca | exact hcb); rfl) | (apply Pu_loadO1'; rfl; (first | exact hca | exact hcb); rfl) | (apply Pu_indexAddr; rfl; rfl; omega; omega; (first | exact hna2 | exact hnb2)) | (apply Pu_loadON; rfl; (first | exact hca2 | exact hcb2); rfl) | exact PuA); refine ⟨_, EndsA, (by repeat (first | exact QF.nil | (apply QF.mk; rfl; rfl; decide +kernel; (first | (apply Qy_y; rfl; (first | (apply Pu_indexAddr; rfl; rfl; omega; omega; (first | exact hna | exact hnb)) | (apply Pu_loadON; rfl; (first | exact hca | exact hcb); rfl) | (apply Pu_loadO1'; rfl; (first | exact hca | exact hcb); rfl) | (apply Pu_indexAddr; rfl; rfl; omega; omega; (first | exact hna2 | exact hnb2)) | (apply Pu_loadON; rfl; (first | exact hca2 | exact hcb2); rfl))) | exact QyA)))), ?_⟩))
      refine W_cond rfl (fun h3 => ?_) (fun h3 => ?_)
      · repeat (first | refine walk ?_ | (refine RD_Lw ?_; intro F; (apply Stp_pu; exact PuA); refine ⟨_, EndsA, QFA, ?_⟩))
        exact ret_1 _ [] (.tmp rfl) .nil ⟨by simp at h3; simp [← hij, h3], rfl⟩
      repeat (first | refine walk ?_ | (refine RD_Lw ?_; intro F; (apply Stp_pu; exact PuA); refine ⟨_, EndsA, QFA, ?_⟩))
      simp at h3
      exact ⟨j + 1, by omega, ⟨by omega, by rw [← hij]; simp [h3]⟩, (by repeat (first | exact trivial | refine ⟨rfl, ?_⟩)), (by first | exact .refl _ | focus repeat (first | exact SubO.nil | (apply SubO.cons; focus repeat' constructor)))⟩
    simp only [decide_eq_false_iff_not, Int.ofNat_lt] at hc2
    repeat (first | refine walk ?_ | (refine RD_Lw ?_; intro F; (apply Stp_pu; exact PuA); refine ⟨_, EndsA, QFA, ?_⟩))
    exact ⟨k + 1, by omega, ⟨by omega, by rw [← hij, dec_nil (xs := p.eras) (by omega) (by omega)]; simp⟩, (by repeat (first | exact trivial | refine ⟨rfl, ?_⟩)), (by first | exact .refl _ | focus repeat (first | exact SubO.nil | (apply SubO.cons; focus repeat' constructor)))⟩
  simp only [decide_eq_false_iff_not, Int.ofNat_lt] at hc
  repeat (first | refine walk ?_ | (refine RD_Lw ?_; intro F; (apply Stp_pu; exact PuA); refine ⟨_, EndsA, QFA, ?_⟩))
  exact ret_1 _ [] (.tmp rfl) .nil ⟨by rw [← hi, dec_nil (by omega) (by omega)], rfl⟩
end Go.Proofs.YtfhjfpikngcknaaDoor
