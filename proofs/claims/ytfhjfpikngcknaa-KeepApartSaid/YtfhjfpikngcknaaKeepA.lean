/- Contracts: analemmalaw33.few, analemmaref33.has, zone; analemmalaw13.SameSource. -/
import Derived.Test.YtfhjfpikngcknaaKeepEq
import Derived.Test.YtfhjfpikngcknaaCopy
import Derived.Test.YtfhjfpikngcknaaWkO
namespace Go.Proofs.Ytfhjfpikngcknaa
open Go Go.RowKit Go.Wk
attribute [local irreducible] W RL Does thenQ blockQ retQ Calls Pu Stp RD Qy Ay


def few33 (s : DSource) : Bool := decide (s.rules.length ≤ 30) && (decide (s.zones.length ≤ 10) && (decide (s.links.length ≤ 30) && (decide (s.shifts.length ≤ 30) && s.zones.all fun z => decide (z.eras.length ≤ 10))))
theorem few33_fits {s : DSource} (h : few33 s = true) : s.rules.length ≤ 30 ∧ s.zones.length ≤ 10 ∧ s.links.length ≤ 30 ∧ s.shifts.length ≤ 30 ∧ ∀ z ∈ s.zones, z.eras.length ≤ 10 := by
  simp only [few33, Bool.and_eq_true, decide_eq_true_eq, List.all_eq_true] at h
  exact h
theorem few33_spec (Ar Az Al As : Option Addr) (cr cz cl cs : Nat) (s : DSource) (w : World) (h : RdSource w Ar Az Al As cr cz cl cs s) :
    Does Try.prog 16 [srcV Ar Az Al As cr cz cl cs s] w (fun v O => v = .bool (few33 s) ∧ O = []) := by
  have hz1 := h.zle
  have hz2 := h.zcap
  unfold maxLen at hz2
  generalize hres : few33 s = res
  refine Does_of_W Try.func16 rfl rfl rfl rfl ?_
  repeat (first | (apply RL_st; rfl; (first | (apply Stp_boxNf; rfl; (focus repeat (first | exact Nf.nil | apply Nf.cons)); intro bk) | (apply Stp_alloc; intro bk))) | refine walk ?_)
  refine RL_split 9 rfl (fun g1 => ?_) (fun g1 => ?_)
  · repeat (first | (apply RL_st; rfl; (first | (apply Stp_boxNf; rfl; (focus repeat (first | exact Nf.nil | apply Nf.cons)); intro bk) | (apply Stp_alloc; intro bk))) | refine walk ?_)
    exact ret_1 _ [] (.tmp rfl) .nil ⟨by rw [← hres]; simp at g1; simp [few33]; omega, rfl⟩
  repeat (first | (apply RL_st; rfl; (first | (apply Stp_boxNf; rfl; (focus repeat (first | exact Nf.nil | apply Nf.cons)); intro bk) | (apply Stp_alloc; intro bk))) | refine walk ?_)
  refine RL_split 15 rfl (fun g2 => ?_) (fun g2 => ?_)
  · repeat (first | (apply RL_st; rfl; (first | (apply Stp_boxNf; rfl; (focus repeat (first | exact Nf.nil | apply Nf.cons)); intro bk) | (apply Stp_alloc; intro bk))) | refine walk ?_)
    exact ret_1 _ [] (.tmp rfl) .nil ⟨by rw [← hres]; simp at g2; simp [few33]; omega, rfl⟩
  repeat (first | (apply RL_st; rfl; (first | (apply Stp_boxNf; rfl; (focus repeat (first | exact Nf.nil | apply Nf.cons)); intro bk) | (apply Stp_alloc; intro bk))) | refine walk ?_)
  refine RL_split 21 rfl (fun g3 => ?_) (fun g3 => ?_)
  · repeat (first | (apply RL_st; rfl; (first | (apply Stp_boxNf; rfl; (focus repeat (first | exact Nf.nil | apply Nf.cons)); intro bk) | (apply Stp_alloc; intro bk))) | refine walk ?_)
    exact ret_1 _ [] (.tmp rfl) .nil ⟨by rw [← hres]; simp at g3; simp [few33]; omega, rfl⟩
  repeat (first | (apply RL_st; rfl; (first | (apply Stp_boxNf; rfl; (focus repeat (first | exact Nf.nil | apply Nf.cons)); intro bk) | (apply Stp_alloc; intro bk))) | refine walk ?_)
  refine W_cond rfl (fun g4 => ?_) (fun g4 => ?_)
  · repeat (first | (apply RL_st; rfl; (first | (apply Stp_boxNf; rfl; (focus repeat (first | exact Nf.nil | apply Nf.cons)); intro bk) | (apply Stp_alloc; intro bk))) | refine walk ?_)
    exact ret_1 _ [] (.tmp rfl) .nil ⟨by rw [← hres]; simp at g4; simp [few33]; omega, rfl⟩
  have hi0 : (s.zones.all fun z => decide (z.eras.length ≤ 10)) = res := by
    rw [← hres, few33]
    simp at g1 g2 g3 g4
    rw [show decide (s.rules.length ≤ 30) = true from by simp; omega, show decide (s.zones.length ≤ 10) = true from by simp; omega, show decide (s.links.length ≤ 30) = true from by simp; omega, show decide (s.shifts.length ≤ 30) = true from by simp; omega]
    simp
  clear g1 g2 g3 g4 hres
  repeat (first | (apply RL_st; rfl; (first | (apply Stp_boxNf; rfl; (focus repeat (first | exact Nf.nil | apply Nf.cons)); intro bk) | (apply Stp_alloc; intro bk))) | refine walk ?_)
  refine W_loopF [(1, _), (28, _), (29, _)] [] (fun k : Nat => [(30, .int .i64 k)]) (fun _ => []) (fun k => k ≤ s.zones.length ∧ ((s.zones.drop k).all fun z => decide (z.eras.length ≤ 10)) = res) (fun k => s.zones.length - k) 0 ⟨rfl, rfl, rfl, rfl, trivial⟩ .nil ⟨by omega, by simpa using hi0⟩ ?_
  rintro k ⟨hk, hi⟩
  repeat (first | (apply RL_st; rfl; (first | (apply Stp_boxNf; rfl; (focus repeat (first | exact Nf.nil | apply Nf.cons)); intro bk) | (apply Stp_alloc; intro bk))) | refine walk ?_)
  refine W_cond rfl (fun hc => ?_) (fun hc => ?_)
  · simp only [decide_eq_true_eq, Int.ofNat_lt] at hc
    obtain ⟨hna, cs1, ⟨Ae, ce, hE, rfl⟩, hca⟩ := h.z k _ (List.getElem?_eq_getElem hc)
    have hnb := hna
    have hcb := hca
    rw [drop_cons hc, List.all_cons] at hi
    generalize s.zones[k] = z at *
    repeat (first | (apply RL_pu; rfl; (first | (apply Pu_indexAddr; rfl; rfl; omega; omega; (first | exact hna | exact hnb)) | (apply Pu_loadON; rfl; (first | exact hca | exact hcb); rfl) | (apply Pu_loadO1'; rfl; (first | exact hca | exact hcb); rfl) | (apply Pu_loadO1; rfl; (first | exact hca 0 _ rfl | exact hcb 0 _ rfl)))) | (apply RL_st; rfl; (first | (apply Stp_boxNf; rfl; (focus repeat (first | exact Nf.nil | apply Nf.cons)); intro bk) | (apply Stp_alloc; intro bk))) | refine walk1 ?_)
    refine W_cond rfl (fun h3 => ?_) (fun h3 => ?_)
    · repeat (first | (apply RL_st; rfl; (first | (apply Stp_boxNf; rfl; (focus repeat (first | exact Nf.nil | apply Nf.cons)); intro bk) | (apply Stp_alloc; intro bk))) | refine walk ?_)
      exact ret_1 _ [] (.tmp rfl) .nil ⟨by rw [← hi]; simp at h3; simp; omega, rfl⟩
    repeat (first | (apply RL_st; rfl; (first | (apply Stp_boxNf; rfl; (focus repeat (first | exact Nf.nil | apply Nf.cons)); intro bk) | (apply Stp_alloc; intro bk))) | refine walk ?_)
    exact ⟨k + 1, by omega, ⟨by omega, by rw [← hi]; simp at h3; simp; omega⟩, (by repeat (first | exact trivial | refine ⟨rfl, ?_⟩)), .nil⟩
  simp only [decide_eq_false_iff_not, Int.ofNat_lt] at hc
  repeat (first | (apply RL_st; rfl; (first | (apply Stp_boxNf; rfl; (focus repeat (first | exact Nf.nil | apply Nf.cons)); intro bk) | (apply Stp_alloc; intro bk))) | refine walk ?_)
  exact ret_1 _ [] (.tmp rfl) .nil ⟨by rw [← hi, List.drop_eq_nil_of_le (by omega)]; rfl, rfl⟩

theorem has_spec (A : Option Addr) (c : Nat) (l : List ByteArray) (x : ByteArray) (w : World) (hA : RdSl w A c strEnc 1 l) :
    Does Try.prog 54 [.slice A l.length c, .string x] w (fun v O => v = .bool (memB x l) ∧ O = []) := by
  have hs1 := hA.le
  have hs2 := hA.cap
  unfold maxLen at hs2
  generalize hres : memB x l = res
  refine Does_of_W Try.func54 rfl rfl rfl rfl ?_
  repeat (first | refine walk ?_)
  refine W_loopF [(0, _), (1, _), (4, _)] _ (fun k : Nat => [(5, .int .i64 k)]) (fun _ => []) (fun k => k ≤ l.length ∧ memB x (l.drop k) = res) (fun k => l.length - k) 0 ⟨rfl, rfl, rfl, rfl, trivial⟩ (.refl _) ⟨by omega, by simpa using hres⟩ ?_
  rintro k ⟨hk, hi⟩
  repeat (first | refine walk ?_)
  refine W_cond rfl (fun hc => ?_) (fun hc => ?_)
  · simp only [decide_eq_true_eq, Int.ofNat_lt] at hc
    obtain ⟨hna, hca⟩ := hA.rd k _ (List.getElem?_eq_getElem hc)
    have hnb := hna
    have hcb := hca
    rw [drop_cons hc] at hi
    generalize l[k] = p at *
    repeat (first | (apply RL_pu; rfl; (first | (apply Pu_indexAddr; rfl; rfl; omega; omega; (first | exact hna | exact hnb)) | (apply Pu_loadON; rfl; (first | exact hca | exact hcb); rfl) | (apply Pu_loadO1'; rfl; (first | exact hca | exact hcb); rfl) | (apply Pu_loadO1; rfl; (first | exact hca 0 _ rfl | exact hcb 0 _ rfl)))) | refine walk1 ?_)
    refine W_cond rfl (fun h3 => ?_) (fun h3 => ?_)
    · repeat (first | refine walk ?_)
      simp only [decide_eq_true_eq] at h3
      exact ret_1 _ [] (.tmp rfl) .nil ⟨by simp [← hi, h3, memB], rfl⟩
    repeat (first | refine walk ?_)
    simp only [decide_eq_false_iff_not] at h3
    exact ⟨k + 1, by omega, ⟨by omega, by rw [← hi]; simp [h3, memB]⟩, (by repeat (first | exact trivial | refine ⟨rfl, ?_⟩)), (by first | exact .refl _ | focus repeat (first | exact SubO.nil | (apply SubO.cons; focus repeat' constructor)))⟩
  simp only [decide_eq_false_iff_not, Int.ofNat_lt] at hc
  repeat (first | refine walk ?_)
  exact ret_1 _ [] (.tmp rfl) .nil ⟨by rw [← hi, List.drop_eq_nil_of_le (by omega)]; rfl, rfl⟩

/-- A result that is a zone with eras of its own. -/
def NewZone (z : DZone) (v : Value) (O : List It) : Prop := ∃ A c, v = .agg #[.string z.name, .slice A z.eras.length c] ∧ O = [.row (.slice A z.eras.length c) 75 13 z.eras.length (z.eras.flatMap DEra.enc)]
theorem zone33_spec (A : Option Addr) (c : Nat) (z : DZone) (w : World) (hE : RdSl w A c DEra.enc 13 z.eras) (hn : z.eras.length ≤ 1000000) :
    Does Try.prog 55 [.agg #[.string z.name, .slice A z.eras.length c]] w (NewZone z) := by
  refine Does_of_W Try.func55 rfl rfl rfl rfl ?_
  repeat (first | (apply RL_st0; (apply Stp_append0; rfl; rfl; (intro A' c'; (focus repeat' constructor)); (intro w' hw _; exact (hE.up hw).rd.raw DEra.len (by decide)); exact flat_len DEra.len _; exact all_flat oneE _; (simp only [maxLen]; omega); omega; intro A' c' hc1 hc2 hc3)) | (apply RL_st; rfl; (first | (apply Stp_append0; rfl; rfl; (intro A' c'; (focus repeat' constructor)); (intro w' hw _; exact (hE.up hw).rd.raw DEra.len (by decide)); exact flat_len DEra.len _; exact all_flat oneE _; (simp only [maxLen]; omega); omega; intro A' c' hc1 hc2 hc3) | (apply Stp_boxNf; rfl; (focus repeat (first | exact Nf.nil | apply Nf.cons)); intro bk) | (apply Stp_alloc; intro bk) | (apply Stp_buildSlice0; intro bk))) | refine walk ?_ | (refine RD_Lw ?_; intro F; (first | (apply Stp_append0; rfl; rfl; (intro A' c'; (focus repeat' constructor)); (intro w' hw _; exact (hE.up hw).rd.raw DEra.len (by decide)); exact flat_len DEra.len _; exact all_flat oneE _; (simp only [maxLen]; omega); omega; intro A' c' hc1 hc2 hc3) | (apply Stp_boxNf; rfl; (focus repeat (first | exact Nf.nil | apply Nf.cons)); intro bk) | (apply Stp_alloc; intro bk) | (apply Stp_buildSlice0; intro bk) | (apply Stp_storeNf; rfl; rfl; (focus repeat' constructor); (focus repeat (first | exact Nf.nil | apply Nf.cons)); rfl; rfl; rfl; (focus repeat' constructor)) | (apply Stp_pu; exact PuA)); refine ⟨_, EndsA, QFA, ?_⟩) | (apply RD_W; rfl; intro bk))
  exact ret_1 _ [.row (.slice A' z.eras.length c') 75 13 z.eras.length (z.eras.flatMap DEra.enc)] (.cellB rfl (by (focus repeat' constructor)) rfl rfl) (by first | exact .refl _ | focus repeat (first | exact SubO.nil | (apply SubO.cons; focus repeat' constructor))) ⟨A', c', rfl, rfl⟩
end Go.Proofs.Ytfhjfpikngcknaa
