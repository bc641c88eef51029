/- Contracts: analemmaref14.Same, analemmaref34.shifted, first, taken, slices.Index, Contains, Equal. -/
import Derived.Test.YtfhjfpikngcknaaDoorRead
namespace Go.Proofs.YtfhjfpikngcknaaDoor
open Go Go.RowKit Go.Wk
attribute [local irreducible] W RL Does thenQ blockQ retQ Calls Pu Stp RD Qy Ay


def srcV (Ar Az Al As : Option Addr) (cr cz cl cs : Nat) (s : DSource) : Value := .agg #[.slice Ar s.rules.length cr, .slice Az s.zones.length cz, .slice Al s.links.length cl, .slice As s.shifts.length cs]

theorem same_spec (Ar Az Al As : Option Addr) (cr cz cl cs : Nat) (a : DSource) (Br Bz Bl Bs : Option Addr) (dr dz dl ds : Nat) (b : DSource) (w : World) (hA : RdSource w Ar Az Al As cr cz cl cs a) (hB : RdSource w Br Bz Bl Bs dr dz dl ds b) :
    Does Tryd.prog 12 [srcV Ar Az Al As cr cz cl cs a, srcV Br Bz Bl Bs dr dz dl ds b] w (fun v O => v = .bool (decide (a = b)) ∧ O = []) := by
  have hr1 := hA.r.le
  have hr2 := hA.r.cap
  have hl1 := hA.l.le
  have hl2 := hA.l.cap
  have hs1 := hA.s.le
  have hs2 := hA.s.cap
  have hz1 := hA.zle
  have hz2 := hA.zcap
  have hzz : a.zones.length ≤ maxLen := by omega
  unfold maxLen at hr2 hl2 hs2 hz2
  generalize hres : decide (a = b) = res
  rw [dec_source] at hres
  refine Does_of_W Tryd.func12 rfl rfl rfl rfl ?_
  repeat (first | (apply RL_st; rfl; (apply Stp_boxNf; rfl; (focus repeat (first | exact Nf.nil | apply Nf.cons)); intro bk)) | refine walk ?_ | (refine RD_Lw ?_; intro F; (first | (apply Stp_boxNf; rfl; (focus repeat (first | exact Nf.nil | apply Nf.cons)); intro bk) | (apply Stp_pu; exact PuA)); refine ⟨_, EndsA, QFA, ?_⟩))
  apply RL_gsplit; rfl; rfl; rfl
  · intro h1
    repeat (first | (apply RL_st; rfl; (apply Stp_boxNf; rfl; (focus repeat (first | exact Nf.nil | apply Nf.cons)); intro bk)) | refine walk ?_ | (refine RD_Lw ?_; intro F; (first | (apply Stp_boxNf; rfl; (focus repeat (first | exact Nf.nil | apply Nf.cons)); intro bk) | (apply Stp_pu; exact PuA)); refine ⟨_, EndsA, QFA, ?_⟩))
    exact ret_1 _ [] (.tmp rfl) .nil ⟨by rw [← hres, dec_len (xs := a.rules)]; simp; simp at h1; omega, rfl⟩
  intro h1
  repeat (first | (apply RL_st; rfl; (apply Stp_boxNf; rfl; (focus repeat (first | exact Nf.nil | apply Nf.cons)); intro bk)) | refine walk ?_ | (refine RD_Lw ?_; intro F; (first | (apply Stp_boxNf; rfl; (focus repeat (first | exact Nf.nil | apply Nf.cons)); intro bk) | (apply Stp_pu; exact PuA)); refine ⟨_, EndsA, QFA, ?_⟩))
  apply RL_gsplit; rfl; rfl; rfl
  · intro h2
    repeat (first | (apply RL_st; rfl; (apply Stp_boxNf; rfl; (focus repeat (first | exact Nf.nil | apply Nf.cons)); intro bk)) | refine walk ?_ | (refine RD_Lw ?_; intro F; (first | (apply Stp_boxNf; rfl; (focus repeat (first | exact Nf.nil | apply Nf.cons)); intro bk) | (apply Stp_pu; exact PuA)); refine ⟨_, EndsA, QFA, ?_⟩))
    exact ret_1 _ [] (.tmp rfl) .nil ⟨by rw [← hres, dec_len (xs := a.links)]; simp; simp at h2; omega, rfl⟩
  intro h2
  repeat (first | (apply RL_st; rfl; (apply Stp_boxNf; rfl; (focus repeat (first | exact Nf.nil | apply Nf.cons)); intro bk)) | refine walk ?_ | (refine RD_Lw ?_; intro F; (first | (apply Stp_boxNf; rfl; (focus repeat (first | exact Nf.nil | apply Nf.cons)); intro bk) | (apply Stp_pu; exact PuA)); refine ⟨_, EndsA, QFA, ?_⟩))
  apply RL_gsplit; rfl; rfl; rfl
  · intro h3
    repeat (first | (apply RL_st; rfl; (apply Stp_boxNf; rfl; (focus repeat (first | exact Nf.nil | apply Nf.cons)); intro bk)) | refine walk ?_ | (refine RD_Lw ?_; intro F; (first | (apply Stp_boxNf; rfl; (focus repeat (first | exact Nf.nil | apply Nf.cons)); intro bk) | (apply Stp_pu; exact PuA)); refine ⟨_, EndsA, QFA, ?_⟩))
    exact ret_1 _ [] (.tmp rfl) .nil ⟨by rw [← hres, dec_len (xs := a.shifts)]; simp; simp at h3; omega, rfl⟩
  intro h3
  have e1 : a.rules.length = b.rules.length := by simp at h1; omega
  have e2 : a.links.length = b.links.length := by simp at h2; omega
  have e3 : a.shifts.length = b.shifts.length := by simp at h3; omega
  clear h1 h2 h3
  repeat (first | (apply RL_st0; (apply Stp_call (h := fun w' hw _ => zones_spec Az Bz cz dz a.zones b.zones w' (hA.z.up hw) (hB.z.up hw) hzz); rfl; rintro v O' ⟨rfl, rfl⟩)) | (apply RL_st; rfl; (first | (apply Stp_call (h := fun w' hw _ => zones_spec Az Bz cz dz a.zones b.zones w' (hA.z.up hw) (hB.z.up hw) hzz); rfl; rintro v O' ⟨rfl, rfl⟩) | (apply Stp_boxNf; rfl; (focus repeat (first | exact Nf.nil | apply Nf.cons)); intro bk))) | refine walk ?_ | (refine RD_G0w ?_; intro F; (apply Stp_call (h := fun w' hw _ => zones_spec Az Bz cz dz a.zones b.zones w' (hA.z.up hw) (hB.z.up hw) hzz); rfl; rintro v O' ⟨rfl, rfl⟩); refine ⟨_, EndsA, SubO.right _ _, ?_⟩) | (refine RD_Lw ?_; intro F; (first | (apply Stp_call (h := fun w' hw _ => zones_spec Az Bz cz dz a.zones b.zones w' (hA.z.up hw) (hB.z.up hw) hzz); rfl; rintro v O' ⟨rfl, rfl⟩) | (apply Stp_boxNf; rfl; (focus repeat (first | exact Nf.nil | apply Nf.cons)); intro bk) | (apply Stp_pu; exact PuA)); refine ⟨_, EndsA, QFA, ?_⟩))
  refine W_cond rfl (fun h4 => ?_) (fun h4 => ?_)
  · repeat (first | (apply RL_st; rfl; (apply Stp_boxNf; rfl; (focus repeat (first | exact Nf.nil | apply Nf.cons)); intro bk)) | refine walk ?_ | (refine RD_Lw ?_; intro F; (first | (apply Stp_boxNf; rfl; (focus repeat (first | exact Nf.nil | apply Nf.cons)); intro bk) | (apply Stp_pu; exact PuA)); refine ⟨_, EndsA, QFA, ?_⟩))
    simp at h4
    exact ret_1 _ [] (.tmp rfl) .nil ⟨by rw [← hres]; simp [h4], rfl⟩
  simp only [Bool.not_eq_false', decide_eq_true_eq] at h4
  rw [h4] at hres
  simp only [decide_true, Bool.and_true] at hres
  repeat (first | (apply RL_st; rfl; (apply Stp_boxNf; rfl; (focus repeat (first | exact Nf.nil | apply Nf.cons)); intro bk)) | refine walk ?_ | (refine RD_Lw ?_; intro F; (first | (apply Stp_boxNf; rfl; (focus repeat (first | exact Nf.nil | apply Nf.cons)); intro bk) | (apply Stp_pu; exact PuA)); refine ⟨_, EndsA, QFA, ?_⟩))
  refine W_loopF [(2, _), (3, _), (4, _)] _ (fun k : Nat => [(5, .int .i64 k)]) (fun _ => []) (fun k => k ≤ a.rules.length ∧ (decide (a.rules.drop k = b.rules.drop k) && (decide (a.links = b.links) && decide (a.shifts = b.shifts))) = res) (fun k => a.rules.length - k) 0 ⟨rfl, rfl, rfl, rfl, trivial⟩ (.refl _) ⟨by omega, by simpa using hres⟩ ?_
  rintro k ⟨hk, hi⟩
  repeat (first | (apply RL_st; rfl; (apply Stp_boxNf; rfl; (focus repeat (first | exact Nf.nil | apply Nf.cons)); intro bk)) | refine walk ?_ | (refine RD_Lw ?_; intro F; (first | (apply Stp_boxNf; rfl; (focus repeat (first | exact Nf.nil | apply Nf.cons)); intro bk) | (apply Stp_pu; exact PuA)); refine ⟨_, EndsA, QFA, ?_⟩))
  refine W_cond rfl (fun hc => ?_) (fun hc => ?_)
  · simp only [decide_eq_true_eq, Int.ofNat_lt] at hc
    have hcy : k < b.rules.length := by omega
    obtain ⟨hna, hca⟩ := hA.r.rd k _ (List.getElem?_eq_getElem hc)
    obtain ⟨hnb, hcb⟩ := hB.r.rd k _ (List.getElem?_eq_getElem hcy)
    rw [drop_cons hc, drop_cons hcy, dec_cons] at hi
    generalize a.rules[k] = p at *
    generalize b.rules[k] = q at *
    repeat (first | (apply RL_pu; rfl; (first | (apply Pu_indexAddr; rfl; rfl; omega; omega; (first | exact hna | exact hnb)) | (apply Pu_loadON; rfl; (first | exact hca | exact hcb); rfl) | (apply Pu_loadO1'; rfl; (first | exact hca | exact hcb); rfl) | (apply Pu_loadO1; rfl; (first | exact hca 0 _ rfl | exact hcb 0 _ rfl)))) | (apply RL_st; rfl; (apply Stp_boxNf; rfl; (focus repeat (first | exact Nf.nil | apply Nf.cons)); intro bk)) | (apply RD_Q; rfl; rfl; decide +kernel; rfl; rfl; (first | (apply Qy_y; rfl; (first | (apply Pu_indexAddr; rfl; rfl; omega; omega; (first | exact hna | exact hnb)) | (apply Pu_loadON; rfl; (first | exact hca | exact hcb); rfl) | (apply Pu_loadO1'; rfl; (first | exact hca | exact hcb); rfl) | (apply Pu_loadO1; rfl; (first | exact hca 0 _ rfl | exact hcb 0 _ rfl)))) | exact QyA)) | refine walk1 ?_ | (refine RD_Lw ?_; intro F; (first | (apply Stp_boxNf; rfl; (focus repeat (first | exact Nf.nil | apply Nf.cons)); intro bk) | (apply Stp_pu; first | (apply Pu_indexAddr; rfl; rfl; omega; omega; (first | exact hna | exact hnb)) | (apply Pu_loadON; rfl; (first | exact hca | exact hcb); rfl) | (apply Pu_loadO1'; rfl; (first | exact hca | exact hcb); rfl) | (apply Pu_loadO1; rfl; (first | exact hca 0 _ rfl | exact hcb 0 _ rfl)) | exact PuA)); refine ⟨_, EndsA, (by repeat (first | exact QF.nil | (apply QF.mk; rfl; rfl; decide +kernel; (first | (apply Qy_y; rfl; (first | (apply Pu_indexAddr; rfl; rfl; omega; omega; (first | exact hna | exact hnb)) | (apply Pu_loadON; rfl; (first | exact hca | exact hcb); rfl) | (apply Pu_loadO1'; rfl; (first | exact hca | exact hcb); rfl) | (apply Pu_loadO1; rfl; (first | exact hca 0 _ rfl | exact hcb 0 _ rfl)))) | exact QyA)))), ?_⟩))
    refine W_cond rfl (fun h3 => ?_) (fun h3 => ?_)
    · repeat (first | (apply RL_st; rfl; (apply Stp_boxNf; rfl; (focus repeat (first | exact Nf.nil | apply Nf.cons)); intro bk)) | refine walk ?_ | (refine RD_Lw ?_; intro F; (first | (apply Stp_boxNf; rfl; (focus repeat (first | exact Nf.nil | apply Nf.cons)); intro bk) | (apply Stp_pu; exact PuA)); refine ⟨_, EndsA, QFA, ?_⟩))
      exact ret_1 _ [] (.tmp rfl) .nil ⟨by simp at h3; simp [← hi, h3], rfl⟩
    repeat (first | (apply RL_st; rfl; (apply Stp_boxNf; rfl; (focus repeat (first | exact Nf.nil | apply Nf.cons)); intro bk)) | refine walk ?_ | (refine RD_Lw ?_; intro F; (first | (apply Stp_boxNf; rfl; (focus repeat (first | exact Nf.nil | apply Nf.cons)); intro bk) | (apply Stp_pu; exact PuA)); refine ⟨_, EndsA, QFA, ?_⟩))
    simp at h3
    exact ⟨k + 1, by omega, ⟨by omega, by rw [← hi]; simp [h3]⟩, (by repeat (first | exact trivial | refine ⟨rfl, ?_⟩)), (by first | exact .refl _ | focus repeat (first | exact SubO.nil | (apply SubO.cons; focus repeat' constructor)))⟩
  simp only [decide_eq_false_iff_not, Int.ofNat_lt] at hc
  have hres2 : (decide (a.links = b.links) && decide (a.shifts = b.shifts)) = res := by rw [← hi, dec_nil (xs := a.rules) (by omega) (by omega)]; simp
  clear hi hres
  repeat (first | (apply RL_st; rfl; (apply Stp_boxNf; rfl; (focus repeat (first | exact Nf.nil | apply Nf.cons)); intro bk)) | refine walk ?_ | (refine RD_Lw ?_; intro F; (first | (apply Stp_boxNf; rfl; (focus repeat (first | exact Nf.nil | apply Nf.cons)); intro bk) | (apply Stp_pu; exact PuA)); refine ⟨_, EndsA, QFA, ?_⟩))
  refine W_loopF [(2, _), (3, _), (4, _)] _ (fun k : Nat => [(6, .int .i64 k)]) (fun _ => []) (fun k => k ≤ a.links.length ∧ (decide (a.links.drop k = b.links.drop k) && decide (a.shifts = b.shifts)) = res) (fun k => a.links.length - k) 0 ⟨rfl, rfl, rfl, rfl, trivial⟩ (.refl _) ⟨by omega, by simpa using hres2⟩ ?_
  rintro k ⟨hk, hi⟩
  repeat (first | (apply RL_st; rfl; (apply Stp_boxNf; rfl; (focus repeat (first | exact Nf.nil | apply Nf.cons)); intro bk)) | refine walk ?_ | (refine RD_Lw ?_; intro F; (first | (apply Stp_boxNf; rfl; (focus repeat (first | exact Nf.nil | apply Nf.cons)); intro bk) | (apply Stp_pu; exact PuA)); refine ⟨_, EndsA, QFA, ?_⟩))
  refine W_cond rfl (fun hc => ?_) (fun hc => ?_)
  · simp only [decide_eq_true_eq, Int.ofNat_lt] at hc
    have hcy : k < b.links.length := by omega
    obtain ⟨hna, hca⟩ := hA.l.rd k _ (List.getElem?_eq_getElem hc)
    obtain ⟨hnb, hcb⟩ := hB.l.rd k _ (List.getElem?_eq_getElem hcy)
    rw [drop_cons hc, drop_cons hcy, dec_cons] at hi
    generalize a.links[k] = p at *
    generalize b.links[k] = q at *
    repeat (first | (apply RL_pu; rfl; (first | (apply Pu_indexAddr; rfl; rfl; omega; omega; (first | exact hna | exact hnb)) | (apply Pu_loadON; rfl; (first | exact hca | exact hcb); rfl) | (apply Pu_loadO1'; rfl; (first | exact hca | exact hcb); rfl) | (apply Pu_loadO1; rfl; (first | exact hca 0 _ rfl | exact hcb 0 _ rfl)))) | (apply RL_st; rfl; (apply Stp_boxNf; rfl; (focus repeat (first | exact Nf.nil | apply Nf.cons)); intro bk)) | (apply RD_Q; rfl; rfl; decide +kernel; rfl; rfl; (first | (apply Qy_y; rfl; (first | (apply Pu_indexAddr; rfl; rfl; omega; omega; (first | exact hna | exact hnb)) | (apply Pu_loadON; rfl; (first | exact hca | exact hcb); rfl) | (apply Pu_loadO1'; rfl; (first | exact hca | exact hcb); rfl) | (apply Pu_loadO1; rfl; (first | exact hca 0 _ rfl | exact hcb 0 _ rfl)))) | exact QyA)) | refine walk1 ?_ | (refine RD_Lw ?_; intro F; (first | (apply Stp_boxNf; rfl; (focus repeat (first | exact Nf.nil | apply Nf.cons)); intro bk) | (apply Stp_pu; first | (apply Pu_indexAddr; rfl; rfl; omega; omega; (first | exact hna | exact hnb)) | (apply Pu_loadON; rfl; (first | exact hca | exact hcb); rfl) | (apply Pu_loadO1'; rfl; (first | exact hca | exact hcb); rfl) | (apply Pu_loadO1; rfl; (first | exact hca 0 _ rfl | exact hcb 0 _ rfl)) | exact PuA)); refine ⟨_, EndsA, (by repeat (first | exact QF.nil | (apply QF.mk; rfl; rfl; decide +kernel; (first | (apply Qy_y; rfl; (first | (apply Pu_indexAddr; rfl; rfl; omega; omega; (first | exact hna | exact hnb)) | (apply Pu_loadON; rfl; (first | exact hca | exact hcb); rfl) | (apply Pu_loadO1'; rfl; (first | exact hca | exact hcb); rfl) | (apply Pu_loadO1; rfl; (first | exact hca 0 _ rfl | exact hcb 0 _ rfl)))) | exact QyA)))), ?_⟩))
    refine W_cond rfl (fun h3 => ?_) (fun h3 => ?_)
    · repeat (first | (apply RL_st; rfl; (apply Stp_boxNf; rfl; (focus repeat (first | exact Nf.nil | apply Nf.cons)); intro bk)) | refine walk ?_ | (refine RD_Lw ?_; intro F; (first | (apply Stp_boxNf; rfl; (focus repeat (first | exact Nf.nil | apply Nf.cons)); intro bk) | (apply Stp_pu; exact PuA)); refine ⟨_, EndsA, QFA, ?_⟩))
      exact ret_1 _ [] (.tmp rfl) .nil ⟨by simp at h3; simp [← hi, h3], rfl⟩
    repeat (first | (apply RL_st; rfl; (apply Stp_boxNf; rfl; (focus repeat (first | exact Nf.nil | apply Nf.cons)); intro bk)) | refine walk ?_ | (refine RD_Lw ?_; intro F; (first | (apply Stp_boxNf; rfl; (focus repeat (first | exact Nf.nil | apply Nf.cons)); intro bk) | (apply Stp_pu; exact PuA)); refine ⟨_, EndsA, QFA, ?_⟩))
    simp at h3
    exact ⟨k + 1, by omega, ⟨by omega, by rw [← hi]; simp [h3]⟩, (by repeat (first | exact trivial | refine ⟨rfl, ?_⟩)), (by first | exact .refl _ | focus repeat (first | exact SubO.nil | (apply SubO.cons; focus repeat' constructor)))⟩
  simp only [decide_eq_false_iff_not, Int.ofNat_lt] at hc
  have hres3 : decide (a.shifts = b.shifts) = res := by rw [← hi, dec_nil (xs := a.links) (by omega) (by omega)]; simp
  clear hi hres2
  repeat (first | (apply RL_st; rfl; (apply Stp_boxNf; rfl; (focus repeat (first | exact Nf.nil | apply Nf.cons)); intro bk)) | refine walk ?_ | (refine RD_Lw ?_; intro F; (first | (apply Stp_boxNf; rfl; (focus repeat (first | exact Nf.nil | apply Nf.cons)); intro bk) | (apply Stp_pu; exact PuA)); refine ⟨_, EndsA, QFA, ?_⟩))
  refine W_loopF [(2, _), (3, _), (4, _)] _ (fun k : Nat => [(7, .int .i64 k)]) (fun _ => []) (fun k => k ≤ a.shifts.length ∧ decide (a.shifts.drop k = b.shifts.drop k) = res) (fun k => a.shifts.length - k) 0 ⟨rfl, rfl, rfl, rfl, trivial⟩ (.refl _) ⟨by omega, by simpa using hres3⟩ ?_
  rintro k ⟨hk, hi⟩
  repeat (first | (apply RL_st; rfl; (apply Stp_boxNf; rfl; (focus repeat (first | exact Nf.nil | apply Nf.cons)); intro bk)) | refine walk ?_ | (refine RD_Lw ?_; intro F; (first | (apply Stp_boxNf; rfl; (focus repeat (first | exact Nf.nil | apply Nf.cons)); intro bk) | (apply Stp_pu; exact PuA)); refine ⟨_, EndsA, QFA, ?_⟩))
  refine W_cond rfl (fun hc => ?_) (fun hc => ?_)
  · simp only [decide_eq_true_eq, Int.ofNat_lt] at hc
    have hcy : k < b.shifts.length := by omega
    obtain ⟨hna, hca⟩ := hA.s.rd k _ (List.getElem?_eq_getElem hc)
    obtain ⟨hnb, hcb⟩ := hB.s.rd k _ (List.getElem?_eq_getElem hcy)
    rw [drop_cons hc, drop_cons hcy, dec_cons] at hi
    generalize a.shifts[k] = p at *
    generalize b.shifts[k] = q at *
    repeat (first | (apply RL_pu; rfl; (first | (apply Pu_indexAddr; rfl; rfl; omega; omega; (first | exact hna | exact hnb)) | (apply Pu_loadON; rfl; (first | exact hca | exact hcb); rfl) | (apply Pu_loadO1'; rfl; (first | exact hca | exact hcb); rfl) | (apply Pu_loadO1; rfl; (first | exact hca 0 _ rfl | exact hcb 0 _ rfl)))) | (apply RL_st; rfl; (apply Stp_boxNf; rfl; (focus repeat (first | exact Nf.nil | apply Nf.cons)); intro bk)) | (apply RD_Q; rfl; rfl; decide +kernel; rfl; rfl; (first | (apply Qy_y; rfl; (first | (apply Pu_indexAddr; rfl; rfl; omega; omega; (first | exact hna | exact hnb)) | (apply Pu_loadON; rfl; (first | exact hca | exact hcb); rfl) | (apply Pu_loadO1'; rfl; (first | exact hca | exact hcb); rfl) | (apply Pu_loadO1; rfl; (first | exact hca 0 _ rfl | exact hcb 0 _ rfl)))) | exact QyA)) | refine walk1 ?_ | (refine RD_Lw ?_; intro F; (first | (apply Stp_boxNf; rfl; (focus repeat (first | exact Nf.nil | apply Nf.cons)); intro bk) | (apply Stp_pu; first | (apply Pu_indexAddr; rfl; rfl; omega; omega; (first | exact hna | exact hnb)) | (apply Pu_loadON; rfl; (first | exact hca | exact hcb); rfl) | (apply Pu_loadO1'; rfl; (first | exact hca | exact hcb); rfl) | (apply Pu_loadO1; rfl; (first | exact hca 0 _ rfl | exact hcb 0 _ rfl)) | exact PuA)); refine ⟨_, EndsA, (by repeat (first | exact QF.nil | (apply QF.mk; rfl; rfl; decide +kernel; (first | (apply Qy_y; rfl; (first | (apply Pu_indexAddr; rfl; rfl; omega; omega; (first | exact hna | exact hnb)) | (apply Pu_loadON; rfl; (first | exact hca | exact hcb); rfl) | (apply Pu_loadO1'; rfl; (first | exact hca | exact hcb); rfl) | (apply Pu_loadO1; rfl; (first | exact hca 0 _ rfl | exact hcb 0 _ rfl)))) | exact QyA)))), ?_⟩))
    refine W_cond rfl (fun h3 => ?_) (fun h3 => ?_)
    · repeat (first | (apply RL_st; rfl; (apply Stp_boxNf; rfl; (focus repeat (first | exact Nf.nil | apply Nf.cons)); intro bk)) | refine walk ?_ | (refine RD_Lw ?_; intro F; (first | (apply Stp_boxNf; rfl; (focus repeat (first | exact Nf.nil | apply Nf.cons)); intro bk) | (apply Stp_pu; exact PuA)); refine ⟨_, EndsA, QFA, ?_⟩))
      exact ret_1 _ [] (.tmp rfl) .nil ⟨by simp at h3; simp [← hi, h3], rfl⟩
    repeat (first | (apply RL_st; rfl; (apply Stp_boxNf; rfl; (focus repeat (first | exact Nf.nil | apply Nf.cons)); intro bk)) | refine walk ?_ | (refine RD_Lw ?_; intro F; (first | (apply Stp_boxNf; rfl; (focus repeat (first | exact Nf.nil | apply Nf.cons)); intro bk) | (apply Stp_pu; exact PuA)); refine ⟨_, EndsA, QFA, ?_⟩))
    simp at h3
    exact ⟨k + 1, by omega, ⟨by omega, by rw [← hi]; simp [h3]⟩, (by repeat (first | exact trivial | refine ⟨rfl, ?_⟩)), (by first | exact .refl _ | focus repeat (first | exact SubO.nil | (apply SubO.cons; focus repeat' constructor)))⟩
  simp only [decide_eq_false_iff_not, Int.ofNat_lt] at hc
  repeat (first | (apply RL_st; rfl; (apply Stp_boxNf; rfl; (focus repeat (first | exact Nf.nil | apply Nf.cons)); intro bk)) | refine walk ?_ | (refine RD_Lw ?_; intro F; (first | (apply Stp_boxNf; rfl; (focus repeat (first | exact Nf.nil | apply Nf.cons)); intro bk) | (apply Stp_pu; exact PuA)); refine ⟨_, EndsA, QFA, ?_⟩))
  exact ret_1 _ [] (.tmp rfl) .nil ⟨by rw [← hi, dec_nil (by omega) (by omega)], rfl⟩

def memB (x : ByteArray) : List ByteArray → Bool
  | [] => false
  | y :: l => decide (y = x) || memB x l

/-- The index of the first rule of a set, or 0. -/
def firstOf : List DRule → ByteArray → Nat → Nat
  | [], _, _ => 0
  | r :: l, x, k => if r.name = x then k else firstOf l x (k + 1)

end Go.Proofs.YtfhjfpikngcknaaDoor
