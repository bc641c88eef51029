/- Contracts: analemmalaw13.SameSource. -/
import Derived.Test.YtfhjfpikngcknaaKeepA
namespace Go.Proofs.Ytfhjfpikngcknaa
open Go Go.RowKit Go.Wk
attribute [local irreducible] W RL Does thenQ blockQ retQ Calls Pu Stp RD Qy Ay


theorem sameZone_spec (A B : Option Addr) (ca cb : Nat) (p q : DZone) (w : World) (hA : RdSl w A ca DEra.enc 13 p.eras) (hB : RdSl w B cb DEra.enc 13 q.eras) :
    Does Try.prog 60 [.agg #[.string p.name, .slice A p.eras.length ca], .agg #[.string q.name, .slice B q.eras.length cb]] w (fun v O => v = .bool (decide (p = q)) ∧ O = []) := by
  rw [dec_zone]
  refine Does_of_W Try.func60 rfl rfl rfl rfl ?_
  repeat (first | (apply RL_st; rfl; (apply Stp_boxNf; rfl; (focus repeat (first | exact Nf.nil | apply Nf.cons)); intro bk)) | refine walk ?_)
  refine RL_split 10 rfl (fun g1 => ?_) (fun g1 => ?_)
  · repeat (first | (apply RL_st0; (apply Stp_call (h := fun w' hw _ => equalE_spec A B ca cb p.eras q.eras w' (hA.up hw) (hB.up hw)); rfl; rintro v O' ⟨rfl, rfl⟩)) | (apply RL_st; rfl; (first | (apply Stp_call (h := fun w' hw _ => equalE_spec A B ca cb p.eras q.eras w' (hA.up hw) (hB.up hw)); rfl; rintro v O' ⟨rfl, rfl⟩) | (apply Stp_boxNf; rfl; (focus repeat (first | exact Nf.nil | apply Nf.cons)); intro bk))) | refine walk ?_)
    exact ret_1 _ [] (.tmp rfl) .nil ⟨by rw [g1]; rfl, rfl⟩
  repeat (first | (apply RL_st; rfl; (apply Stp_boxNf; rfl; (focus repeat (first | exact Nf.nil | apply Nf.cons)); intro bk)) | refine walk ?_)
  exact ret_1 _ [] (.tmp rfl) .nil ⟨by rw [g1]; rfl, rfl⟩

theorem equalFunc_spec (A B : Option Addr) (ca cb : Nat) (x y : List DZone) (w : World) (hA : RdZ w A x) (hB : RdZ w B y) (hxc : x.length ≤ ca) (hc : ca ≤ maxLen) :
    Does Try.prog 59 [.slice A x.length ca, .slice B y.length cb, .func (.func 60) #[] #[]] w (fun v O => v = .bool (decide (x = y)) ∧ O = []) := by
  unfold maxLen at hc
  generalize hres : decide (x = y) = res
  refine Does_of_W Try.func59 rfl rfl rfl rfl ?_
  repeat (first | (apply RL_st; rfl; (apply Stp_alloc; intro bk)) | refine walk ?_)
  refine W_cond rfl (fun h1 => ?_) (fun h1 => ?_)
  · repeat (first | (apply RL_st; rfl; (apply Stp_alloc; intro bk)) | refine walk ?_)
    exact ret_1 _ [] (.tmp rfl) .nil ⟨by rw [← hres, dec_len]; simp at h1; omega, rfl⟩
  have hlen : x.length = y.length := by simp at h1; omega
  clear h1
  repeat (first | (apply RL_st; rfl; (apply Stp_alloc; intro bk)) | refine walk ?_)
  refine W_loopF [(0, _), (1, _), (2, _), (6, _), (15, _), (16, _)] [] (fun k : Nat => [(17, .int .i64 k)]) (fun _ => []) (fun k => k ≤ x.length ∧ decide (x.drop k = y.drop k) = res) (fun k => x.length - k) 0 (by repeat (first | exact trivial | refine ⟨rfl, ?_⟩)) .nil ⟨by omega, hres⟩ ?_
  rintro k ⟨hk, hi⟩
  repeat (first | (apply RL_st; rfl; (apply Stp_alloc; intro bk)) | refine walk ?_)
  refine W_cond rfl (fun hc => ?_) (fun hc => ?_)
  · simp only [decide_eq_true_eq, Int.ofNat_lt] at hc
    have hcy : k < y.length := by omega
    obtain ⟨hna, cs1, ⟨Ae, ce, hE, rfl⟩, hca⟩ := hA k _ (List.getElem?_eq_getElem hc)
    obtain ⟨hnb, cs2, ⟨Be, de, hF, rfl⟩, hcb⟩ := hB k _ (List.getElem?_eq_getElem hcy)
    rw [drop_cons hc, drop_cons hcy, dec_cons] at hi
    generalize x[k] = p at *
    generalize y[k] = q at *
    repeat (first | (apply RL_pu; rfl; (first | (apply Pu_indexAddr; rfl; rfl; omega; omega; (first | exact hna | exact hnb)) | (apply Pu_loadON; rfl; (first | exact hca | exact hcb); rfl) | (apply Pu_loadO1'; rfl; (first | exact hca | exact hcb); rfl) | (apply Pu_loadO1; rfl; (first | exact hca 0 _ rfl | exact hcb 0 _ rfl)))) | (apply RL_st0; (apply Stp_callV (f := 60) (us := []) (cs := []) (vs := [.agg #[.string p.name, .slice Ae p.eras.length ce], .agg #[.string q.name, .slice Be q.eras.length de]]) (h := fun w' hw _ => sameZone_spec Ae Be ce de p q w' (hE.up hw) (hF.up hw)); rfl; rfl; rintro v O' ⟨rfl, rfl⟩)) | (apply RL_st; rfl; (first | (apply Stp_callV (f := 60) (us := []) (cs := []) (vs := [.agg #[.string p.name, .slice Ae p.eras.length ce], .agg #[.string q.name, .slice Be q.eras.length de]]) (h := fun w' hw _ => sameZone_spec Ae Be ce de p q w' (hE.up hw) (hF.up hw)); rfl; rfl; rintro v O' ⟨rfl, rfl⟩) | (apply Stp_alloc; intro bk))) | refine walk1 ?_)
    refine W_cond rfl (fun h3 => ?_) (fun h3 => ?_)
    · repeat (first | (apply RL_st; rfl; (apply Stp_alloc; intro bk)) | refine walk ?_)
      exact ret_1 _ [] (.tmp rfl) .nil ⟨by simp at h3; simp [← hi, h3], rfl⟩
    repeat (first | (apply RL_st; rfl; (apply Stp_alloc; intro bk)) | refine walk ?_)
    simp at h3
    exact ⟨k + 1, by omega, ⟨by omega, by rw [← hi]; simp [h3]⟩, (by repeat (first | exact trivial | refine ⟨rfl, ?_⟩)), .nil⟩
  simp only [decide_eq_false_iff_not, Int.ofNat_lt] at hc
  repeat (first | (apply RL_st; rfl; (apply Stp_alloc; intro bk)) | refine walk ?_)
  exact ret_1 _ [] (.tmp rfl) .nil ⟨by rw [← hi, dec_nil (by omega) (by omega)], rfl⟩

theorem dec_source2 (a b : DSource) : decide (a = b) = (decide (a.rules = b.rules) && (decide (a.zones = b.zones) && (decide (a.links = b.links) && decide (a.shifts = b.shifts)))) := by
  rcases a with ⟨_, _, _, _⟩
  rcases b with ⟨_, _, _, _⟩
  rw [Bool.eq_iff_iff]
  simp
theorem sameSource_spec (Ar Az Al As : Option Addr) (cr cz cl cs : Nat) (a : DSource) (Br Bz Bl Bs : Option Addr) (dr dz dl ds : Nat) (b : DSource) (w : World) (hA : RdSource w Ar Az Al As cr cz cl cs a) (hB : RdSource w Br Bz Bl Bs dr dz dl ds b) :
    Does Try.prog 22 [srcV Ar Az Al As cr cz cl cs a, srcV Br Bz Bl Bs dr dz dl ds b] w (fun v O => v = .bool (decide (a = b)) ∧ O = []) := by
  rw [dec_source2]
  refine Does_of_W Try.func22 rfl rfl rfl rfl ?_
  repeat (first | (apply RL_st0; (apply Stp_call (h := fun w' hw _ => equalR_spec Ar Br cr dr a.rules b.rules w' (hA.r.up hw) (hB.r.up hw)); rfl; rintro v O' ⟨rfl, rfl⟩)) | (apply RL_st; rfl; (first | (apply Stp_call (h := fun w' hw _ => equalR_spec Ar Br cr dr a.rules b.rules w' (hA.r.up hw) (hB.r.up hw)); rfl; rintro v O' ⟨rfl, rfl⟩) | (apply Stp_boxNf; rfl; (focus repeat (first | exact Nf.nil | apply Nf.cons)); intro bk))) | refine walk ?_)
  refine RL_split 10 rfl (fun g1 => ?_) (fun g1 => ?_)
  · repeat (first | (apply RL_st0; (apply Stp_call (h := fun w' hw _ => equalFunc_spec Az Bz cz dz a.zones b.zones w' (hA.z.up hw) (hB.z.up hw) hA.zle hA.zcap); rfl; rintro v O' ⟨rfl, rfl⟩)) | (apply RL_st; rfl; (first | (apply Stp_call (h := fun w' hw _ => equalFunc_spec Az Bz cz dz a.zones b.zones w' (hA.z.up hw) (hB.z.up hw) hA.zle hA.zcap); rfl; rintro v O' ⟨rfl, rfl⟩) | (apply Stp_boxNf; rfl; (focus repeat (first | exact Nf.nil | apply Nf.cons)); intro bk))) | refine walk ?_)
    refine RL_split 17 rfl (fun g2 => ?_) (fun g2 => ?_)
    · repeat (first | (apply RL_st0; (apply Stp_call (h := fun w' hw _ => equalL_spec Al Bl cl dl a.links b.links w' (hA.l.up hw) (hB.l.up hw)); rfl; rintro v O' ⟨rfl, rfl⟩)) | (apply RL_st; rfl; (first | (apply Stp_call (h := fun w' hw _ => equalL_spec Al Bl cl dl a.links b.links w' (hA.l.up hw) (hB.l.up hw)); rfl; rintro v O' ⟨rfl, rfl⟩) | (apply Stp_boxNf; rfl; (focus repeat (first | exact Nf.nil | apply Nf.cons)); intro bk))) | refine walk ?_)
      refine RL_split 24 rfl (fun g3 => ?_) (fun g3 => ?_)
      · repeat (first | (apply RL_st0; (apply Stp_call (h := fun w' hw _ => equalS_spec As Bs cs ds a.shifts b.shifts w' (hA.s.up hw) (hB.s.up hw)); rfl; rintro v O' ⟨rfl, rfl⟩)) | (apply RL_st; rfl; (first | (apply Stp_call (h := fun w' hw _ => equalS_spec As Bs cs ds a.shifts b.shifts w' (hA.s.up hw) (hB.s.up hw)); rfl; rintro v O' ⟨rfl, rfl⟩) | (apply Stp_boxNf; rfl; (focus repeat (first | exact Nf.nil | apply Nf.cons)); intro bk))) | refine walk ?_)
        exact ret_1 _ [] (.tmp rfl) .nil ⟨by rw [g1, g2, g3]; rfl, rfl⟩
      repeat (first | (apply RL_st; rfl; (apply Stp_boxNf; rfl; (focus repeat (first | exact Nf.nil | apply Nf.cons)); intro bk)) | refine walk ?_)
      exact ret_1 _ [] (.tmp rfl) .nil ⟨by rw [g1, g2, g3]; rfl, rfl⟩
    repeat (first | (apply RL_st; rfl; (apply Stp_boxNf; rfl; (focus repeat (first | exact Nf.nil | apply Nf.cons)); intro bk)) | refine walk ?_)
    exact ret_1 _ [] (.tmp rfl) .nil ⟨by rw [g1, g2]; rfl, rfl⟩
  repeat (first | (apply RL_st; rfl; (apply Stp_boxNf; rfl; (focus repeat (first | exact Nf.nil | apply Nf.cons)); intro bk)) | refine walk ?_)
  exact ret_1 _ [] (.tmp rfl) .nil ⟨by rw [g1]; rfl, rfl⟩
end Go.Proofs.Ytfhjfpikngcknaa
