/- Contracts: what drafts of days, times and rules return (some day, time, rule). -/
import Derived.Test.YtfhjfpikngcknaaOpn
namespace Go.Proofs.Ytfhjfpikngcknaa
open Go Go.RowKit Go.Wk
attribute [local irreducible] W RL Does thenQ blockQ retQ Calls Pu Stp RD Qy Ay

theorem fixed_spec (x : Int) (w : World) : Does Try.prog 95 [.int .i64 x] w (fun v O => v = .agg (⟨1, 0, x⟩ : DDay).enc.toArray ∧ O = []) := by
  refine Does_of_W Try.func95 rfl rfl rfl rfl ?_
  repeat (first | (apply RL_st; rfl; (apply Stp_alloc; intro bk)) | refine walk ?_)
  exact ret_1 _ [] (.cellB rfl (by (focus repeat' constructor)) rfl rfl) .nil ⟨rfl, rfl⟩
theorem last_spec (x : Int) (w : World) : Does Try.prog 96 [.int .i64 x] w (fun v O => v = .agg (⟨2, x, 0⟩ : DDay).enc.toArray ∧ O = []) := by
  refine Does_of_W Try.func96 rfl rfl rfl rfl ?_
  repeat (first | (apply RL_st; rfl; (apply Stp_alloc; intro bk)) | refine walk ?_)
  exact ret_1 _ [] (.cellB rfl (by (focus repeat' constructor)) rfl rfl) .nil ⟨rfl, rfl⟩
theorem from_spec (x y : Int) (w : World) : Does Try.prog 97 [.int .i64 x, .int .i64 y] w (fun v O => v = .agg (⟨3, x, y⟩ : DDay).enc.toArray ∧ O = []) := by
  refine Does_of_W Try.func97 rfl rfl rfl rfl ?_
  repeat (first | (apply RL_st; rfl; (apply Stp_alloc; intro bk)) | refine walk ?_)
  exact ret_1 _ [] (.cellB rfl (by (focus repeat' constructor)) rfl rfl) .nil ⟨rfl, rfl⟩
theorem to_spec (x y : Int) (w : World) : Does Try.prog 98 [.int .i64 x, .int .i64 y] w (fun v O => v = .agg (⟨4, x, y⟩ : DDay).enc.toArray ∧ O = []) := by
  refine Does_of_W Try.func98 rfl rfl rfl rfl ?_
  repeat (first | (apply RL_st; rfl; (apply Stp_alloc; intro bk)) | refine walk ?_)
  exact ret_1 _ [] (.cellB rfl (by (focus repeat' constructor)) rfl rfl) .nil ⟨rfl, rfl⟩

def made02 (d : D02) : DDay := if d.kind % 4 = 0 then ⟨1, 0, 1 + d.day % 31⟩ else if d.kind % 4 = 1 then ⟨2, d.week % 7, 0⟩ else if d.kind % 4 = 2 then ⟨3, d.week % 7, 1 + d.day % 31⟩ else ⟨4, d.week % 7, 1 + d.day % 31⟩
theorem made02_spec (d : D02) (hd : d.ok) (w : World) : Does Try.prog 83 [.agg d.enc.toArray] w (fun v O => v = .agg (made02 d).enc.toArray ∧ O = []) := by
  simp only [D02.ok, inR_u8] at hd
  refine Does_of_W Try.func83 rfl rfl rfl rfl ?_
  repeat' (first | (apply RL_st0; (first | (apply Stp_call (h := fun w' _ _ => fixed_spec _ w'); rfl; rintro v O' ⟨rfl, rfl⟩) | (apply Stp_call (h := fun w' _ _ => last_spec _ w'); rfl; rintro v O' ⟨rfl, rfl⟩) | (apply Stp_call (h := fun w' _ _ => from_spec _ _ w'); rfl; rintro v O' ⟨rfl, rfl⟩) | (apply Stp_call (h := fun w' _ _ => to_spec _ _ w'); rfl; rintro v O' ⟨rfl, rfl⟩))) | (apply RL_st; rfl; (first | (apply Stp_call (h := fun w' _ _ => fixed_spec _ w'); rfl; rintro v O' ⟨rfl, rfl⟩) | (apply Stp_call (h := fun w' _ _ => last_spec _ w'); rfl; rintro v O' ⟨rfl, rfl⟩) | (apply Stp_call (h := fun w' _ _ => from_spec _ _ w'); rfl; rintro v O' ⟨rfl, rfl⟩) | (apply Stp_call (h := fun w' _ _ => to_spec _ _ w'); rfl; rintro v O' ⟨rfl, rfl⟩) | (apply Stp_boxNf; rfl; (focus repeat (first | exact Nf.nil | apply Nf.cons)); intro bk) | (apply Stp_alloc; intro bk))) | refine walk ?_ | (refine RD_G0w ?_; intro F; (first | (apply Stp_call (h := fun w' _ _ => fixed_spec _ w'); rfl; rintro v O' ⟨rfl, rfl⟩) | (apply Stp_call (h := fun w' _ _ => last_spec _ w'); rfl; rintro v O' ⟨rfl, rfl⟩) | (apply Stp_call (h := fun w' _ _ => from_spec _ _ w'); rfl; rintro v O' ⟨rfl, rfl⟩) | (apply Stp_call (h := fun w' _ _ => to_spec _ _ w'); rfl; rintro v O' ⟨rfl, rfl⟩)); refine ⟨_, EndsA, SubO.right _ _, ?_⟩) | (refine RD_Lw ?_; intro F; (first | (apply Stp_call (h := fun w' _ _ => fixed_spec _ w'); rfl; rintro v O' ⟨rfl, rfl⟩) | (apply Stp_call (h := fun w' _ _ => last_spec _ w'); rfl; rintro v O' ⟨rfl, rfl⟩) | (apply Stp_call (h := fun w' _ _ => from_spec _ _ w'); rfl; rintro v O' ⟨rfl, rfl⟩) | (apply Stp_call (h := fun w' _ _ => to_spec _ _ w'); rfl; rintro v O' ⟨rfl, rfl⟩) | (apply Stp_boxNf; rfl; (focus repeat (first | exact Nf.nil | apply Nf.cons)); intro bk) | (apply Stp_alloc; intro bk) | (apply Stp_storeNf; rfl; rfl; (focus repeat' constructor); (focus repeat (first | exact Nf.nil | apply Nf.cons)); rfl; rfl; rfl; (focus repeat' constructor)) | (apply Stp_pu; exact PuA)); refine ⟨_, EndsA, QFA, ?_⟩) | (apply RD_W; rfl; intro bk) | (refine W_cond rfl (fun hc => ?_) (fun hc => ?_)))
  all_goals exact ret_1 _ [] (.cellB rfl (by (focus repeat' constructor)) rfl rfl) .nil ⟨by simp only [decide_eq_true_eq, decide_eq_false_iff_not] at *; simp only [made02, *, if_true, if_false]; rfl, rfl⟩

def made06 (sec base : Int) : DClock := ⟨sec.tmod 604800, base % 3⟩
theorem made06_spec (sec base : Int) (h1 : inR .i32 sec) (h2 : inR .u8 base) (w : World) : Does Try.prog 84 [.int .i32 sec, .int .u8 base] w (fun v O => v = .agg (made06 sec base).enc.toArray ∧ O = []) := by
  simp only [inR_u8, inR_i32] at h1 h2
  refine Does_of_W Try.func84 rfl rfl rfl rfl ?_
  repeat (first | (apply RL_st; rfl; (apply Stp_alloc; intro bk)) | refine walk ?_)
  exact ret_1 _ [] (.cellB rfl (by (focus repeat' constructor)) rfl rfl) .nil ⟨rfl, rfl⟩

end Go.Proofs.Ytfhjfpikngcknaa
