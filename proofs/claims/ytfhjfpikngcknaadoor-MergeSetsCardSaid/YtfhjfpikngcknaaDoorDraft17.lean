/- Contracts: analemmalaw17.Draft (a list of bytes): at, clock, pair. -/
import Derived.Test.YtfhjfpikngcknaaDoorCopy
import Derived.Test.YtfhjfpikngcknaaDoorWkQ
namespace Go.Proofs.YtfhjfpikngcknaaDoor
open Go Go.RowKit Go.Wk
attribute [local irreducible] W RL Does thenQ blockQ retQ Calls Pu Stp RD Qy Ay DoesIn

def byEnc (n : Int) : List Value := [.int .u8 n]
theorem byEnc.len (n : Int) : (byEnc n).length = 1 := rfl
/-- A byte of the list, round and round. -/
def atB (l : List Int) (i n : Int) : Int := if l.length = 0 then 0 else l.getD (i % (l.length : Int)).toNat 0 % n
theorem atB_range (l : List Int) (i n : Int) (hn : 0 < n) : 0 ≤ atB l i n ∧ atB l i n < n := by
  unfold atB
  split
  · exact ⟨Int.le_refl 0, hn⟩
  · exact ⟨Int.emod_nonneg _ (by omega), Int.emod_lt_of_pos _ hn⟩
theorem at_spec (A : Option Addr) (c : Nat) (l : List Int) (i n : Int) (w : World) (hA : RdSl w A c byEnc 1 l) (hr : ∀ x ∈ l, inR .u8 x) (hi : 0 ≤ i) (hn : 0 < n) :
    Does Tryd.prog 27 [.slice A l.length c, .int .i64 i, .int .i64 n] w (fun v O => v = .int .i64 (atB l i n) ∧ O = []) := by
  have hs1 := hA.le
  have hs2 := hA.cap
  unfold maxLen at hs2
  refine Does_of_W Tryd.func27 rfl rfl rfl rfl ?_
  repeat (first | refine walk ?_)
  refine W_cond rfl (fun h => ?_) (fun h => ?_)
  · repeat (first | refine walk ?_)
    exact ret_1 _ [] (.tmp rfl) .nil ⟨by simp at h; simp [atB, h], rfl⟩
  have h0 : l.length ≠ 0 := by simpa using h
  have hp : (0 : Int) < l.length := by omega
  have hm0 := Int.emod_nonneg i (b := (l.length : Int)) (by omega)
  have hm1 := Int.emod_lt_of_pos i hp
  have hk : (i % (l.length : Int)).toNat < l.length := by omega
  obtain ⟨hna, hca⟩ := hA.rd _ _ (List.getElem?_eq_getElem hk)
  have hv := hr _ (List.getElem_mem hk)
  have e : atB l i n = l[(i % (l.length : Int)).toNat] % n := by
    rw [atB, if_neg h0, List.getD_eq_getElem?_getD, List.getElem?_eq_getElem hk]
    rfl
  rw [e]
  generalize l[(i % (l.length : Int)).toNat] = r at *
  rw [inR_u8] at hv
  repeat (first | (apply RL_pu; rfl; (first | (apply Pu_indexAddr; rfl; rfl; omega; omega; exact hna) | (apply Pu_loadO1'; rfl; exact hca; rfl) | (apply Pu_loadO1; rfl; exact hca 0 _ rfl))) | refine walk1 ?_)
  exact ret_1 _ [] (.tmp rfl) .nil ⟨rfl, rfl⟩

def clockB (l : List Int) (i : Int) : DClock := ⟨atB l i 49 * 1800, atB l (i + 1) 3⟩
theorem clock_spec (A : Option Addr) (c : Nat) (l : List Int) (i : Int) (w : World) (hA : RdSl w A c byEnc 1 l) (hr : ∀ x ∈ l, inR .u8 x) (hi : 0 ≤ i) (hi2 : i ≤ 1000) :
    Does Tryd.prog 28 [.slice A l.length c, .int .i64 i] w (fun v O => v = .agg #[.int .i64 (clockB l i).sec, .int .i64 (clockB l i).base] ∧ O = []) := by
  have h1 := atB_range l i 49 (by decide)
  have h2 := atB_range l (i + 1) 3 (by decide)
  refine Does_of_W Tryd.func28 rfl rfl rfl rfl ?_
  repeat (first | (apply RL_pu; rfl; (apply Pu_mul; rfl; rfl; omega)) | (apply RL_st0; (first | (apply Stp_call (h := fun w' hw _ => at_spec A c l (i) 49 w' (hA.up hw) hr (by omega) (by omega)); rfl; rintro v O' ⟨rfl, rfl⟩) | (apply Stp_call (h := fun w' hw _ => at_spec A c l (i + 1) 3 w' (hA.up hw) hr (by omega) (by omega)); rfl; rintro v O' ⟨rfl, rfl⟩))) | (apply RL_st; rfl; (first | (apply Stp_call (h := fun w' hw _ => at_spec A c l (i) 49 w' (hA.up hw) hr (by omega) (by omega)); rfl; rintro v O' ⟨rfl, rfl⟩) | (apply Stp_call (h := fun w' hw _ => at_spec A c l (i + 1) 3 w' (hA.up hw) hr (by omega) (by omega)); rfl; rintro v O' ⟨rfl, rfl⟩) | (apply Stp_alloc; intro bk))) | refine walk1 ?_)
  exact ret_1 _ [] (.cellB rfl (by (focus repeat' constructor)) rfl rfl) .nil ⟨rfl, rfl⟩

def dayB (l : List Int) (i : Int) : List DDay := [⟨2, atB l i 7, 0⟩, ⟨3, atB l i 7, 1 + 7 * atB l (i + 1) 4⟩, ⟨1, 0, 1 + atB l (i + 1) 28⟩]
def dayOf (l : List Int) (i : Int) : DDay := (dayB l i).getD (atB l (i + 2) 3).toNat ⟨0, 0, 0⟩
theorem DDay.len3 (d : DDay) : d.enc.length = 3 := rfl
theorem day17_spec (A : Option Addr) (c : Nat) (l : List Int) (i : Int) (ad : Addr) (w : World) (hA : RdSl w A c byEnc 1 l) (hr : ∀ x ∈ l, inR .u8 x) (hi : 0 ≤ i) (hi2 : i ≤ 1000) (hp : CellsAt w ad [.slice A l.length c]) :
    Does Tryd.prog 40 [.int .i64 i, .pointer (some ad)] w (fun v O => v = .agg #[.int .i64 (dayOf l i).kind, .int .i64 (dayOf l i).week, .int .i64 (dayOf l i).day] ∧ O = []) := by
  have h1 := atB_range l i 7 (by decide)
  have h2 := atB_range l (i + 1) 4 (by decide)
  have h3 := atB_range l (i + 1) 28 (by decide)
  have h4 := atB_range l (i + 2) 3 (by decide)
  refine Does_of_W Tryd.func40 rfl rfl rfl rfl ?_
  repeat (first | (apply RL_pu; rfl; (first | (apply Pu_loadO1; rfl; exact hp 0 _ rfl) | (apply Pu_mul; rfl; rfl; omega))) | (apply RL_st0; (first | (apply Stp_call (h := fun w' hw _ => at_spec A c l (i) 7 w' (hA.up hw) hr (by omega) (by omega)); rfl; rintro v O' ⟨rfl, rfl⟩) | (apply Stp_call (h := fun w' hw _ => at_spec A c l (i + 1) 4 w' (hA.up hw) hr (by omega) (by omega)); rfl; rintro v O' ⟨rfl, rfl⟩) | (apply Stp_call (h := fun w' hw _ => at_spec A c l (i + 1) 28 w' (hA.up hw) hr (by omega) (by omega)); rfl; rintro v O' ⟨rfl, rfl⟩) | (apply Stp_call (h := fun w' hw _ => at_spec A c l (i + 2) 3 w' (hA.up hw) hr (by omega) (by omega)); rfl; rintro v O' ⟨rfl, rfl⟩))) | (apply RL_st; rfl; (first | (apply Stp_call (h := fun w' hw _ => at_spec A c l (i) 7 w' (hA.up hw) hr (by omega) (by omega)); rfl; rintro v O' ⟨rfl, rfl⟩) | (apply Stp_call (h := fun w' hw _ => at_spec A c l (i + 1) 4 w' (hA.up hw) hr (by omega) (by omega)); rfl; rintro v O' ⟨rfl, rfl⟩) | (apply Stp_call (h := fun w' hw _ => at_spec A c l (i + 1) 28 w' (hA.up hw) hr (by omega) (by omega)); rfl; rintro v O' ⟨rfl, rfl⟩) | (apply Stp_call (h := fun w' hw _ => at_spec A c l (i + 2) 3 w' (hA.up hw) hr (by omega) (by omega)); rfl; rintro v O' ⟨rfl, rfl⟩) | (apply Stp_alloc; intro bk) | (apply Stp_buildSliceC; rfl; rfl; rfl; rfl; (focus repeat (first | exact Nf.nil | apply Nf.cons)); intro bk))) | (apply RD_Q; rfl; rfl; decide +kernel; rfl; rfl; (first | (apply Qy_y; rfl; (first | (apply Pu_loadO1; rfl; exact hp 0 _ rfl) | (apply Pu_mul; rfl; rfl; omega))) | exact QyA)) | refine walk1 ?_ | (refine RD_G0w ?_; intro F; (first | (apply Stp_call (h := fun w' hw _ => at_spec A c l (i) 7 w' (hA.up hw) hr (by omega) (by omega)); rfl; rintro v O' ⟨rfl, rfl⟩) | (apply Stp_call (h := fun w' hw _ => at_spec A c l (i + 1) 4 w' (hA.up hw) hr (by omega) (by omega)); rfl; rintro v O' ⟨rfl, rfl⟩) | (apply Stp_call (h := fun w' hw _ => at_spec A c l (i + 1) 28 w' (hA.up hw) hr (by omega) (by omega)); rfl; rintro v O' ⟨rfl, rfl⟩) | (apply Stp_call (h := fun w' hw _ => at_spec A c l (i + 2) 3 w' (hA.up hw) hr (by omega) (by omega)); rfl; rintro v O' ⟨rfl, rfl⟩)); refine ⟨_, EndsA, SubO.right _ _, ?_⟩) | (refine RD_Lw ?_; intro F; (first | (apply Stp_call (h := fun w' hw _ => at_spec A c l (i) 7 w' (hA.up hw) hr (by omega) (by omega)); rfl; rintro v O' ⟨rfl, rfl⟩) | (apply Stp_call (h := fun w' hw _ => at_spec A c l (i + 1) 4 w' (hA.up hw) hr (by omega) (by omega)); rfl; rintro v O' ⟨rfl, rfl⟩) | (apply Stp_call (h := fun w' hw _ => at_spec A c l (i + 1) 28 w' (hA.up hw) hr (by omega) (by omega)); rfl; rintro v O' ⟨rfl, rfl⟩) | (apply Stp_call (h := fun w' hw _ => at_spec A c l (i + 2) 3 w' (hA.up hw) hr (by omega) (by omega)); rfl; rintro v O' ⟨rfl, rfl⟩) | (apply Stp_alloc; intro bk) | (apply Stp_buildSliceC; rfl; rfl; rfl; rfl; (focus repeat (first | exact Nf.nil | apply Nf.cons)); intro bk) | (apply Stp_storeNf; rfl; rfl; (focus repeat' constructor); (focus repeat (first | exact Nf.nil | apply Nf.cons)); rfl; rfl; rfl; (focus repeat' constructor)) | (apply Stp_pu; first | (apply Pu_loadO1; rfl; exact hp 0 _ rfl) | (apply Pu_mul; rfl; rfl; omega) | exact PuA)); refine ⟨_, EndsA, (by repeat (first | exact QF.nil | (apply QF.mk; rfl; rfl; decide +kernel; (first | (apply Qy_y; rfl; (first | (apply Pu_loadO1; rfl; exact hp 0 _ rfl) | (apply Pu_mul; rfl; rfl; omega))) | exact QyA)))), ?_⟩) | (apply RD_W; rfl; intro bk))
  have hget : (dayB l i)[(atB l (i + 2) 3).toNat]? = some (dayOf l i) := by
    have hk : (atB l (i + 2) 3).toNat < (dayB l i).length := by simp only [dayB, List.length_cons, List.length_nil]; omega
    rw [dayOf, List.getD_eq_getElem?_getD, List.getElem?_eq_getElem hk]
    rfl
  repeat (first | (apply RL_pu; rfl; (apply Pu_loadN (cs := (dayOf l i).enc); rfl; rfl; (intro w' _ hO; exact ((litRd (c := 3) (l := dayB l i) (t := 42) DDay.len3 (Nat.le_refl 3) (by decide) (hO.of (A := .blk bk ((dayB l i).flatMap DDay.enc) _) (by (focus repeat' constructor)))).rd _ _ hget).2))) | (apply RL_st; rfl; (first | (apply Stp_alloc; intro bk) | (apply Stp_buildSliceC; rfl; rfl; rfl; rfl; (focus repeat (first | exact Nf.nil | apply Nf.cons)); intro bk))) | (apply RD_Q; rfl; rfl; decide +kernel; rfl; rfl; (first | (apply Qy_y; rfl; (apply Pu_loadN (cs := (dayOf l i).enc); rfl; rfl; (intro w' _ hO; exact ((litRd (c := 3) (l := dayB l i) (t := 42) DDay.len3 (Nat.le_refl 3) (by decide) (hO.of (A := .blk bk ((dayB l i).flatMap DDay.enc) _) (by (focus repeat' constructor)))).rd _ _ hget).2))) | exact QyA)) | refine walk1 ?_ | (refine RD_Lw ?_; intro F; (first | (apply Stp_alloc; intro bk) | (apply Stp_buildSliceC; rfl; rfl; rfl; rfl; (focus repeat (first | exact Nf.nil | apply Nf.cons)); intro bk) | (apply Stp_storeNf; rfl; rfl; (focus repeat' constructor); (focus repeat (first | exact Nf.nil | apply Nf.cons)); rfl; rfl; rfl; (focus repeat' constructor)) | (apply Stp_pu; first | (apply Pu_loadN (cs := (dayOf l i).enc); rfl; rfl; (intro w' _ hO; exact ((litRd (c := 3) (l := dayB l i) (t := 42) DDay.len3 (Nat.le_refl 3) (by decide) (hO.of (A := .blk bk ((dayB l i).flatMap DDay.enc) _) (by (focus repeat' constructor)))).rd _ _ hget).2)) | exact PuA)); refine ⟨_, EndsA, (by repeat (first | exact QF.nil | (apply QF.mk; rfl; rfl; decide +kernel; (first | (apply Qy_y; rfl; (apply Pu_loadN (cs := (dayOf l i).enc); rfl; rfl; (intro w' _ hO; exact ((litRd (c := 3) (l := dayB l i) (t := 42) DDay.len3 (Nat.le_refl 3) (by decide) (hO.of (A := .blk bk ((dayB l i).flatMap DDay.enc) _) (by (focus repeat' constructor)))).rd _ _ hget).2))) | exact QyA)))), ?_⟩) | (apply RD_W; rfl; intro bk))
  exact ret_1 _ [] (.cellB rfl (by (focus repeat' constructor)) rfl rfl) .nil ⟨rfl, rfl⟩
end Go.Proofs.YtfhjfpikngcknaaDoor
