/- Contracts: analemmalaw25: names and the numbers of a draft; analemmalaw21.Era. -/
import Derived.Test.YtfhjfpikngcknaaMade17
namespace Go.Proofs.Ytfhjfpikngcknaa
open Go Go.RowKit Go.Wk
attribute [local irreducible] W RL Does thenQ blockQ retQ Calls Pu Stp RD Qy Ay DoesIn

def setN25 : List ByteArray := [⟨#[82]⟩, ⟨#[69, 117, 45, 120]⟩]
def zoneN25 : List ByteArray := [⟨#[65, 47, 66]⟩, ⟨#[67]⟩, ⟨#[68, 45, 101, 47, 70, 47, 71]⟩]
def linkN25 : List ByteArray := [⟨#[88]⟩, ⟨#[65, 47, 89]⟩, ⟨#[90, 95, 49]⟩]
theorem names25_spec (w : World) : Does Try.prog 72 [] w (fun v O => ∃ a b c, v = .tuple #[.slice (some ⟨a, 0, none⟩) 2 2, .slice (some ⟨b, 0, none⟩) 3 3, .slice (some ⟨c, 0, none⟩) 3 3] ∧ O = [.blk a (setN25.flatMap strEnc) 9, .blk b (zoneN25.flatMap strEnc) 9, .blk c (linkN25.flatMap strEnc) 9]) := by
  refine Does_of_W Try.func72 rfl rfl rfl rfl ?_
  repeat (first | (apply RL_st; rfl; (apply Stp_buildSliceC; rfl; rfl; rfl; rfl; (focus repeat (first | exact Nf.nil | apply Nf.cons)); intro bk)) | refine walk ?_)
  rename_i b1 b2
  exact ret_3 (.slice (some ⟨b1, 0, none⟩) 2 2) (.slice (some ⟨b2, 0, none⟩) 3 3) (.slice (some ⟨bk, 0, none⟩) 3 3) [.blk b1 (setN25.flatMap strEnc) 9, .blk b2 (zoneN25.flatMap strEnc) 9, .blk bk (linkN25.flatMap strEnc) 9] (.tmp rfl) (.tmp rfl) (.tmp rfl) (by first | exact .refl _ | focus repeat (first | exact SubO.nil | (apply SubO.cons; focus repeat' constructor))) ⟨_, _, _, rfl, rfl⟩
/-- The next number of a draft. -/
def pk (L : List Int) (n m : Int) : Int := if L.length = 0 then (n + 1) % m else L.getD ((n + 1) % (L.length : Int)).toNat 0 % m
theorem pk_range (L : List Int) (n m : Int) (hm : 0 < m) : 0 ≤ pk L n m ∧ pk L n m < m := by
  unfold pk
  split
  · exact ⟨Int.emod_nonneg _ (by omega), Int.emod_lt_of_pos _ hm⟩
  · exact ⟨Int.emod_nonneg _ (by omega), Int.emod_lt_of_pos _ hm⟩
theorem pick_spec (As Al : Option Addr) (ls cs c : Nat) (z k : Int) (L : List Int) (n m : Int) (b1 b3 : Nat) (wr : World) (hA : RdSl wr Al c byEnc 1 L) (hr : ∀ x ∈ L, inR .u8 x) (hn : 0 ≤ n) (hn2 : n ≤ 100000) (hm : 0 < m) (O O' R1 R2 R3 : List It)
    (hu : Upd O (.blk b3 [.int .i64 n] 3) (.blk b3 [.int .i64 (n + 1)] 3) O') (hp : Pick (.blk b3 [.int .i64 n] 3) O R1) (hp' : Pick (.blk b3 [.int .i64 (n + 1)] 3) O' R2) (hq : Pick (.blk b1 [.slice As ls cs, .int .u8 z, .int .u8 k, .slice Al L.length c] 52) O' R3) :
    DoesIn Try.prog 71 [.int .i64 m, .pointer (some ⟨b3, 0, none⟩), .pointer (some ⟨b1, 0, none⟩)] wr O (fun v Ox => v = .int .i64 (pk L n m) ∧ Ox = O') := by
  have hs1 := hA.le
  have hs2 := hA.cap
  simp only [maxLen] at hs2
  refine DoesIn_of_W Try.func71 rfl rfl rfl rfl ?_
  repeat (first | (apply RL_pu; rfl; (apply Pu_loadB1; rfl; (first | exact hp | exact hp' | exact hq); rfl)) | (apply RL_st0; (apply Stp_storeNf; rfl; rfl; exact hu; (focus repeat' constructor); rfl; rfl; rfl; (focus repeat' constructor))) | (apply RL_st; rfl; (apply Stp_storeNf; rfl; rfl; exact hu; (focus repeat' constructor); rfl; rfl; rfl; (focus repeat' constructor))) | (apply RD_Q; rfl; rfl; decide +kernel; rfl; rfl; (first | (apply Qy_y; rfl; (apply Pu_loadB1; rfl; (first | exact hp | exact hp' | exact hq); rfl)) | exact QyA)) | refine walk1 ?_ | (refine RD_Lw ?_; intro F; (first | (apply Stp_storeNf; rfl; rfl; exact hu; (focus repeat' constructor); rfl; rfl; rfl; (focus repeat' constructor)) | (apply Stp_storeNf; rfl; rfl; (focus repeat' constructor); (focus repeat (first | exact Nf.nil | apply Nf.cons)); rfl; rfl; rfl; (focus repeat' constructor)) | (apply Stp_pu; first | (apply Pu_loadB1; rfl; (first | exact hp | exact hp' | exact hq); rfl) | exact PuA)); refine ⟨_, EndsA, (by repeat (first | exact QF.nil | (apply QF.mk; rfl; rfl; decide +kernel; (first | (apply Qy_y; rfl; (apply Pu_loadB1; rfl; (first | exact hp | exact hp' | exact hq); rfl)) | exact QyA)))), ?_⟩))
  refine W_cond rfl (fun h => ?_) (fun h => ?_)
  · repeat (first | (apply RL_pu; rfl; (apply Pu_loadB1; rfl; (first | exact hp' | exact hq); rfl)) | (apply RD_Q; rfl; rfl; decide +kernel; rfl; rfl; (first | (apply Qy_y; rfl; (apply Pu_loadB1; rfl; (first | exact hp' | exact hq); rfl)) | exact QyA)) | refine walk1 ?_ | (refine RD_Lw ?_; intro F; (first | (apply Stp_storeNf; rfl; rfl; (focus repeat' constructor); (focus repeat (first | exact Nf.nil | apply Nf.cons)); rfl; rfl; rfl; (focus repeat' constructor)) | (apply Stp_pu; first | (apply Pu_loadB1; rfl; (first | exact hp' | exact hq); rfl) | exact PuA)); refine ⟨_, EndsA, (by repeat (first | exact QF.nil | (apply QF.mk; rfl; rfl; decide +kernel; (first | (apply Qy_y; rfl; (apply Pu_loadB1; rfl; (first | exact hp' | exact hq); rfl)) | exact QyA)))), ?_⟩))
    exact ret_1 _ O' (.tmp rfl) (.refl _) ⟨by rw [pk, if_pos (by simpa using h)], rfl⟩
  have h0 : L.length ≠ 0 := by simpa using h
  have hp0 : (0 : Int) < L.length := by omega
  have hm0 := Int.emod_nonneg (n + 1) (b := (L.length : Int)) (by omega)
  have hm1 := Int.emod_lt_of_pos (n + 1) hp0
  have hk : ((n + 1) % (L.length : Int)).toNat < L.length := by omega
  obtain ⟨hna, hca⟩ := hA.rd _ _ (List.getElem?_eq_getElem hk)
  have hv := hr _ (List.getElem_mem hk)
  have e : pk L n m = L[((n + 1) % (L.length : Int)).toNat] % m := by
    rw [pk, if_neg h0, List.getD_eq_getElem?_getD, List.getElem?_eq_getElem hk]
    rfl
  rw [e]
  generalize L[((n + 1) % (L.length : Int)).toNat] = r at *
  rw [inR_u8] at hv
  repeat (first | (apply RL_pu; rfl; (first | (apply Pu_loadB1; rfl; (first | exact hp' | exact hq); rfl) | (apply Pu_indexAddr; rfl; rfl; omega; omega; exact hna) | (apply Pu_loadO1'; rfl; exact hca; rfl) | (apply Pu_loadO1; rfl; exact hca 0 _ rfl))) | (apply RD_Q; rfl; rfl; decide +kernel; rfl; rfl; (first | (apply Qy_y; rfl; (first | (apply Pu_loadB1; rfl; (first | exact hp' | exact hq); rfl) | (apply Pu_indexAddr; rfl; rfl; omega; omega; exact hna) | (apply Pu_loadO1'; rfl; exact hca; rfl) | (apply Pu_loadO1; rfl; exact hca 0 _ rfl))) | exact QyA)) | refine walk1 ?_ | (refine RD_Lw ?_; intro F; (first | (apply Stp_storeNf; rfl; rfl; (focus repeat' constructor); (focus repeat (first | exact Nf.nil | apply Nf.cons)); rfl; rfl; rfl; (focus repeat' constructor)) | (apply Stp_pu; first | (apply Pu_loadB1; rfl; (first | exact hp' | exact hq); rfl) | (apply Pu_indexAddr; rfl; rfl; omega; omega; exact hna) | (apply Pu_loadO1'; rfl; exact hca; rfl) | (apply Pu_loadO1; rfl; exact hca 0 _ rfl) | exact PuA)); refine ⟨_, EndsA, (by repeat (first | exact QF.nil | (apply QF.mk; rfl; rfl; decide +kernel; (first | (apply Qy_y; rfl; (first | (apply Pu_loadB1; rfl; (first | exact hp' | exact hq); rfl) | (apply Pu_indexAddr; rfl; rfl; omega; omega; exact hna) | (apply Pu_loadO1'; rfl; exact hca; rfl) | (apply Pu_loadO1; rfl; exact hca 0 _ rfl))) | exact QyA)))), ?_⟩))
  exact ret_1 _ O' (.tmp rfl) (.refl _) ⟨rfl, rfl⟩

def fmt21 : List ByteArray := [⟨#[76, 77, 84]⟩, ⟨#[67, 69, 84, 47, 67, 69, 83, 84]⟩, ⟨#[69, 69, 37, 115, 84]⟩, ⟨#[37, 122]⟩, ⟨#[]⟩]
def noTil : DUntil := ⟨false, 0, 0, ⟨0, 0, 0⟩, ⟨0, 0⟩⟩
def era21 (off kind : Int) : DEra := ⟨(off - 24) * 1800, 2, 0, ⟨#[82]⟩, fmt21.getD kind.toNat ByteArray.empty, noTil⟩
set_option maxHeartbeats 4000000 in
theorem era21_spec (A : Value) (off kind : Int) (h1 : 0 ≤ off) (h2 : off < 49) (h3 : 0 ≤ kind) (h4 : kind < 4) (w : World) : Does Try.prog 74 [A, .int .u8 off, .int .u8 kind] w (fun v O => v = .agg (era21 off kind).enc.toArray ∧ O = []) := by
  have m1 : off % 49 = off := by omega
  have m2 : kind % 5 = kind := by omega
  have hget : fmt21[kind.toNat]? = some (fmt21.getD kind.toNat ByteArray.empty) := by
    have hk : kind.toNat < fmt21.length := by simp only [fmt21, List.length_cons, List.length_nil]; omega
    rw [List.getD_eq_getElem?_getD, List.getElem?_eq_getElem hk]
    rfl
  have hne : fmt21.getD kind.toNat ByteArray.empty ≠ ⟨#[]⟩ := by
    obtain h | h | h | h : kind = 0 ∨ kind = 1 ∨ kind = 2 ∨ kind = 3 := by omega
    all_goals subst h; decide
  refine Does_of_W Try.func74 rfl rfl rfl rfl ?_
  repeat (first | (apply RL_pu; rfl; (apply Pu_mul; rfl; rfl; omega)) | (apply RL_st; rfl; (first | (apply Stp_alloc; intro bk) | (apply Stp_buildSliceC; rfl; rfl; rfl; rfl; (focus repeat (first | exact Nf.nil | apply Nf.cons)); intro bk))) | refine walk1 ?_)
  rw [m1, m2]
  refine W_cond rfl (fun h => ?_) (fun h => ?_)
  · have h' := of_decide_eq_true h
    exact absurd h' hne
  repeat (first | (apply RL_st; rfl; (first | (apply Stp_alloc; intro bk) | (apply Stp_buildSliceC; rfl; rfl; rfl; rfl; (focus repeat (first | exact Nf.nil | apply Nf.cons)); intro bk))) | refine walk ?_)
  exact ret_1 (.agg (era21 off kind).enc.toArray) [] (.cellB rfl (by (focus repeat' constructor)) rfl rfl) .nil ⟨rfl, rfl⟩
end Go.Proofs.Ytfhjfpikngcknaa
