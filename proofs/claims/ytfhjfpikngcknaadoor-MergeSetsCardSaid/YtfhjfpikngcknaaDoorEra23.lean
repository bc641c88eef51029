/- Contracts: strconv.Itoa of digits; analemmalaw23: format, until, Era.made. -/
import Derived.Test.YtfhjfpikngcknaaDoorMade17
import Derived.Test.YtfhjfpikngcknaaDoorOpn
import Derived.Laws.Strings2
namespace Go.Wk
open Go Go.RowKit
section
variable {P : Program} {n : Nat} {wr : World} {fr : Fr} {O : List It} {ty : TypeId}
theorem Pu_sliceS {t : TypeId} {x y z : Operand} {s : ByteArray} {k k' : IntKind} {i j : Int} [hS : StringT P t] (hx : ev fr x = some (.string s)) (hy : ev fr y = some (.int k i)) (hz : ev fr z = some (.int k' j)) (h0 : 0 ≤ i) (h1 : i ≤ j) (h2 : j ≤ s.size) :
    Pu P n wr fr O (.slice t x (some y) (some z) none) ty (.string (s.extract i.toNat j.toNat)) := fun a w hs _ _ _ _ => by
  have h := run_slice_string (P := P) w t s k k' i j hS.h h0 h1 h2
  simp [execOp, hs.sim.ev hx, hs.sim.ev hy, hs.sim.ev hz, Instr.sliceAt, run_underlying hS.h, h]
end
end Go.Wk
namespace Go.Proofs.YtfhjfpikngcknaaDoor
open Go Go.RowKit Go.Wk
attribute [local irreducible] W RL Does thenQ blockQ retQ Calls Pu Stp RD Qy Ay DoesIn

def digits : ByteArray := ⟨#[48, 49, 50, 51, 52, 53, 54, 55, 56, 57, 97, 98, 99, 100, 101, 102, 103, 104, 105, 106, 107, 108, 109, 110, 111, 112, 113, 114, 115, 116, 117, 118, 119, 120, 121, 122]⟩
def dig (i : Int) : ByteArray := digits.extract i.toNat (i + 1).toNat
theorem smallI_spec (i : Int) (h0 : 0 ≤ i) (h1 : i < 10) (w : World) : Does Tryd.prog 42 [.int .i64 i] w (fun v O => v = .string (dig i) ∧ O = []) := by
  refine Does_of_W Tryd.func42 rfl rfl rfl rfl ?_
  repeat (first | refine walk ?_)
  refine W_cond rfl (fun h => ?_) (fun h => absurd h (by simp; omega))
  repeat (first | (apply RL_pu; rfl; (apply Pu_sliceS; rfl; rfl; rfl; omega; omega; (show i + 1 ≤ ((36 : Nat) : Int); omega))) | refine walk1 ?_)
  exact ret_1 _ [] (.tmp rfl) .nil ⟨rfl, rfl⟩
theorem formatInt_spec (i : Int) (h0 : 0 ≤ i) (h1 : i < 10) (w : World) : Does Tryd.prog 41 [.int .i64 i, .int .i64 10] w (fun v O => v = .string (dig i) ∧ O = []) := by
  refine Does_of_W Tryd.func41 rfl rfl rfl rfl ?_
  repeat (first | (apply RL_st; rfl; (apply Stp_alloc; intro bk)) | refine walk ?_)
  refine RL_split 14 rfl (fun _ => ?_) (fun h => absurd h (by simp; omega))
  repeat (first | (apply RL_st; rfl; (apply Stp_alloc; intro bk)) | refine walk ?_)
  refine W_cond rfl (fun h => ?_) (fun h => absurd h (by simp; omega))
  repeat (first | (apply RL_st0; (apply Stp_call (h := fun w' _ _ => smallI_spec i h0 h1 w'); rfl; rintro v O' ⟨rfl, rfl⟩)) | (apply RL_st; rfl; (first | (apply Stp_call (h := fun w' _ _ => smallI_spec i h0 h1 w'); rfl; rintro v O' ⟨rfl, rfl⟩) | (apply Stp_alloc; intro bk))) | refine walk ?_)
  exact ret_1 _ [] (.tmp rfl) .nil ⟨rfl, rfl⟩
theorem itoa0_spec (i : Int) (h0 : 0 ≤ i) (h1 : i < 10) (w : World) : Does Tryd.prog 30 [.int .i64 i] w (fun v O => v = .string (dig i) ∧ O = []) := by
  refine Does_of_W Tryd.func30 rfl rfl rfl rfl ?_
  repeat (first | (apply RL_st0; (apply Stp_call (h := fun w' _ _ => formatInt_spec i h0 h1 w'); rfl; rintro v O' ⟨rfl, rfl⟩)) | (apply RL_st; rfl; (apply Stp_call (h := fun w' _ _ => formatInt_spec i h0 h1 w'); rfl; rintro v O' ⟨rfl, rfl⟩)) | refine walk ?_)
  exact ret_1 _ [] (.tmp rfl) .nil ⟨rfl, rfl⟩
theorem itoa_spec (i : Int) (h0 : 0 ≤ i) (h1 : i < 10) (w : World) : Does Tryd.prog 14 [.int .i64 i] w (fun v O => v = .string (dig i) ∧ O = []) := by
  refine Does_of_W Tryd.func14 rfl rfl rfl rfl ?_
  repeat (first | (apply RL_st0; (apply Stp_call (h := fun w' _ _ => itoa0_spec i h0 h1 w'); rfl; rintro v O' ⟨rfl, rfl⟩)) | (apply RL_st; rfl; (apply Stp_call (h := fun w' _ _ => itoa0_spec i h0 h1 w'); rfl; rintro v O' ⟨rfl, rfl⟩)) | refine walk ?_)
  exact ret_1 _ [] (.tmp rfl) .nil ⟨rfl, rfl⟩

def fmts23 : List ByteArray := [⟨#[76, 77, 84]⟩, ⟨#[71, 77, 84, 47, 66, 83, 84]⟩, ⟨#[69, 37, 115, 83, 84]⟩, ⟨#[37, 122]⟩, ⟨#[67, 69, 84, 47, 67, 69, 83, 84]⟩, ⟨#[87, 83, 84]⟩]
def fmt23 (n : Int) : ByteArray := fmts23.getD (n % 6).toNat ByteArray.empty
theorem format23_spec (n : Int) (h0 : 0 ≤ n) (w : World) : Does Tryd.prog 31 [.int .u8 n] w (fun v O => v = .string (fmt23 n) ∧ O = []) := by
  have hm0 := Int.emod_nonneg n (b := 6) (by decide)
  have hm1 := Int.emod_lt_of_pos n (b := 6) (by decide)
  have hget : fmts23[(n % 6).toNat]? = some (fmt23 n) := by
    have hk : (n % 6).toNat < fmts23.length := by simp only [fmts23, List.length_cons, List.length_nil]; omega
    rw [fmt23, List.getD_eq_getElem?_getD, List.getElem?_eq_getElem hk]
    rfl
  refine Does_of_W Tryd.func31 rfl rfl rfl rfl ?_
  repeat (first | (apply RL_pu; rfl; (apply Pu_load1 (v := .string (fmt23 n)); rfl; (intro w' _ hO; exact ((litRd (c := 6) (l := fmts23) (t := 9) strEnc.len (Nat.le_refl 6) (by decide) (hO.of (A := .blk bk (fmts23.flatMap strEnc) _) (by (focus repeat' constructor)))).rd _ _ hget).2 0 _ rfl))) | (apply RL_st; rfl; (apply Stp_buildSliceC; rfl; rfl; rfl; rfl; (focus repeat (first | exact Nf.nil | apply Nf.cons)); intro bk)) | refine walk1 ?_)
  exact ret_1 _ [] (.tmp rfl) .nil ⟨rfl, rfl⟩
def until23 (y m d : Int) : DUntil := ⟨true, y, m, ⟨1, 0, d⟩, ⟨0, 0⟩⟩
theorem until23_spec (y m d : Int) (w : World) : Does Tryd.prog 32 [.int .i64 y, .int .i64 m, .int .i64 d] w (fun v O => v = .agg #[.bool true, .int .i64 y, .int .i64 m, .int .i64 1, .int .i64 0, .int .i64 d, .int .i64 0, .int .i64 0] ∧ O = []) := by
  refine Does_of_W Tryd.func32 rfl rfl rfl rfl ?_
  repeat (first | (apply RL_st; rfl; (apply Stp_alloc; intro bk)) | refine walk ?_)
  exact ret_1 _ [] (.cellB rfl (by (focus repeat' constructor)) rfl rfl) .nil ⟨rfl, rfl⟩
end Go.Proofs.YtfhjfpikngcknaaDoor
