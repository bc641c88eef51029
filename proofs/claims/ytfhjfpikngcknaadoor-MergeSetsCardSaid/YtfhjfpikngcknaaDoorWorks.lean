/- Contracts: analemmalaw34.small, fails, works. -/
import Derived.Test.YtfhjfpikngcknaaDoorMerge
namespace Go.Proofs.YtfhjfpikngcknaaDoor
open Go Go.RowKit Go.Wk
attribute [local irreducible] W RL Does thenQ blockQ retQ Calls Pu Stp RD Qy Ay

def ruleS (save : Int) : DRule := ⟨⟨#[82]⟩, 1900, 1900, 1, ⟨1, 0, 1⟩, ⟨0, 0⟩, save, ByteArray.empty⟩
def eraS : DEra := ⟨0, 0, 0, ByteArray.empty, ⟨#[71, 77, 84]⟩, ⟨false, 0, 0, ⟨0, 0, 0⟩, ⟨0, 0⟩⟩⟩
def smallD (save : Int) (zone : ByteArray) (shifts : List ByteArray) : DSource := ⟨[ruleS save], [⟨zone, [eraS]⟩], [], shifts⟩

/-- A result of 'small': a source that lies in three new blocks, its shifts where the caller has them. -/
def SmallOut (save : Int) (zone : ByteArray) (As : Option Addr) (cs : Nat) (shifts : List ByteArray) (v : Value) (O : List It) : Prop :=
  ∃ b1 b2 b3, v = srcV (some ⟨b1, 0, none⟩) (some ⟨b2, 0, none⟩) none As 1 1 0 cs (smallD save zone shifts) ∧ O = [.blk b1 (ruleS save).enc 46, .blk b2 [.string zone, .slice (some ⟨b3, 0, none⟩) 1 1] 37, .blk b3 eraS.enc 69]

theorem small_spec (save : Int) (zone : ByteArray) (As : Option Addr) (cs : Nat) (shifts : List ByteArray) (w : World) :
    Does Tryd.prog 17 [.int .i64 save, .string zone, .slice As shifts.length cs] w (SmallOut save zone As cs shifts) := by
  refine Does_of_W Tryd.func17 rfl rfl rfl rfl ?_
  repeat (first | (apply RL_st; rfl; (first | (apply Stp_alloc; intro bk) | (apply Stp_buildSliceC; rfl; rfl; rfl; rfl; (focus repeat (first | exact Nf.nil | apply Nf.cons)); intro bk))) | refine walk ?_)
  rename_i b1 b3
  exact ret_1 _ [.blk b1 (ruleS save).enc 46, .blk bk [.string zone, .slice (some ⟨b3, 0, none⟩) 1 1] 37, .blk b3 eraS.enc 69] (.cellB rfl (by (focus repeat' constructor)) rfl rfl) (by first | exact .refl _ | focus repeat (first | exact SubO.nil | (apply SubO.cons; focus repeat' constructor))) ⟨_, _, _, rfl, rfl⟩

/-- The same, as rows that can be read. -/
theorem small_rd {w : World} {save : Int} {zone : ByteArray} {As : Option Addr} {cs : Nat} {shifts : List ByteArray} {b1 b2 b3 : Nat} (h1 : (It.blk b1 (ruleS save).enc 46).sat w) (h2 : (It.blk b2 [.string zone, .slice (some ⟨b3, 0, none⟩) 1 1] 37).sat w) (h3 : (It.blk b3 eraS.enc 69).sat w) (hs : RdSl w As cs strEnc 1 shifts) :
    RdSource w (some ⟨b1, 0, none⟩) (some ⟨b2, 0, none⟩) none As 1 1 0 cs (smallD save zone shifts) := by
  have e1 : (It.blk b1 ([ruleS save].flatMap DRule.enc) 46).sat w := h1
  have e2 : (It.blk b2 ([(⟨⟨zone, [eraS]⟩, some ⟨b3, 0, none⟩, 1⟩ : ZE)].flatMap ZE.enc) 37).sat w := h2
  have e3 : (It.blk b3 ([eraS].flatMap DEra.enc) 69).sat w := h3
  exact ⟨blkRd DRule.len (Nat.le_refl 1) (by decide) e1, Nat.le_refl 1, by decide, zones_rd (blkRd (c := 1) (l := [(⟨⟨zone, [eraS]⟩, some ⟨b3, 0, none⟩, 1⟩ : ZE)]) ZE.len (Nat.le_refl 1) (by decide) e2) (fun q hq => by rw [List.mem_singleton.1 hq]; exact blkRd (l := [eraS]) DEra.len (Nat.le_refl 1) (show 1 ≤ maxLen by decide) e3), rdNil _ _ _, hs⟩

def failsB (a b : DSource) (part index : Int) : Bool := decide (errOf (chkB a b) = 10) && (decide (placeOf (chkB a b) = ⟨part, index, 0⟩) && decide (resS a b = emptyS))

theorem rdEmpty (w : World) : RdSource w none none none none 0 0 0 0 emptyS := ⟨rdNil _ _ _, Nat.le_refl _, Nat.zero_le _, fun _ _ h => by simp [emptyS] at h, rdNil _ _ _, rdNil _ _ _⟩

theorem fails_spec (Ar Az Al As : Option Addr) (cr cz cl cs : Nat) (a : DSource) (Br Bz Bl Bs : Option Addr) (dr dz dl ds : Nat) (b : DSource) (part index : Int) (w : World) (hA : RdSource w Ar Az Al As cr cz cl cs a) (hB : RdSource w Br Bz Bl Bs dr dz dl ds b)
    (hn : Fits a) (hm : Fits b) :
    Does Tryd.prog 8 [srcV Ar Az Al As cr cz cl cs a, srcV Br Bz Bl Bs dr dz dl ds b, .int .i64 part, .int .i64 index] w (fun v O => v = .bool (failsB a b part index) ∧ O = []) := by
  refine Does_of_W Tryd.func8 rfl rfl rfl rfl ?_
  repeat (first | (apply RL_st0; (apply Stp_call (h := fun w' hw _ => merge_spec Ar Az Al As cr cz cl cs a Br Bz Bl Bs dr dz dl ds b w' (hA.up hw) (hB.up hw) hn hm); rfl; rintro v O' ⟨v1, rfl, R1, r1, Z1, z1, L1, l1, H1, h1, Zs1, S1, rfl, hZ1, rfl⟩)) | (apply RL_st; rfl; (first | (apply Stp_call (h := fun w' hw _ => merge_spec Ar Az Al As cr cz cl cs a Br Bz Bl Bs dr dz dl ds b w' (hA.up hw) (hB.up hw) hn hm); rfl; rintro v O' ⟨v1, rfl, R1, r1, Z1, z1, L1, l1, H1, h1, Zs1, S1, rfl, hZ1, rfl⟩) | (apply Stp_boxNf; rfl; (focus repeat (first | exact Nf.nil | apply Nf.cons)); intro bk) | (apply Stp_alloc; intro bk))) | refine walk ?_)
  refine RL_split 21 rfl (fun g1 => ?_) (fun g1 => ?_)
  · repeat (first | (apply RL_pu; rfl; (apply Pu_eqlE (i := placeOf (chkB a b)) (j := ⟨part, index, 0⟩); rfl; rfl)) | (apply RL_st; rfl; (first | (apply Stp_boxNf; rfl; (focus repeat (first | exact Nf.nil | apply Nf.cons)); intro bk) | (apply Stp_alloc; intro bk))) | refine walk1 ?_)
    refine RL_split 28 rfl (fun g2 => ?_) (fun g2 => ?_)
    · repeat (first | (apply RL_st0; (apply Stp_call (h := fun w' hw hO => same_spec R1 Z1 L1 H1 r1 z1 l1 h1 (resS a b) none none none none 0 0 0 0 emptyS w' (src_rd hZ1 (hO.of (by (focus repeat' constructor))) (hO.of (by (focus repeat' constructor))) (hO.of (by (focus repeat' constructor))) (hO.of (by (focus repeat' constructor))) (hO.of (A := .fact S1 (ErasAt Zs1)) (by (focus repeat' constructor)))) (rdEmpty w')); rfl; rintro v O' ⟨rfl, rfl⟩)) | (apply RL_st; rfl; (first | (apply Stp_call (h := fun w' hw hO => same_spec R1 Z1 L1 H1 r1 z1 l1 h1 (resS a b) none none none none 0 0 0 0 emptyS w' (src_rd hZ1 (hO.of (by (focus repeat' constructor))) (hO.of (by (focus repeat' constructor))) (hO.of (by (focus repeat' constructor))) (hO.of (by (focus repeat' constructor))) (hO.of (A := .fact S1 (ErasAt Zs1)) (by (focus repeat' constructor)))) (rdEmpty w')); rfl; rintro v O' ⟨rfl, rfl⟩) | (apply Stp_boxNf; rfl; (focus repeat (first | exact Nf.nil | apply Nf.cons)); intro bk) | (apply Stp_alloc; intro bk))) | refine walk ?_)
      exact ret_1 _ [] (.tmp rfl) .nil ⟨by rw [failsB, g1, g2]; rfl, rfl⟩
    repeat (first | (apply RL_st; rfl; (first | (apply Stp_boxNf; rfl; (focus repeat (first | exact Nf.nil | apply Nf.cons)); intro bk) | (apply Stp_alloc; intro bk))) | refine walk ?_)
    exact ret_1 _ [] (.tmp rfl) .nil ⟨by rw [failsB, g1, g2]; rfl, rfl⟩
  repeat (first | (apply RL_st; rfl; (first | (apply Stp_boxNf; rfl; (focus repeat (first | exact Nf.nil | apply Nf.cons)); intro bk) | (apply Stp_alloc; intro bk))) | refine walk ?_)
  exact ret_1 _ [] (.tmp rfl) .nil ⟨by rw [failsB, g1]; rfl, rfl⟩
end Go.Proofs.YtfhjfpikngcknaaDoor
