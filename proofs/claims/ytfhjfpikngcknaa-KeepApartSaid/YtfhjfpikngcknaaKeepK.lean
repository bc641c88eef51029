/- Contracts: analemmalaw33.example. -/
import Derived.Test.YtfhjfpikngcknaaKeepJ
import Derived.Test.YtfhjfpikngcknaaKeepB
import Derived.Test.YtfhjfpikngcknaaKeepP
namespace Go.Proofs.Ytfhjfpikngcknaa
open Go Go.RowKit Go.Wk
attribute [local irreducible] W RL Does thenQ blockQ retQ Calls Pu Stp RD Qy Ay DoesIn

def xA : ByteArray := ⟨#[65]⟩
def xB : ByteArray := ⟨#[66]⟩
def xC : ByteArray := ⟨#[67]⟩
def xD : ByteArray := ⟨#[68]⟩
def xQ : ByteArray := ⟨#[81]⟩
def xR : ByteArray := ⟨#[82]⟩
def ruleX (n : ByteArray) (m : Int) : DRule := ⟨n, 0, 0, 0, ⟨0, 0, 0⟩, ⟨0, 0⟩, m, ByteArray.empty⟩
def untilX : DUntil := ⟨false, 0, 0, ⟨0, 0, 0⟩, ⟨0, 0⟩⟩
def eraX : DEra := ⟨0, 0, 0, ByteArray.empty, ⟨#[76, 77, 84]⟩, untilX⟩
def eraY (set : ByteArray) : DEra := ⟨0, 2, 0, set, ⟨#[71, 77, 84]⟩, untilX⟩
theorem exEras_spec (set : ByteArray) (w : World) : Does Try.prog 85 [.string set] w (fun v O => ∃ b, v = .slice (some ⟨b, 0, none⟩) 2 2 ∧ O = [.blk b (eraX.enc ++ (eraY set).enc) 75]) := by
  refine Does_of_W Try.func85 rfl rfl rfl rfl ?_
  repeat (first | (apply RL_st; rfl; (apply Stp_buildSliceC; rfl; rfl; rfl; rfl; (focus repeat (first | exact Nf.nil | apply Nf.cons)); intro bk)) | refine walk ?_)
  exact ret_1 _ [.blk bk (eraX.enc ++ (eraY set).enc) 75] (.tmp rfl) (by first | exact .refl _ | focus repeat (first | exact SubO.nil | (apply SubO.cons; focus repeat' constructor))) ⟨_, rfl, rfl⟩

def zoneX (n set : ByteArray) : DZone := ⟨n, [eraX, eraY set]⟩
def exD : DSource := ⟨[ruleX xQ 1, ruleX xR 0, ruleX xQ 0, ruleX xR 1], [zoneX xC xQ, zoneX xA xR, zoneX xB xR], [⟨xC, xD⟩], [xQ, xR]⟩
def sl (b m : Nat) : Value := .slice (some ⟨b, 0, none⟩) m m
def zcells (e1 e2 e3 : Nat) : List Value := [.string xC, sl e1 2, .string xA, sl e2 2, .string xB, sl e3 2]
/-- The example: in seven blocks of its own. -/
def ExOut (v : Value) (O : List It) : Prop := ∃ br bz e1 e2 e3 bl bs, v = .agg #[sl br 4, sl bz 3, sl bl 1, sl bs 2] ∧ O = [.blk br (exD.rules.flatMap DRule.enc) 65, .blk bz (zcells e1 e2 e3) 56, .blk e1 (eraX.enc ++ (eraY xQ).enc) 75, .blk e2 (eraX.enc ++ (eraY xR).enc) 75, .blk e3 (eraX.enc ++ (eraY xR).enc) 75, .blk bl [.string xC, .string xD] 68, .blk bs [.string xQ, .string xR] 9]
theorem eras_rd {w : World} {b : Nat} {n set : ByteArray} (h : (It.blk b (eraX.enc ++ (eraY set).enc) 75).sat w) : RdSl w (some ⟨b, 0, none⟩) 2 DEra.enc 13 (zoneX n set).eras := litRd (l := [eraX, eraY set]) DEra.len (Nat.le_refl 2) (by decide) h
theorem ex_rd {w : World} {br bz e1 e2 e3 bl bs : Nat} (h1 : (It.blk br (exD.rules.flatMap DRule.enc) 65).sat w) (h2 : (It.blk bz (zcells e1 e2 e3) 56).sat w) (h3 : (It.blk e1 (eraX.enc ++ (eraY xQ).enc) 75).sat w) (h4 : (It.blk e2 (eraX.enc ++ (eraY xR).enc) 75).sat w) (h5 : (It.blk e3 (eraX.enc ++ (eraY xR).enc) 75).sat w) (h6 : (It.blk bl [.string xC, .string xD] 68).sat w) (h7 : (It.blk bs [.string xQ, .string xR] 9).sat w) :
    RdSource w (some ⟨br, 0, none⟩) (some ⟨bz, 0, none⟩) (some ⟨bl, 0, none⟩) (some ⟨bs, 0, none⟩) 4 3 1 2 exD :=
  ⟨litRd DRule.len (Nat.le_refl 4) (by decide) h1, Nat.le_refl 3, by decide, zones_rd (litRd (c := 3) (l := [(⟨zoneX xC xQ, some ⟨e1, 0, none⟩, 2⟩ : ZE), ⟨zoneX xA xR, some ⟨e2, 0, none⟩, 2⟩, ⟨zoneX xB xR, some ⟨e3, 0, none⟩, 2⟩]) ZE.len (Nat.le_refl 3) (by decide) h2) (fun q hq => by
    rcases List.mem_cons.1 hq with rfl | hq
    · exact eras_rd h3
    rcases List.mem_cons.1 hq with rfl | hq
    · exact eras_rd h4
    · rw [List.mem_singleton.1 hq]; exact eras_rd h5), litRd (l := [(⟨xC, xD⟩ : DLink)]) DLink.len (Nat.le_refl 1) (by decide) h6, litRd (l := [xQ, xR]) strEnc.len (Nat.le_refl 2) (by decide) h7⟩

theorem example_spec (w : World) : Does Try.prog 53 [] w ExOut := by
  refine Does_of_W Try.func53 rfl rfl rfl rfl ?_
  repeat (first | (apply RL_st0; (first | (apply Stp_callV (f := 85) (us := []) (cs := []) (vs := [.string xQ]) (h := fun w' hw _ => exEras_spec xQ w'); rfl; rfl; rintro v O' ⟨e1, rfl, rfl⟩) | (apply Stp_callV (f := 85) (us := []) (cs := []) (vs := [.string xR]) (h := fun w' hw _ => exEras_spec xR w'); rfl; rfl; rintro v O' ⟨e2, rfl, rfl⟩))) | (apply RL_st; rfl; (first | (apply Stp_callV (f := 85) (us := []) (cs := []) (vs := [.string xQ]) (h := fun w' hw _ => exEras_spec xQ w'); rfl; rfl; rintro v O' ⟨e1, rfl, rfl⟩) | (apply Stp_callV (f := 85) (us := []) (cs := []) (vs := [.string xR]) (h := fun w' hw _ => exEras_spec xR w'); rfl; rfl; rintro v O' ⟨e2, rfl, rfl⟩) | (apply Stp_alloc; intro bk) | (apply Stp_buildSliceC; rfl; rfl; rfl; rfl; (focus repeat (first | exact Nf.nil | apply Nf.cons)); intro bk))) | refine walk ?_)
  rename_i b0 br eA bz bl
  generalize e2 = e3
  generalize eA = e2
  generalize bk = bs
  exact ret_1 _ [.blk br (exD.rules.flatMap DRule.enc) 65, .blk bz (zcells e1 e2 e3) 56, .blk e1 (eraX.enc ++ (eraY xQ).enc) 75, .blk e2 (eraX.enc ++ (eraY xR).enc) 75, .blk e3 (eraX.enc ++ (eraY xR).enc) 75, .blk bl [.string xC, .string xD] 68, .blk bs [.string xQ, .string xR] 9] (.cellB rfl (by (focus repeat' constructor)) rfl rfl) (by first | exact .refl _ | focus repeat (first | exact SubO.nil | (apply SubO.cons; focus repeat' constructor))) ⟨br, bz, e1, e2, e3, bl, bs, rfl, rfl⟩
end Go.Proofs.Ytfhjfpikngcknaa
