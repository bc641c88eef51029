/- Contracts: the reference of layer 21: Kind, Parts, Abbr. -/
import Derived.Test.YtceekohkjgiabaaGreatDoorQ37
set_option maxHeartbeats 4000000
set_option linter.unusedVariables false
set_option linter.unusedSimpArgs false
namespace Go.Proofs.YtceekohkjgiabaaGreatDoor
open Go Go.RowKit Go.Wk
attribute [local irreducible] W RL Does thenQ blockQ retQ Calls Pu Stp RD Qy Ay DoesIn
theorem PuRfN0 {G : Prop} (h : G := by (apply Pu_eqlSB; rfl; rfl; exact hq)) : G := h
theorem wkRfN0 {G G' : Prop} (k : G') (h : Hold G' → G := by intro k9; (first | refine und ?_ | (apply RL_pu; rfl; exact PuRfN0) | (refine js ?_; (first | (refine callE (fun w' _ => hsl w') ?_) | (refine callE (fun w' _ => a0 w') ?_) | (refine callE (fun w' _ => a1 w') ?_) | (refine callE (fun w' _ => a2 w') ?_) | (refine callE (fun w' _ => i0 w') ?_) | (refine callE (fun w' _ => i1 w') ?_) | (refine callE (fun w' _ => i2 w') ?_))) | refine walk1 ?_); exact k9.out) : G := h ⟨k⟩
set_option maxHeartbeats 2000000 in
theorem rkind_spec (f : ByteArray) (hs : f.size ≤ 1000000000) (w : World) : Does Tryz.prog 74 [.string f] w (fun v O => v = .int .i64 (kindF f.data.toList) ∧ O = []) := by
 have hsl := fun w' => rslash_spec f (by omega) w'
 have hlt := fun w' => rlet21_spec f (by omega) w'
 unfold LetR at hlt
 have hl := slashR_len f.data.toList
 have hfs : f.data.toList.length = f.size := rfl
 rw [hfs] at hl
 rw [kindF_eqR]
 have hq : decide (f = (⟨#[37, 122]⟩ : ByteArray)) = decide (f.data.toList = [37, 122]) := by
  rw [decide_eq_decide]
  exact ⟨fun h => by rw [h], fun h => ((bytes_iff _ f).2 h.symm).symm⟩
 obtain ⟨ab, hab⟩ : ∃ ab, slashR f.data.toList = ab := ⟨_, rfl⟩
 rw [hab] at hsl hl ⊢
 obtain ⟨a, b, ok⟩ := ab
 dsimp only at hl ⊢
 simp only [slV] at hsl hlt
 have hs1 : (⟨a.toArray⟩ : ByteArray).size = a.length := by show a.toArray.size = a.length; simp
 have hs2 : (⟨b.toArray⟩ : ByteArray).size = b.length := by show b.toArray.size = b.length; simp
 have a0 := fun w' => rAbbr_spec f (by omega) w'
 have a1 := fun w' => rAbbr_spec ⟨a.toArray⟩ (by omega) w'
 have a2 := fun w' => rAbbr_spec ⟨b.toArray⟩ (by omega) w'
 have i0 := fun w' => rnum21_spec f (by omega) w'
 have i1 := fun w' => rnum21_spec ⟨a.toArray⟩ (by omega) w'
 have i2 := fun w' => rnum21_spec ⟨b.toArray⟩ (by omega) w'
 rw [show abbrB f = abbrL f.data.toList from rfl] at a0
 rw [show abbrB ⟨a.toArray⟩ = abbrL a from rfl] at a1
 rw [show abbrB ⟨b.toArray⟩ = abbrL b from rfl] at a2
 rw [show (⟨a.toArray⟩ : ByteArray).data.toList = a from rfl] at i1
 rw [show (⟨b.toArray⟩ : ByteArray).data.toList = b from rfl] at i2
 generalize abbrL f.data.toList = A0 at *
 generalize abbrL a = A1 at *
 generalize abbrL b = A2 at *
 generalize (parseN f.data.toList).isSome = I0 at *
 generalize (parseN a).isSome = I1 at *
 generalize (parseN b).isSome = I2 at *
 generalize (aroundF f.data.toList).isSome = ar at *
 generalize decide (f.data.toList = [37, 122]) = q4 at *
 refine Does_of_W Tryz.func74 rfl rfl rfl rfl ?_
 cases A0 with
 | true =>
  repeat (first | (refine js ?_; (first | (refine callE (fun w' _ => hsl w') ?_) | (apply Stp_call (h := fun w' _ _ => hlt w'); rfl; rintro v O' ⟨⟨lx, ly, rfl, hxy⟩, rfl⟩) | (refine callE (fun w' _ => a0 w') ?_) | (refine callE (fun w' _ => a1 w') ?_) | (refine callE (fun w' _ => a2 w') ?_))) | refine walk ?_)
  exact rtA
 | false =>
 obtain ⟨K2, hK2⟩ : ∃ K2, (ok && (A1 && A2)) = K2 := ⟨_, rfl⟩
 cases K2 with
 | true =>
  obtain ⟨rfl, rfl, rfl⟩ : ok = true ∧ A1 = true ∧ A2 = true := by simpa using hK2
  repeat (first | refine und ?_ | (refine js ?_; (first | (refine callE (fun w' _ => hsl w') ?_) | (apply Stp_call (h := fun w' _ _ => hlt w'); rfl; rintro v O' ⟨⟨lx, ly, rfl, hxy⟩, rfl⟩) | (refine callE (fun w' _ => a0 w') ?_) | (refine callE (fun w' _ => a1 w') ?_) | (refine callE (fun w' _ => a2 w') ?_))) | refine walk ?_)
  exact rtA
 | false =>
 have hv : kindV false ok A1 A2 ar q4 I0 I1 I2 = if ar then 3 else if q4 then 4 else if I0 || (ok && (I1 && I2)) then 5 else 0 := by
  unfold kindV
  rw [hK2]
  rfl
 rw [hv]
 cases ar with
 | true =>
  cases ok <;> cases A1 <;> cases A2
  all_goals first | exact absurd hK2 (by decide) | skip
  all_goals
   repeat (first | refine und ?_ | (refine js ?_; (first | (refine callE (fun w' _ => hsl w') ?_) | (apply Stp_call (h := fun w' _ _ => hlt w'); rfl; rintro v O' ⟨⟨lx, ly, rfl, hxy⟩, rfl⟩) | (refine callE (fun w' _ => a0 w') ?_) | (refine callE (fun w' _ => a1 w') ?_) | (refine callE (fun w' _ => a2 w') ?_))) | refine walk ?_)
   exact rtA
 | false =>
 cases q4 with
 | true =>
  cases ok <;> cases A1 <;> cases A2
  all_goals first | exact absurd hK2 (by decide) | skip
  all_goals
   repeat (first | refine und ?_ | (apply RL_pu; rfl; exact PuRfN0) | (refine js ?_; (first | (refine callE (fun w' _ => hsl w') ?_) | (apply Stp_call (h := fun w' _ _ => hlt w'); rfl; rintro v O' ⟨⟨lx, ly, rfl, hxy⟩, rfl⟩) | (refine callE (fun w' _ => a0 w') ?_) | (refine callE (fun w' _ => a1 w') ?_) | (refine callE (fun w' _ => a2 w') ?_))) | refine walk1 ?_)
   exact rtA
 | false =>
 cases I0 with
 | true =>
  cases ok <;> cases A1 <;> cases A2
  all_goals first | exact absurd hK2 (by decide) | skip
  all_goals
   repeat (first | refine wkRfN0 ?_ | (refine js ?_; (apply Stp_call (h := fun w' _ _ => hlt w'); rfl; rintro v O' ⟨⟨lx, ly, rfl, hxy⟩, rfl⟩)))
   exact rtA
 | false =>
 cases ok with
 | false =>
  repeat (first | refine wkRfN0 ?_ | (refine js ?_; (apply Stp_call (h := fun w' _ _ => hlt w'); rfl; rintro v O' ⟨⟨lx, ly, rfl, hxy⟩, rfl⟩)))
  exact rtA
 | true =>
 cases I1 with
 | false =>
  cases A1 <;> cases A2
  all_goals first | exact absurd hK2 (by decide) | skip
  all_goals
   repeat (first | refine wkRfN0 ?_ | (refine js ?_; (apply Stp_call (h := fun w' _ _ => hlt w'); rfl; rintro v O' ⟨⟨lx, ly, rfl, hxy⟩, rfl⟩)))
   exact rtA
 | true =>
  cases I2 <;> cases A1 <;> cases A2
  all_goals first | exact absurd hK2 (by decide) | skip
  all_goals
   repeat (first | refine wkRfN0 ?_ | (refine js ?_; (apply Stp_call (h := fun w' _ _ => hlt w'); rfl; rintro v O' ⟨⟨lx, ly, rfl, hxy⟩, rfl⟩)))
   exact rtA
end Go.Proofs.YtceekohkjgiabaaGreatDoor
