/- Struct values compare as the data do. -/
import Derived.Test.YtfhjfpikngcknaaDoorTy
namespace Go.Proofs.YtfhjfpikngcknaaDoor
open Go Go.RowKit Go.Wk

theorem ok_ite (w : World) (p : Prop) [Decidable p] (b : Bool) : (if p then Result.ok b w else Result.ok false w) = Result.ok (decide p && b) w := by
  by_cases h : p <;> simp [h]

instance : EqE Tryd.prog 46 DRule DRule.enc where
  h r s w := by
    unfold DRule.enc
    simp [go_sem, toList_inj]
    rcases r with ⟨_, _, _, _, ⟨_, _, _⟩, ⟨_, _⟩, _, _⟩
    rcases s with ⟨_, _, _, _, ⟨_, _, _⟩, ⟨_, _⟩, _, _⟩
    simp only [ok_ite, Result.ok.injEq, and_true]
    rw [Bool.eq_iff_iff]
    simp [and_assoc]
  g := by kernel_rfl
instance : EqE Tryd.prog 69 DEra DEra.enc where
  h r s w := by
    unfold DEra.enc
    simp [go_sem, toList_inj]
    rcases r with ⟨_, _, _, _, _, ⟨_, _, _, ⟨_, _, _⟩, ⟨_, _⟩⟩⟩
    rcases s with ⟨_, _, _, _, _, ⟨_, _, _, ⟨_, _, _⟩, ⟨_, _⟩⟩⟩
    simp only [ok_ite, Result.ok.injEq, and_true]
    rw [Bool.eq_iff_iff]
    simp [and_assoc]
  g := by kernel_rfl
instance : EqE Tryd.prog 39 DLink DLink.enc where
  h r s w := by
    unfold DLink.enc
    simp [go_sem, toList_inj]
    rcases r with ⟨_, _⟩
    rcases s with ⟨_, _⟩
    simp only [ok_ite, Result.ok.injEq, and_true]
    rw [Bool.eq_iff_iff]
    simp [and_assoc]
  g := by kernel_rfl
instance : EqE Tryd.prog 51 DPlace DPlace.enc where
  h r s w := by
    unfold DPlace.enc
    simp [go_sem, toList_inj]
    rcases r with ⟨_, _, _⟩
    rcases s with ⟨_, _, _⟩
    simp only [ok_ite, Result.ok.injEq, and_true]
    rw [Bool.eq_iff_iff]
    simp [and_assoc]
  g := by kernel_rfl
end Go.Proofs.YtfhjfpikngcknaaDoor
