/- Items bundled into facts; items in another order. -/
import Derived.Test.YtfhjfpikngcknaaWkI
namespace Go.Wk
open Go Go.RowKit

theorem Pick.ofMem {A : It} : ∀ {O : List It}, A ∈ O → ∃ R, Pick A O R
  | [], h => by simp at h
  | x :: O, h => by
    rcases List.mem_cons.1 h with rfl | h
    · exact ⟨O, .here⟩
    · obtain ⟨R, hR⟩ := Pick.ofMem h
      exact ⟨x :: R, .there hR⟩
theorem SubO.ofPerm : ∀ {O' O R : List It}, O.Perm (O' ++ R) → SubO O' O
  | [], _, _, _ => .nil
  | A :: O', O, R, h => by
    obtain ⟨R', hp⟩ := Pick.ofMem (A := A) (h.mem_iff.2 (by simp))
    refine .cons hp (SubO.ofPerm (R := R) ?_)
    exact List.Perm.cons_inv (hp.perm.symm.trans h)
theorem SubO.app {O' O R : List It} (h : SubO O' O) : SubO O' (O ++ R) := by
  obtain ⟨R', hR⟩ := h.perm
  exact SubO.ofPerm (R := R' ++ R) (by rw [← List.append_assoc]; exact hR.append_right R)

theorem Holds.fact {base : Nat} {O1 O : List It} {w : World} {p : World → Prop} (h : Holds base (O1 ++ O) w) (hp : ∀ w', (∀ i ∈ O1, i.sat w') → p w') : Holds base (.fact (foot O1) p :: O) w := by
  obtain ⟨h1, h2, h3⟩ := List.pairwise_append.1 h.sep
  refine ⟨fun i hi => ?_, fun i hi b hb => ?_, List.pairwise_cons.2 ⟨fun j hj b hb hjb => ?_, h2⟩⟩
  · rcases List.mem_cons.1 hi with rfl | hi
    · exact fun w' ha => hp w' fun i hi => It.sat_congr (h.sat i (List.mem_append_left _ hi)) fun b hb => ha b ⟨i, hi, hb⟩
    · exact h.sat i (List.mem_append_right _ hi)
  · rcases List.mem_cons.1 hi with rfl | hi
    · obtain ⟨i, hi, hb⟩ := hb
      exact h.inb i (List.mem_append_left _ hi) b hb
    · exact h.inb i (List.mem_append_right _ hi) b hb
  · obtain ⟨i, hi, hb⟩ := hb
    exact h3 i hi j hj b hb hjb
theorem fact_at {S : Nat → Prop} {p : World → Prop} {w : World} (h : (It.fact S p).sat w) : p w := h w fun _ _ => rfl

section
variable {P : Program} {n : Nat} {wr : World} {ops : Array Oper} {K : Fr → List It → Prop} {fr : Fr} {O : List It}
theorem W_perm {c : Code} {Q : Exit → Fr → List It → Prop} (O' : List It) (hp : SubO O' O) (h : W P n wr c Q fr O') : W P n wr c Q fr O := fun a w hs => h a w ⟨hs.sim, hs.old, hs.own.sub hp⟩
theorem RL_perm {l : List Oper} (O' : List It) (hp : SubO O' O) (h : RL P n wr ops l K fr O') : RL P n wr ops l K fr O := fun a w hs => h a w ⟨hs.sim, hs.old, hs.own.sub hp⟩
/-- Some items become a fact about them. -/
theorem W_toFact {c : Code} {Q : Exit → Fr → List It → Prop} (O1 R : List It) (p : World → Prop) (hs : SubO (O1 ++ R) O) (hp : ∀ w', (∀ i ∈ O1, i.sat w') → p w') (h : W P n wr c Q fr (.fact (foot O1) p :: R)) : W P n wr c Q fr O :=
  fun a w st => h a w ⟨st.sim, st.old, (st.own.sub hs).fact hp⟩
theorem RL_toFact {l : List Oper} (O1 R : List It) (p : World → Prop) (hs : SubO (O1 ++ R) O) (hp : ∀ w', (∀ i ∈ O1, i.sat w') → p w') (h : RL P n wr ops l K fr (.fact (foot O1) p :: R)) : RL P n wr ops l K fr O :=
  fun a w st => h a w ⟨st.sim, st.old, (st.own.sub hs).fact hp⟩
end
end Go.Wk
namespace Go.Wk
open Go Go.RowKit
theorem SubO.drop {x : It} {O' O : List It} (h : SubO O' O) : SubO O' (x :: O) := by
  obtain ⟨R, hR⟩ := h.perm
  exact SubO.ofPerm (R := x :: R) ((List.Perm.cons x hR).trans List.perm_middle.symm)
end Go.Wk
namespace Go.Wk
open Go Go.RowKit
theorem Ends.app {F : List It} : ∀ {R : List It}, Ends (R.append F) F R
  | [] => .nil
  | _ :: _ => .cons Ends.app
end Go.Wk
namespace Go.Wk
open Go Go.RowKit
theorem SubO.right : ∀ (A O : List It), SubO O (A ++ O)
  | [], O => .refl O
  | _ :: A, O => (SubO.right A O).drop
section
variable {P : Program} {n : Nat} {wr : World} {Q : Exit → Fr → List It → Prop} {fr : Fr} {O : List It}
/-- What holds behind a piece of code, in words of one's own. -/
theorem W_post {c : Code} (I : Fr → List It → Prop) (h1 : W P n wr c (fun e fr O => e = .normal ∧ I fr O) fr O) (h2 : ∀ fr' O', I fr' O' → Q .normal fr' O') : W P n wr c Q fr O :=
  W_mono h1 fun e fr' O' h => by
    obtain ⟨rfl, h⟩ := h
    exact h2 fr' O' h
end
end Go.Wk
