/- Contract: analemmaref34.alike; what merging gives. -/
import Derived.Test.YtfhjfpikngcknaaDoorConcat
namespace Go.Proofs.YtfhjfpikngcknaaDoor
open Go Go.RowKit Go.Wk
attribute [local irreducible] W RL Does thenQ blockQ retQ Calls Pu Stp RD Qy Ay

/-- A set is not common, or alike. -/
def alikeB (a b : DSource) (set : ByteArray) : Bool := decide ((ofB a.rules set).length = 0) || (decide (ofB a.rules set = ofB b.rules set) && (memB set a.shifts == memB set b.shifts))

theorem rdNil {α : Type} (w : World) (enc : α → List Value) (sz : Nat) : RdSl w none 0 enc sz [] := ⟨Nat.le_refl _, Nat.zero_le _, fun _ _ h => by simp at h⟩
theorem rdRules {w : World} {A : Option Addr} {c : Nat} {l : List DRule} (h : RdSl w A c DRule.enc 11 l) : RdSource w A none none none c 0 0 0 ⟨l, [], [], []⟩ :=
  ⟨h, Nat.le_refl _, Nat.zero_le _, fun _ _ h => by simp at h, rdNil _ _ _, rdNil _ _ _⟩

end Go.Proofs.YtfhjfpikngcknaaDoor
