/- Contracts of functions that make slices: analemmaref16.Of, Names, ruleset.Names, slices.Clone. -/
import Derived.Test.YtfhjfpikngcknaaDoorRead3
import Derived.Test.YtfhjfpikngcknaaDoorWkI
namespace Go.Proofs.YtfhjfpikngcknaaDoor
open Go Go.RowKit Go.Wk
attribute [local irreducible] W RL Does thenQ blockQ retQ Calls Pu Stp RD Qy Ay


/-- The rules of a set. -/
def ofB (l : List DRule) (x : ByteArray) : List DRule := l.filter fun r => decide (r.name = x)

/-- A result that is a new slice. -/
def NewSl {α : Type} (e sz : Nat) (enc : α → List Value) (l : List α) (v : Value) (O : List It) : Prop := ∃ A c, v = .slice A l.length c ∧ O = [.row (.slice A l.length c) e sz l.length (l.flatMap enc)]

/-- The names of all sets, in order. -/
def namesB : List DRule → List ByteArray → List ByteArray
  | [], acc => acc
  | r :: l, acc => if memB r.name acc then namesB l acc else namesB l (acc ++ [r.name])

theorem memB_snoc (x y : ByteArray) : ∀ l : List ByteArray, memB x (l ++ [y]) = (memB x l || decide (y = x))
  | [] => by simp [memB]
  | z :: l => by simp [memB, memB_snoc x y l, Bool.or_assoc]

end Go.Proofs.YtfhjfpikngcknaaDoor
