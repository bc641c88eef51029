/- The way from a contract 'Does' to a given row that lists package-level variables. -/
import Derived.Test.YtbffjibfcgcoeaaGreatDoorQ05
import Derived.LaidHandle
import Derived.LaidLaws
import Derived.LaidSub
import Derived.Stop.Joined
set_option linter.unusedVariables false
set_option linter.unusedSimpArgs false
namespace Go.Wk
open Go Go.RowKit Go.ChangeShapes Go.WideShapes Go.ChangeAt
section
variable {H : Type} {enc : TypeId × Value → H}
/-- The cells of a listed variable: numbers. -/
def cellsOfD : DataW Unit → List Value
  | .agg l => l.map fun | .lit (.int k n) => .int k n | _ => undef
  | .lit (.int k n) => [.int k n]
  | _ => []
end
end Go.Wk
