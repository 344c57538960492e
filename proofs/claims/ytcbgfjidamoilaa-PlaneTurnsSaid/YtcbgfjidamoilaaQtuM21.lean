/- Shapes: the program and the reference find the same ones sound, with the same corners. -/
import Derived.Test.YtcbgfjidamoilaaQtuM20
set_option linter.unusedVariables false
namespace Go.Bag
open Go Go.AbsK

/-- The edge from a corner to the next one; what lies at its left. -/
def nx (l : List Spot) (i k : Nat) : Spot := nth l (((i + k) % l.length : Nat) : Int)
instance (n : Int) : Decidable (Cd n) := inferInstanceAs (Decidable (-4096 ≤ n ∧ n ≤ 4096))
end Go.Bag

