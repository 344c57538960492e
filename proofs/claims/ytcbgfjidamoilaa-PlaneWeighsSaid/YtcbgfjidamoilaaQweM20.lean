/- Discs and boxes: sound, their weights positive, the greater the density the less. -/
import Derived.Test.YtcbgfjidamoilaaQweM18
set_option linter.unusedVariables false
namespace Go.Bag
open Go Go.AbsK

/-- A coordinate of a corner. -/
def Cd (n : Int) : Prop := -4096 ≤ n ∧ n ≤ 4096
/-- The list's corner. -/
def cn (l : List Spot) (i : Nat) : Spot := ⟨sx l i, sy l i⟩
end Go.Bag

