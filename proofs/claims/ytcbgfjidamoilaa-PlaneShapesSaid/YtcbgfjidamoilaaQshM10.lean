/- Lengths and faults. -/
import Derived.Test.YtcbgfjidamoilaaQshM9
set_option linter.unusedVariables false
namespace Go.Bag
open Go Go.AbsK

theorem sq_nonneg (a : Int) : 0 ≤ a * a := by
  by_cases h : 0 ≤ a
  · exact Int.mul_nonneg h h
  · have := Int.mul_nonneg (show 0 ≤ -a from by omega) (show 0 ≤ -a from by omega)
    rwa [Int.neg_mul_neg] at this
end Go.Bag

