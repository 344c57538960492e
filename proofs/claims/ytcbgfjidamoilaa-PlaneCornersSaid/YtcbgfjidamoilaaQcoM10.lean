/- Lengths and faults. -/
import Derived.Test.YtcbgfjidamoilaaQcoM9
set_option linter.unusedVariables false
namespace Go.Bag
open Go Go.AbsK

theorem U64_zero : U64 0 := ⟨by decide, by decide⟩
theorem sq_nonneg (a : Int) : 0 ≤ a * a := by
  by_cases h : 0 ≤ a
  · exact Int.mul_nonneg h h
  · have := Int.mul_nonneg (show 0 ≤ -a from by omega) (show 0 ≤ -a from by omega)
    rwa [Int.neg_mul_neg] at this
end Go.Bag

