/- The square root: Newton's and the bits' are one. -/
import Derived.Test.YtcbgfjidamoilaaQweM8
set_option linter.unusedVariables false
namespace Go.Bag
open Go Go.AbsK

theorem sq_le {a b : Int} (h0 : 0 ≤ a) (h : a ≤ b) : a * a ≤ b * b := Int.le_trans (Int.mul_le_mul_of_nonneg_left h h0) (Int.mul_le_mul_of_nonneg_right h (by omega))
end Go.Bag

