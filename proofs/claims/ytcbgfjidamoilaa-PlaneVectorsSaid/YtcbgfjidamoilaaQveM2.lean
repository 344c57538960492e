/- The reference's long division, bit by bit, is division. -/
import Derived.Test.YtcbgfjidamoilaaQveM1
set_option linter.unusedVariables false
namespace Go.Bag
open Go Go.AbsK

theorem pow_pos' (k : Nat) : (0 : Int) < 2 ^ k := Int.pow_pos (by decide)
theorem half_pow (a : Int) (k : Nat) : a / 2 ^ k / 2 = a / 2 ^ (k + 1) := by
  rw [Int.pow_succ, Int.ediv_ediv_of_nonneg (Int.le_of_lt (pow_pos' k))]
end Go.Bag

