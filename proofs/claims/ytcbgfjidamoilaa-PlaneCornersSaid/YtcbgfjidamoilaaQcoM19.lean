/- The length of a direction is 1, but for a little. -/
import Derived.Test.YtcbgfjidamoilaaQcoM18
set_option linter.unusedVariables false
namespace Go.Bag
open Go Go.AbsK

theorem sq_nat (a : Int) : a * a = (a.natAbs : Int) * (a.natAbs : Int) := by
  rcases Int.natAbs_eq a with h | h
  · rw [← h]
  · have : (a.natAbs : Int) = -a := by omega
    rw [this]; grind
/-- The quotient's absolute value. -/
def qt (a n : Int) : Int := (a.natAbs : Int) * 4294967296 / n
theorem rat_pos {a n : Int} (hn : 0 < n) (hq : qt a n ≤ 9223372036854775807) : rat a n = ⟨if a < 0 then -(qt a n) else qt a n, false⟩ := by
  have h0 : 0 ≤ qt a n := Int.ediv_nonneg (by omega) (by omega)
  unfold rat
  rw [if_neg (by omega), show ((n.natAbs : Nat) : Int) = n from by omega]
  change sat (sg _ (qt a n)) false = _
  by_cases ha : a < 0
  · rw [if_pos ha]
    have : sg (!(decide (a < 0) == decide (n < 0))) (qt a n) = -(qt a n) := by
      unfold sg; rw [show decide (a < 0) = true from decide_eq_true ha, show decide (n < 0) = false from decide_eq_false (by omega)]; rfl
    rw [this, sat_F _ (by omega) (by omega)]
  · rw [if_neg ha]
    have : sg (!(decide (a < 0) == decide (n < 0))) (qt a n) = qt a n := by
      unfold sg; rw [show decide (a < 0) = false from decide_eq_false ha, show decide (n < 0) = false from decide_eq_false (by omega)]; rfl
    rw [this, sat_F _ (by omega) (by omega)]
end Go.Bag

