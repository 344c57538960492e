/- The square root: Newton's and the bits' are one. -/
import Derived.Test.YtcbgfjidamoilaaQcoM8
set_option linter.unusedVariables false
namespace Go.Bag
open Go Go.AbsK

/-- s is the root of N, cut. -/
def Rt (s N : Int) : Prop := 0 ≤ s ∧ s * s ≤ N ∧ N < (s + 1) * (s + 1)
theorem sq_le {a b : Int} (h0 : 0 ≤ a) (h : a ≤ b) : a * a ≤ b * b := Int.le_trans (Int.mul_le_mul_of_nonneg_left h h0) (Int.mul_le_mul_of_nonneg_right h (by omega))
theorem sq_lt_of {a b : Int} (hb : 0 ≤ b) (h : a * a < b * b) (ha : 0 ≤ a) : a < b := by
  by_cases h' : a < b
  · exact h'
  · have := sq_le hb (show b ≤ a from by omega)
    omega
theorem rt_exists : ∀ n : Nat, ∃ s : Int, Rt s n
  | 0 => ⟨0, by decide, by decide, by decide⟩
  | n + 1 => by
    obtain ⟨s, h0, h1, h2⟩ := rt_exists n
    by_cases h : ((n + 1 : Nat) : Int) < (s + 1) * (s + 1)
    · exact ⟨s, h0, by push_cast at *; omega, h⟩
    · refine ⟨s + 1, by omega, by omega, ?_⟩
      have : (s + 1 + 1) * (s + 1 + 1) = (s + 1) * (s + 1) + 2 * (s + 1) + 1 := by
        rw [Int.add_mul (s + 1) 1, Int.mul_add (s + 1), Int.one_mul, Int.mul_one]
        omega
      push_cast at *
      omega
end Go.Bag

