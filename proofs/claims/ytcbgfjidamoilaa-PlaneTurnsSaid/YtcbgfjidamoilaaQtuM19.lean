/- The length of a direction is 1, but for a little. -/
import Derived.Test.YtcbgfjidamoilaaQtuM18
set_option linter.unusedVariables false
namespace Go.Bag
open Go Go.AbsK

theorem sq_nat (a : Int) : a * a = (a.natAbs : Int) * (a.natAbs : Int) := by
  rcases Int.natAbs_eq a with h | h
  · rw [← h]
  · have : (a.natAbs : Int) = -a := by omega
    rw [this]; grind
/-- The quotient's absolute value. -/
def qt (a n : Int) : Int := (a.natAbs : Int) * 4294967296 / n
theorem rat_pos {a n : Int} (hn : 0 < n) (hq : qt a n ≤ 9223372036854775807) : rat a n = ⟨if a < 0 then -(qt a n) else qt a n, false⟩ := by
  have h0 : 0 ≤ qt a n := Int.ediv_nonneg (by omega) (by omega)
  unfold rat
  rw [if_neg (by omega), show ((n.natAbs : Nat) : Int) = n from by omega]
  change sat (sg _ (qt a n)) false = _
  by_cases ha : a < 0
  · rw [if_pos ha]
    have : sg (!(decide (a < 0) == decide (n < 0))) (qt a n) = -(qt a n) := by
      unfold sg; rw [show decide (a < 0) = true from decide_eq_true ha, show decide (n < 0) = false from decide_eq_false (by omega)]; rfl
    rw [this, sat_F _ (by omega) (by omega)]
  · rw [if_neg ha]
    have : sg (!(decide (a < 0) == decide (n < 0))) (qt a n) = qt a n := by
      unfold sg; rw [show decide (a < 0) = false from decide_eq_false ha, show decide (n < 0) = false from decide_eq_false (by omega)]; rfl
    rw [this, sat_F _ (by omega) (by omega)]
theorem qt_le {a n : Int} (hn : 0 < n) (h : (a.natAbs : Int) ≤ n) : qt a n ≤ 4294967296 := by
  unfold qt
  exact Int.ediv_le_of_le_mul hn (by omega)
theorem qt_spec {a n : Int} (hn : 0 < n) : 0 ≤ qt a n ∧ qt a n * n ≤ (a.natAbs : Int) * 4294967296 ∧ (a.natAbs : Int) * 4294967296 < (qt a n + 1) * n := by
  refine ⟨Int.ediv_nonneg (by omega) (by omega), Int.ediv_mul_le _ (by omega), ?_⟩
  exact Int.lt_ediv_add_one_mul_self _ hn
theorem abs_le_rt {A B s : Int} (hA : 0 ≤ A) (hs : Rt s (A * A + B * B)) : A ≤ s := by
  have h1 := sq_nonneg B
  have := sq_lt_of (a := A) (b := s + 1) (by have := hs.1; omega) (by have := hs.2.2; omega) hA
  omega
/-- A quotient with the sign of what was divided. -/
def sgq (a n : Int) : Int := if a < 0 then -(qt a n) else qt a n
theorem sgq_sq (a n : Int) : sgq a n * sgq a n = qt a n * qt a n := by
  unfold sgq
  split <;> grind
theorem near_true {x y m : Int} (h1 : x - y ≤ m) (h2 : y - x ≤ m) (hm : m ≤ 9223372036854775807) (hm0 : 0 ≤ m) : law02_near ⟨x, false⟩ ⟨y, false⟩ m = true := by
  unfold law02_near
  simp only [Bool.false_eq_true, if_false]
  rw [i64_id ⟨by omega, by omega⟩, i64_id ⟨by omega, by omega⟩, if_pos h1]
  exact decide_eq_true h2
end Go.Bag

