/- Discs and boxes: sound, their weights positive, the greater the density the less. -/
import Derived.Test.YtcbgfjidamoilaaQtuM19
set_option linter.unusedVariables false
namespace Go.Bag
open Go Go.AbsK

theorem mul_bd {a b M N : Int} (hM : 0 ≤ M) (ha : -M ≤ a ∧ a ≤ M) (hb : -N ≤ b ∧ b ≤ N) : -(M * N) ≤ a * b ∧ a * b ≤ M * N := by
  have h : (a * b).natAbs = a.natAbs * b.natAbs := Int.natAbs_mul a b
  have h1 : (a.natAbs : Int) ≤ M := by omega
  have h2 : (b.natAbs : Int) ≤ N := by omega
  have h3 : (a.natAbs : Int) * (b.natAbs : Int) ≤ M * N := Int.le_trans (Int.mul_le_mul_of_nonneg_left h2 (by omega)) (Int.mul_le_mul_of_nonneg_right h1 (by omega))
  have h4 : ((a * b).natAbs : Int) = (a.natAbs : Int) * (b.natAbs : Int) := by rw [h]; push_cast; rfl
  omega
/-- A coordinate of a corner. -/
def Cd (n : Int) : Prop := -4096 ≤ n ∧ n ≤ 4096
/-- The list's corner. -/
def cn (l : List Spot) (i : Nat) : Spot := ⟨sx l i, sy l i⟩
theorem int_val {n : Int} (h : 0 ≤ n ∧ n ≤ 2000000000) : fixed_Int n = ⟨n * 4294967296, false⟩ := by
  rw [int_eq ⟨by omega, by omega⟩, sat_F _ (by omega) (by omega)]
end Go.Bag

