/- PlaneTurns. -/
import Derived.Test.YtcbgfjidamoilaaQcoM26
set_option linter.unusedVariables false
namespace Go.Bag
open Go Go.AbsK

theorem num_bd {x k : Int} (hx : I64 x) (hk : 0 < k ∧ k ≤ 1000000) : ∃ n, kit_Num x k = ⟨n, false⟩ ∧ P_kit_Num x k ∧ -(k * 4294967296) < n ∧ n < k * 4294967296 := by
  obtain ⟨a, b, c, d, e⟩ := num_spec hx hk
  exact ⟨_, b, a, d, e⟩
end Go.Bag

