/- Vectors, turns, solutions: the program's and the reference's are one. -/
import Derived.Test.YtcbgfjidamoilaaQweM13
set_option linter.unusedVariables false
namespace Go.Bag
open Go Go.AbsK

theorem div2 {x y : Num} (hx : I64 x.V) (hy : I64 y.V) : P_fixed_Div x y ∧ P_ref01_Div x y ∧ ref01_Div x y = fixed_Div x y ∧ I64 (fixed_Div x y).V := by
  obtain ⟨a, b, c, d⟩ := div_eq hx hy
  rw [c, d]
  exact ⟨a, b, rfl, rat_I64 _ _⟩
end Go.Bag

