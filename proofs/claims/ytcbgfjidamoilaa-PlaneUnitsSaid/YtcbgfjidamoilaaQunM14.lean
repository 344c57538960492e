/- Vectors, turns, solutions: the program's and the reference's are one. -/
import Derived.Test.YtcbgfjidamoilaaQunM13
set_option linter.unusedVariables false
namespace Go.Bag
open Go Go.AbsK

theorem mul2 {x y : Num} (hx : I64 x.V) (hy : I64 y.V) : P_fixed_Mul x y ∧ ref01_Mul x y = fixed_Mul x y ∧ I64 (fixed_Mul x y).V := by
  obtain ⟨a, c, d⟩ := mul_eq hx hy
  rw [c, d]
  exact ⟨a, rfl, sat_I64 _ _⟩
theorem scale_eq {x : Vec} {y : Num} (hx : IV x) (hy : I64 y.V) : P_plane_Scale x y ∧ ref02_Scale x y = plane_Scale x y ∧ IV (plane_Scale x y) := by
  obtain ⟨a, b, c⟩ := mul2 hx.1 hy
  obtain ⟨d, e, f⟩ := mul2 hx.2 hy
  refine ⟨⟨a, d, trivial⟩, ?_, c, f⟩
  unfold ref02_Scale plane_Scale
  simp only [b, e]
end Go.Bag

