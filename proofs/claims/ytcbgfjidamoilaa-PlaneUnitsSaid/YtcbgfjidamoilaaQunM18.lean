/- Vectors in lists: sums in any order, equal functions. -/
import Derived.Test.YtcbgfjidamoilaaQunM17
set_option linter.unusedVariables false
namespace Go.Bag
open Go Go.AbsK

/-- A vector that was made of integers. -/
def Small (v : Vec) : Prop := v.X.F = false ∧ v.Y.F = false ∧ (-4294967296000000 < v.X.V ∧ v.X.V < 4294967296000000) ∧ (-4294967296000000 < v.Y.V ∧ v.Y.V < 4294967296000000)
theorem Small.iv {v : Vec} (h : Small v) : IV v := by
  obtain ⟨-, -, h1, h2⟩ := h
  unfold IV I64
  omega
theorem snd_id {x : Num} (h : x.V ≠ -9223372036854775808) : fixed_sound x = x := by unfold fixed_sound; rw [if_neg h]
end Go.Bag

