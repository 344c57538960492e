/- Units: the program's and the reference's are one. -/
import Derived.Test.YtcbgfjidamoilaaGreatQroM12
set_option linter.unusedVariables false
namespace Go.Bag
open Go Go.AbsK

theorem sat_I64 (n : Int) (f : Bool) : I64 (sat n f).V := by
  unfold sat I64
  split
  · exact ⟨by decide, by decide⟩
  · split
    · exact ⟨by decide, by decide⟩
    · simp only []
      omega
theorem rat_I64 (a b : Int) : I64 (rat a b).V := by
  unfold rat
  split
  · split
    · exact ⟨by decide, by decide⟩
    · split <;> exact ⟨by decide, by decide⟩
  · exact sat_I64 _ _
end Go.Bag

