/- Units: the program's and the reference's are one. -/
import Derived.Test.YtcbgfjidamoilaaQveM12
set_option linter.unusedVariables false
namespace Go.Bag
open Go Go.AbsK

theorem sat_I64 (n : Int) (f : Bool) : I64 (sat n f).V := by
  unfold sat I64
  split
  · exact ⟨by decide, by decide⟩
  · split
    · exact ⟨by decide, by decide⟩
    · simp only []
      omega
theorem len_eq {v : Vec} (h : IV v) : P_plane_Len v ∧ P_ref02_Len v ∧ plane_Len v = ref02_Len v ∧ I64 (plane_Len v).V := by
  obtain ⟨s, hs, p1, p2, e1, e2⟩ := hypot_eq h.1 h.2
  refine ⟨⟨p1, trivial⟩, ⟨p2, trivial⟩, ?_, ?_⟩
  · show fixed_Hypot v.X v.Y = ref01_Hypot v.X v.Y
    rw [e1, e2]
  · show I64 (fixed_Hypot v.X v.Y).V
    rw [e1]
    exact sat_I64 _ _
end Go.Bag

