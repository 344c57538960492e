/- Equal shapes; shapes that are made. -/
import Derived.Test.YtcbgfjidamoilaaQcoM21
set_option linter.unusedVariables false
namespace Go.Bag
open Go Go.AbsK

theorem sound_eq (x : Shape) : P_plane_sound x ∧ P_ref02_checked x ∧ ref02_checked x = plane_sound x ∧ V_ref02_checked x = V_plane_sound x := by
  obtain ⟨a, b, c, d⟩ := check_eq x
  refine ⟨⟨a, trivial⟩, ⟨b, trivial⟩, ?_, ?_⟩
  · unfold ref02_checked plane_sound
    simp only [c]
  · unfold V_ref02_checked V_plane_sound
    simp only [c]
theorem poly_eq (l : List Spot) (hl : l.length ≤ 1000) : P_plane_Poly l ∧ P_ref02_Poly l ∧ ref02_Poly l = plane_Poly l := by
  obtain ⟨a, b, c, d⟩ := sound_eq ⟨3, 0, 0, 0, l⟩
  unfold P_plane_Poly P_ref02_Poly ref02_Poly plane_Poly
  rw [c, d]
  refine ⟨⟨by omega, ?_⟩, ⟨by omega, ?_⟩, rfl⟩ <;> split <;> first | exact ⟨a, trivial⟩ | exact ⟨b, trivial⟩
end Go.Bag

