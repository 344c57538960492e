/- Weights and reaches: the program's and the reference's are one. -/
import Derived.Test.YtcbgfjidamoilaaQcoM22
set_option linter.unusedVariables false
namespace Go.Bag
open Go Go.AbsK

theorem corners_len {x : Shape} (h : ShOK x) (hk : x.Kind ≠ 1) : plane_Corners x = (if x.Kind = 2 then [⟨-x.W, -x.H⟩, ⟨x.W, -x.H⟩, ⟨x.W, x.H⟩, ⟨-x.W, x.H⟩] else x.Pts) ∧ 3 ≤ (plane_Corners x).length ∧ (plane_Corners x).length ≤ 8 := by
  have hc := (check_eq x).2.2.2.2 h
  unfold plane_Corners
  simp only []
  rw [hc, if_pos rfl]
  rcases h with ⟨g, -⟩ | ⟨g1, g2, g3, g4, g5⟩ | ⟨g1, g2, g3, g4, g5, g6, -⟩
  · exact absurd g hk
  · rw [if_pos g1, if_pos g1, i64_id (n := 0 - x.W) ⟨by omega, by omega⟩, i64_id (n := 0 - x.H) ⟨by omega, by omega⟩, Int.zero_sub, Int.zero_sub]
    exact ⟨rfl, show 3 ≤ 4 by decide, show 4 ≤ 8 by decide⟩
  · rw [if_neg (by omega), if_neg (by omega)]
    exact ⟨rfl, g5, g6⟩
end Go.Bag

