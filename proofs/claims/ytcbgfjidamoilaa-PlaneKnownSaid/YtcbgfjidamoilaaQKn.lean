/- PlaneKnown's conditions hold. -/
import Derived.Test.YtcbgfjidamoilaaQAwk
namespace Go.Bag
open Go Go.AbsK
theorem known_true : P_law02_PlaneKnown := by
  unfold P_law02_PlaneKnown
  repeat first | (intro r h; subst h) | (refine ⟨by decide +kernel, ?_⟩)
  decide +kernel
end Go.Bag
