/- The literals that every law evaluates. -/
import Derived.Test.YtcbgfjidamoilaaGreatQroSpec
namespace Go.Bag
open Go Go.AbsK
theorem awake_true : P_law02_awake := by
  unfold P_law02_awake
  repeat first | (intro r h; subst h) | (refine ⟨by decide +kernel, ?_⟩)
  decide +kernel
end Go.Bag

