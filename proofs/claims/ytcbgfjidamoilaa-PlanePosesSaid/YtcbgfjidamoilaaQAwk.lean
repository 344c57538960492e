/- The literals that every law evaluates. -/
import Derived.Test.YtcbgfjidamoilaaQS1
namespace Go.Bag
open Go Go.AbsK
theorem dec_true {p : Prop} [h : Decidable p] (e : decide p = true) : p := of_decide_eq_true e
theorem awake_true : P_law02_awake := by
  unfold P_law02_awake
  repeat first | (intro r h; subst h) | (refine ⟨by decide +kernel, ?_⟩)
  decide +kernel
end Go.Bag
