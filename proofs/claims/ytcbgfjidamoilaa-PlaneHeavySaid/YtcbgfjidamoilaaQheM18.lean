/- Vectors in lists: sums in any order, equal functions. -/
import Derived.Test.YtcbgfjidamoilaaQheM12
set_option linter.unusedVariables false
namespace Go.Bag
open Go Go.AbsK

theorem snd_id {x : Num} (h : x.V ≠ -9223372036854775808) : fixed_sound x = x := by unfold fixed_sound; rw [if_neg h]
end Go.Bag

