/- Lengths and faults. -/
import Derived.Test.YtcbgfjidamoilaaQsuM8
set_option linter.unusedVariables false
namespace Go.Bag
open Go Go.AbsK

theorem U64_zero : U64 0 := ⟨by decide, by decide⟩
end Go.Bag

