/- The sine's series: what the functions under it compute; their conditions hold. -/
import Derived.Test.YtcbgfjidamoilaaQsuM15
set_option linter.unusedVariables false
namespace Go.Bag
open Go Go.AbsK

theorem i64_wrap (n : Int) : I64 (IntKind.i64.wrap n) := by
  rw [IntKind.wrap_i64]
  unfold I64
  omega
end Go.Bag

