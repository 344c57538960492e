/- The sine's series: what the functions under it compute; their conditions hold. -/
import Derived.Test.YtcbgfjidamoilaaQweM14
set_option linter.unusedVariables false
namespace Go.Bag
open Go Go.AbsK

theorem int_I64 {n : Int} (h : I64 n) : I64 (fixed_Int n).V := by rw [int_eq h]; exact sat_I64 _ _
theorem i64_wrap (n : Int) : I64 (IntKind.i64.wrap n) := by
  rw [IntKind.wrap_i64]
  unfold I64
  omega
end Go.Bag

