/- Whole numbers behind the words: what of, up, down and fit compute. -/
import Derived.Test.YtcbgfjidamoilaaQshSpec
import Derived.IntWalk
import Derived.Laws.Bits64b
set_option linter.unusedVariables false
namespace Go.Bag
open Go Go.AbsK

def I64 (n : Int) : Prop := -9223372036854775808 ≤ n ∧ n ≤ 9223372036854775807
theorem i64_wf {n : Int} (h : (Lit.int .i64 n).wf = true) : I64 n := by
  simp only [Lit.wf, Bool.and_eq_true, decide_eq_true_eq] at h
  exact h
theorem i64_id {n : Int} (h : I64 n) : IntKind.i64.wrap n = n := IntWalk.i64_in n h
end Go.Bag

