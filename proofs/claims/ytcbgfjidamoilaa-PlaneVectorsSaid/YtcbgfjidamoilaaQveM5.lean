/- Ratios: the program's and the reference's are one. -/
import Derived.Test.YtcbgfjidamoilaaQveM4
set_option linter.unusedVariables false
namespace Go.Bag
open Go Go.AbsK

theorem num_eq {a b : Num} (h : a = b) : ((a.V == b.V) && ((a.F == b.F) && true)) = true := by rw [h]; simp
theorem vec_eq {a b : Vec} (h : a = b) : ((a.X.V == b.X.V) && ((a.X.F == b.X.F) && ((a.Y.V == b.Y.V) && ((a.Y.F == b.Y.F) && true)))) = true := by rw [h]; simp
end Go.Bag

