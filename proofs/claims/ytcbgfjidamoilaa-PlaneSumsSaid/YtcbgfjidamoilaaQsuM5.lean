/- Ratios: the program's and the reference's are one. -/
import Derived.Test.YtcbgfjidamoilaaQsuM1
set_option linter.unusedVariables false
namespace Go.Bag
open Go Go.AbsK

theorem vec_eq {a b : Vec} (h : a = b) : ((a.X.V == b.X.V) && ((a.X.F == b.X.F) && ((a.Y.V == b.Y.V) && ((a.Y.F == b.Y.F) && true)))) = true := by rw [h]; simp
end Go.Bag

