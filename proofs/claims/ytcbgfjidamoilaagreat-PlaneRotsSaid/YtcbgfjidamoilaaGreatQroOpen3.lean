/- The program's types: what they lead to. -/
import Derived.Test.YtcbgfjidamoilaaGreatQroOpen2
import Derived.Test.YtcbgfjidamoilaaGreatQroM1
set_option linter.unusedVariables false
namespace Go.Proofs.YtcbgfjidamoilaaGreat
open Go Go.AbsK Go.Bag Go.RowKit Go.ChangeShapes Go.WideShapes Go.ChangeAt
theorem tKids : Kids Tryz.prog (· < Tryz.prog.types.size) := kids_rows (by kernel_rfl) (by kernel_rfl)
theorem tFull : ∀ t e, t < Tryz.prog.types.size → Tryz.prog.underlying t = some (.slice e) → 0 < Tryz.prog.cellsOf e := slices_full_of Tryz.prog (by kernel_rfl)
end Go.Proofs.YtcbgfjidamoilaaGreat

