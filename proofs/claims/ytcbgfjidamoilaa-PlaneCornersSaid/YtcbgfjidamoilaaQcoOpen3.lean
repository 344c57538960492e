/- Shapes, lists of spots, vectors and numbers among a law's arguments. -/
import Derived.Test.YtcbgfjidamoilaaQcoOpen2
import Derived.Test.YtcbgfjidamoilaaQcoM1
set_option linter.unusedVariables false
namespace Go.Proofs.Ytcbgfjidamoilaa
open Go Go.AbsK Go.Bag Go.RowKit Go.ChangeShapes Go.WideShapes Go.ChangeAt

theorem tKids : Kids Try.prog (· < Try.prog.types.size) := kids_rows (by kernel_rfl) (by kernel_rfl)
theorem tFull : ∀ t e, t < Try.prog.types.size → Try.prog.underlying t = some (.slice e) → 0 < Try.prog.cellsOf e := slices_full_of Try.prog (by kernel_rfl)
section
variable {H : Type} {enc : TypeId × Value → H} {w : World}
end
end Go.Proofs.Ytcbgfjidamoilaa

