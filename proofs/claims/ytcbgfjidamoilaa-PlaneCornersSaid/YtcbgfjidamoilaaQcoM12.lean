/- Faults, lengths, units: the program's and the reference's are one. -/
import Derived.Test.YtcbgfjidamoilaaQcoM11
set_option linter.unusedVariables false
namespace Go.Bag
open Go Go.AbsK

theorem sat_F {n : Int} (f : Bool) (h1 : -9223372036854775807 ≤ n) (h2 : n ≤ 9223372036854775807) : sat n f = ⟨n, f⟩ := by
  unfold sat
  rw [if_neg (by omega), if_neg (by omega)]
end Go.Bag

