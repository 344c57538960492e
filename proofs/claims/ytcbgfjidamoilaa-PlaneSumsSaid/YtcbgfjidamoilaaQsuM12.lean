/- Faults, lengths, units: the program's and the reference's are one. -/
import Derived.Test.YtcbgfjidamoilaaQsuM11
set_option linter.unusedVariables false
namespace Go.Bag
open Go Go.AbsK

def IV (v : Vec) : Prop := I64 v.X.V ∧ I64 v.Y.V
theorem sat_F {n : Int} (f : Bool) (h1 : -9223372036854775807 ≤ n) (h2 : n ≤ 9223372036854775807) : sat n f = ⟨n, f⟩ := by
  unfold sat
  rw [if_neg (by omega), if_neg (by omega)]
end Go.Bag

