/- The reference's sums; flags; products of numbers. -/
import Derived.Test.YtcbgfjidamoilaaQshM6
set_option linter.unusedVariables false
namespace Go.Bag
open Go Go.AbsK

theorem nth_eq {α : Type} [Inhabited α] (l : List α) (i : Nat) (h : i < l.length) : nth l (i : Int) = l[i] := by
  unfold nth
  rw [Int.toNat_natCast, List.getD_eq_getElem?_getD, List.getElem?_eq_getElem h]
  rfl
end Go.Bag

