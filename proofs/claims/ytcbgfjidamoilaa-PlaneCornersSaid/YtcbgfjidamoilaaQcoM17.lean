/- What is made of a flagged vector is flagged. -/
import Derived.Test.YtcbgfjidamoilaaQcoM16
set_option linter.unusedVariables false
namespace Go.Bag
open Go Go.AbsK

theorem num_spec {x k : Int} (hx : I64 x) (hk : 0 < k ∧ k ≤ 1000000) : P_kit_Num x k ∧ kit_Num x k = ⟨x.tmod (k * 4294967296), false⟩ ∧ I64 (kit_Num x k).V ∧ -(k * 4294967296) < x.tmod (k * 4294967296) ∧ x.tmod (k * 4294967296) < k * 4294967296 := by
  have hw : IntKind.i64.wrap (k * 4294967296) = k * 4294967296 := i64_id ⟨by omega, by omega⟩
  have h1 := Int.tmod_lt_of_pos x (show 0 < k * 4294967296 by omega)
  have h2 : -(k * 4294967296) < x.tmod (k * 4294967296) := by
    have := Int.tmod_lt_of_pos (-x) (show 0 < k * 4294967296 by omega)
    rw [Int.neg_tmod] at this
    omega
  unfold P_kit_Num kit_Num
  rw [hw]
  refine ⟨⟨by omega, trivial⟩, rfl, ?_, h2, h1⟩
  show I64 (x.tmod (k * 4294967296))
  unfold I64
  omega
end Go.Bag

