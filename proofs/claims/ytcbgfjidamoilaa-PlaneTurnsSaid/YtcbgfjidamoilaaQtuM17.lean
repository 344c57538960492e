/- What is made of a flagged vector is flagged. -/
import Derived.Test.YtcbgfjidamoilaaQtuM16
set_option linter.unusedVariables false
namespace Go.Bag
open Go Go.AbsK

theorem num_spec {x k : Int} (hx : I64 x) (hk : 0 < k ∧ k ≤ 1000000) : P_kit_Num x k ∧ kit_Num x k = ⟨x.tmod (k * 4294967296), false⟩ ∧ I64 (kit_Num x k).V ∧ -(k * 4294967296) < x.tmod (k * 4294967296) ∧ x.tmod (k * 4294967296) < k * 4294967296 := by
  have hw : IntKind.i64.wrap (k * 4294967296) = k * 4294967296 := i64_id ⟨by omega, by omega⟩
  have h1 := Int.tmod_lt_of_pos x (show 0 < k * 4294967296 by omega)
  have h2 : -(k * 4294967296) < x.tmod (k * 4294967296) := by
    have := Int.tmod_lt_of_pos (-x) (show 0 < k * 4294967296 by omega)
    rw [Int.neg_tmod] at this
    omega
  unfold P_kit_Num kit_Num
  rw [hw]
  refine ⟨⟨by omega, trivial⟩, rfl, ?_, h2, h1⟩
  show I64 (x.tmod (k * 4294967296))
  unfold I64
  omega
theorem within_spec {x y k : Int} (hx : I64 x) (hy : I64 y) (hk : 0 < k ∧ k ≤ 1000000) : P_law02_within x y k ∧ law02_within x y k = ⟨⟨x.tmod (k * 4294967296), false⟩, ⟨y.tmod (k * 4294967296), false⟩⟩ ∧ IV (law02_within x y k) := by
  obtain ⟨a1, a2, a3, -⟩ := num_spec hx hk
  obtain ⟨b1, b2, b3, -⟩ := num_spec hy hk
  refine ⟨⟨a1, b1, trivial⟩, ?_, a3, b3⟩
  unfold law02_within
  rw [a2, b2]
theorem fl_plain {v : Vec} (hx : v.X.F = false) (hy : v.Y.F = false) (h1 : v.X.V ≠ -9223372036854775808) (h2 : v.Y.V ≠ -9223372036854775808) : fl v = false := by
  unfold fl fixed_sound
  rw [if_neg h1, if_neg h2, hx, hy]
  rfl
end Go.Bag

