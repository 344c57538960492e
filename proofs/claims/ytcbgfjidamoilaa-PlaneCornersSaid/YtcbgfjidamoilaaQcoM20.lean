/- Discs and boxes: sound, their weights positive, the greater the density the less. -/
import Derived.Test.YtcbgfjidamoilaaQcoM19
set_option linter.unusedVariables false
namespace Go.Bag
open Go Go.AbsK

theorem mul_bd {a b M N : Int} (hM : 0 ≤ M) (ha : -M ≤ a ∧ a ≤ M) (hb : -N ≤ b ∧ b ≤ N) : -(M * N) ≤ a * b ∧ a * b ≤ M * N := by
  have h : (a * b).natAbs = a.natAbs * b.natAbs := Int.natAbs_mul a b
  have h1 : (a.natAbs : Int) ≤ M := by omega
  have h2 : (b.natAbs : Int) ≤ N := by omega
  have h3 : (a.natAbs : Int) * (b.natAbs : Int) ≤ M * N := Int.le_trans (Int.mul_le_mul_of_nonneg_left h2 (by omega)) (Int.mul_le_mul_of_nonneg_right h1 (by omega))
  have h4 : ((a * b).natAbs : Int) = (a.natAbs : Int) * (b.natAbs : Int) := by rw [h]; push_cast; rfl
  omega
/-- A coordinate of a corner. -/
def Cd (n : Int) : Prop := -4096 ≤ n ∧ n ≤ 4096
theorem cd_mul {a b : Int} (ha : Cd a) (hb : Cd b) : -16777216 ≤ a * b ∧ a * b ≤ 16777216 := by
  have := mul_bd (by decide) ha hb
  omega
theorem cross_val {a b : Spot} (ha : Cd a.X ∧ Cd a.Y) (hb : Cd b.X ∧ Cd b.Y) : plane_spot_cross a b = a.X * b.Y - a.Y * b.X ∧ -33554432 ≤ plane_spot_cross a b ∧ plane_spot_cross a b ≤ 33554432 := by
  have h1 := cd_mul ha.1 hb.2
  have h2 := cd_mul ha.2 hb.1
  have e : plane_spot_cross a b = a.X * b.Y - a.Y * b.X := by
    unfold plane_spot_cross
    rw [i64_id (n := a.X * b.Y) ⟨by omega, by omega⟩, i64_id (n := a.Y * b.X) ⟨by omega, by omega⟩, i64_id ⟨by omega, by omega⟩]
  rw [e]
  exact ⟨rfl, by omega, by omega⟩
theorem dot_val {a b : Spot} (ha : Cd a.X ∧ Cd a.Y) (hb : Cd b.X ∧ Cd b.Y) : plane_spot_dot a b = a.X * b.X + a.Y * b.Y ∧ -33554432 ≤ plane_spot_dot a b ∧ plane_spot_dot a b ≤ 33554432 := by
  have h1 := cd_mul ha.1 hb.1
  have h2 := cd_mul ha.2 hb.2
  have e : plane_spot_dot a b = a.X * b.X + a.Y * b.Y := by
    unfold plane_spot_dot
    rw [i64_id (n := a.X * b.X) ⟨by omega, by omega⟩, i64_id (n := a.Y * b.Y) ⟨by omega, by omega⟩, i64_id ⟨by omega, by omega⟩]
  rw [e]
  exact ⟨rfl, by omega, by omega⟩
/-- The list's corner. -/
def cn (l : List Spot) (i : Nat) : Spot := ⟨sx l i, sy l i⟩
theorem int_val {n : Int} (h : 0 ≤ n ∧ n ≤ 2000000000) : fixed_Int n = ⟨n * 4294967296, false⟩ := by
  rw [int_eq ⟨by omega, by omega⟩, sat_F _ (by omega) (by omega)]
theorem mod_spec {x k : Int} (hx : I64 x) (hk : 0 < k ∧ k ≤ 1000000) : P_kit_Mod x k ∧ 0 ≤ kit_Mod x k ∧ kit_Mod x k < k := by
  have h1 := Int.tmod_lt_of_pos x hk.1
  have h2 : -k < x.tmod k := by
    have := Int.tmod_lt_of_pos (-x) hk.1
    rw [Int.neg_tmod] at this
    omega
  unfold P_kit_Mod kit_Mod
  refine ⟨⟨by omega, trivial⟩, ?_⟩
  split
  · rw [i64_id ⟨by omega, by omega⟩]
    omega
  · omega
end Go.Bag

