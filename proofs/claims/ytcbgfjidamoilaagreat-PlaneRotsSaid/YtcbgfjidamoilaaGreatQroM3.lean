/- The division of two words by one is division. -/
import Derived.Test.YtcbgfjidamoilaaGreatQroM2
set_option linter.unusedVariables false
namespace Go.Bag
open Go Go.AbsK

theorem len8_spec {v : Int} (h0 : 0 < v) (h1 : v < 256) : ∃ l : Nat, len8 v = (l : Int) + 1 ∧ l < 8 ∧ (2 : Int) ^ l ≤ v ∧ v < 2 ^ (l + 1) := by
  obtain ⟨n, rfl⟩ := Int.eq_ofNat_of_zero_le (Int.le_of_lt h0)
  refine ⟨n.log2, ?_, ?_, ?_, ?_⟩
  · unfold len8
    rw [if_neg (by omega), Int.toNat_natCast]
    rfl
  · exact (Nat.log2_lt (by omega)).2 (by omega)
  · exact_mod_cast Nat.log2_self_le (by omega)
  · exact_mod_cast Nat.lt_log2_self (n := n)
theorem len_part {x : Int} (k l : Nat) (hx : 0 < x) (h1 : (2 : Int) ^ l ≤ x / 2 ^ k) (h2 : x / 2 ^ k < 2 ^ (l + 1)) : (2 : Int) ^ (k + l) ≤ x ∧ x < 2 ^ (k + l + 1) := by
  rw [Int.le_ediv_iff_mul_le (pow_pos' k)] at h1
  rw [Int.ediv_lt_iff_lt_mul (pow_pos' k)] at h2
  rw [← Int.pow_add] at h1 h2
  rw [Nat.add_comm k l]
  exact ⟨h1, by rw [show l + k + 1 = l + 1 + k from by omega]; exact h2⟩
theorem len_spec {x : Int} (h0 : 0 < x) (h1 : x < 18446744073709551616) : ∃ l : Nat, bits_Len64 x = (l : Int) + 1 ∧ l < 64 ∧ (2 : Int) ^ l ≤ x ∧ x < 2 ^ (l + 1) := by
  have key : ∀ (k : Nat) (v : Int), k ≤ 56 → v = x / 2 ^ k → 0 < v → v < 256 → ∃ l : Nat, IntKind.i64.wrap ((k : Int) + IntKind.i64.wrap (len8 (IntKind.u8.wrap v))) = (l : Int) + 1 ∧ l < 64 ∧ (2 : Int) ^ l ≤ x ∧ x < 2 ^ (l + 1) := by
    intro k v hk hv hv0 hv1
    obtain ⟨l, g1, g2, g3, g4⟩ := len8_spec hv0 hv1
    refine ⟨k + l, ?_, by omega, ?_⟩
    · rw [IntWalk.u8_in v ⟨by omega, by omega⟩, g1, i64_id (n := (l : Int) + 1) ⟨by omega, by omega⟩, i64_id ⟨by omega, by omega⟩]
      omega
    · subst hv
      exact len_part k l h0 g3 g4
  unfold bits_Len64
  have e1 : (x).fdiv 4294967296 = x / 4294967296 := fdiv_pos _ _ (by decide)
  have e2 : (x / 4294967296).fdiv 65536 = x / 281474976710656 := by rw [fdiv_pos _ _ (by decide)]; omega
  have e3 : (x / 281474976710656).fdiv 256 = x / 72057594037927936 := by rw [fdiv_pos _ _ (by decide)]; omega
  have e4 : (x / 4294967296).fdiv 256 = x / 1099511627776 := by rw [fdiv_pos _ _ (by decide)]; omega
  have e5 : (x).fdiv 65536 = x / 65536 := fdiv_pos _ _ (by decide)
  have e6 : (x / 65536).fdiv 256 = x / 16777216 := by rw [fdiv_pos _ _ (by decide)]; omega
  have e7 : (x).fdiv 256 = x / 256 := fdiv_pos _ _ (by decide)
  rw [e1, e2, e3, e4, e5, e6, e7]
  split
  · split
    · split
      · exact key 56 _ (by omega) rfl (by omega) (by omega)
      · exact key 48 _ (by omega) rfl (by omega) (by omega)
    · split
      · exact key 40 _ (by omega) rfl (by omega) (by omega)
      · exact key 32 _ (by omega) rfl (by omega) (by omega)
  · split
    · split
      · exact key 24 _ (by omega) rfl (by omega) (by omega)
      · exact key 16 _ (by omega) rfl (by omega) (by omega)
    · split
      · exact key 8 _ (by omega) rfl (by omega) (by omega)
      · exact key 0 _ (by omega) (by simp) (by omega) (by omega)
theorem lead_spec {z : Int} (h0 : 0 < z) (h1 : z < 18446744073709551616) : ∃ s : Nat, bits_LeadingZeros64 z = (s : Int) ∧ s < 64 ∧ 9223372036854775808 ≤ z * 2 ^ s ∧ z * 2 ^ s < 18446744073709551616 := by
  obtain ⟨l, g1, g2, g3, g4⟩ := len_spec h0 h1
  refine ⟨63 - l, ?_, by omega, ?_, ?_⟩
  · show IntKind.i64.wrap (64 - bits_Len64 z) = _
    rw [g1, i64_id ⟨by omega, by omega⟩]
    omega
  · have := Int.mul_le_mul_of_nonneg_right g3 (Int.le_of_lt (pow_pos' (63 - l)))
    rw [← Int.pow_add, show l + (63 - l) = 63 from by omega] at this
    exact this
  · have := Int.mul_lt_mul_of_pos_right g4 (pow_pos' (63 - l))
    rw [← Int.pow_add, show l + 1 + (63 - l) = 64 from by omega] at this
    exact this
/-- The digit. -/
def dig (u w Y : Int) : Int := (u * 4294967296 + w) / Y
theorem dig_gt {u w Y q rh n1 n0 : Int} (hY : Y = n1 * 4294967296 + n0) (hpos : 0 < Y) (hinv : q * n1 + rh = u) : dig u w Y < q ↔ rh * 4294967296 + w < q * n0 := by
  unfold dig
  rw [Int.ediv_lt_iff_lt_mul hpos, hY, Int.mul_add, ← Int.mul_assoc]
  generalize q * n1 = A at *
  generalize q * n0 = B at *
  omega
theorem dig_lt {u w Y : Int} (hpos : 0 < Y) (hu : u < Y) (hw : w < 4294967296) : dig u w Y < 4294967296 := by
  unfold dig
  rw [Int.ediv_lt_iff_lt_mul hpos]
  omega
/-- A round of the loop, in whole numbers: on with one less, or done. -/
theorem dig_round {u w Y q rh n1 n0 : Int} (hY : Y = n1 * 4294967296 + n0) (hn1 : 2147483648 ≤ n1) (hn1' : n1 < 4294967296) (hn0 : 0 ≤ n0) (hn0' : n0 < 4294967296) (hu0 : 0 ≤ u) (hu : u < Y) (hw0 : 0 ≤ w) (hw : w < 4294967296)
    (hinv : q * n1 + rh = u) (hrh : 0 ≤ rh) (hrh' : rh < 4294967296) (hq : dig u w Y ≤ q) (hq' : q ≤ 4294967297) :
    ((4294967296 ≤ q ∨ (q < 4294967296 ∧ rh * 4294967296 + w < q * n0)) → dig u w Y ≤ q - 1 ∧ (q - 1) * n1 + (rh + n1) = u ∧ (4294967296 ≤ rh + n1 → q - 1 = dig u w Y)) ∧
    (¬ (4294967296 ≤ q ∨ (q < 4294967296 ∧ rh * 4294967296 + w < q * n0)) → q = dig u w Y) := by
  have hpos : 0 < Y := by omega
  have h1 := dig_gt (w := w) hY hpos hinv
  have h2 := dig_lt hpos hu hw
  have h0 : 0 ≤ dig u w Y := by
    unfold dig
    exact Int.ediv_nonneg (by omega) (Int.le_of_lt hpos)
  refine ⟨fun hc => ?_, fun hc => ?_⟩
  · have hgt : dig u w Y < q := by
      rcases hc with hc | ⟨-, hc⟩
      · omega
      · exact h1.2 hc
    have hinv' : (q - 1) * n1 + (rh + n1) = u := by rw [Int.sub_mul, Int.one_mul]; omega
    refine ⟨by omega, hinv', fun hb => ?_⟩
    have h3 := dig_gt (w := w) hY hpos hinv'
    have h4 : (q - 1) * n0 ≤ 4294967296 * 4294967295 := Int.le_trans (Int.mul_le_mul_of_nonneg_left (by omega : n0 ≤ 4294967295) (by omega)) (Int.mul_le_mul_of_nonneg_right (by omega) (by omega))
    have : ¬ dig u w Y < q - 1 := by
      rw [h3]
      omega
    omega
  · have : ¬ dig u w Y < q := by
      rw [h1]
      intro hlt
      exact hc (by by_cases hq2 : q < 4294967296 <;> first | exact .inr ⟨hq2, hlt⟩ | exact .inl (by omega))
    omega
end Go.Bag

