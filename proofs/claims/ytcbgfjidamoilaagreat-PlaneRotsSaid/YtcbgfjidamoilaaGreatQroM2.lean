/- The reference's long division, bit by bit, is division. -/
import Derived.Test.YtcbgfjidamoilaaGreatQroM1
set_option linter.unusedVariables false
namespace Go.Bag
open Go Go.AbsK

theorem pow_pos' (k : Nat) : (0 : Int) < 2 ^ k := Int.pow_pos (by decide)
/-- One bit of a word. -/
theorem bit_of {w : Int} (hw : U64 w) (k : Nat) (hk : k < 64) : Go.bits .and .u64 (w.fdiv (2 ^ (min (IntKind.u64.wrap (k : Int)).toNat 64))) 1 = w / 2 ^ k % 2 := by
  rw [u64_id ⟨by omega, by omega⟩, Int.toNat_natCast, Nat.min_eq_left (by omega), fdiv_pos _ _ (Int.le_of_lt (pow_pos' k))]
  refine and_one ⟨Int.ediv_nonneg hw.1 (Int.le_of_lt (pow_pos' k)), Int.lt_of_le_of_lt (Int.ediv_le_self _ hw.1) hw.2⟩
theorem half_pow (a : Int) (k : Nat) : a / 2 ^ k / 2 = a / 2 ^ (k + 1) := by
  rw [Int.pow_succ, Int.ediv_ediv_of_nonneg (Int.le_of_lt (pow_pos' k))]
theorem high_bit {x : Wide} (hx : okW x) (k : Nat) : valW x / 2 ^ (64 + k) = x.hi / 2 ^ k := by
  obtain ⟨⟨a0, a1⟩, b0, b1⟩ := hx
  rw [Int.pow_add, ← Int.ediv_ediv_of_nonneg (by decide)]
  congr 1
  unfold valW
  omega
theorem low_bit {x : Wide} (hx : okW x) (k : Nat) (hk : k < 64) : valW x / 2 ^ k % 2 = x.lo / 2 ^ k % 2 := by
  unfold valW
  have h1 : (18446744073709551616 : Int) = 2 ^ k * (2 * 2 ^ (63 - k)) := by
    rw [← Int.pow_succ', ← Int.pow_add]
    have : k + (63 - k + 1) = 64 := by omega
    rw [this]; rfl
  rw [h1, show x.hi * (2 ^ k * (2 * 2 ^ (63 - k))) = 2 ^ k * (2 * (x.hi * 2 ^ (63 - k))) from by
    rw [Int.mul_left_comm, Int.mul_left_comm x.hi 2], Int.add_comm, Int.add_mul_ediv_left _ _ (Int.ne_of_gt (pow_pos' k))]
  omega
/-- One more bit. -/
theorem div_step {p y b : Int} (hy : 0 < y) (hb : 0 ≤ b ∧ b < 2) :
    (2 * p + b) / y = 2 * (p / y) + (if 2 * (p % y) + b ≥ y then 1 else 0) ∧ (2 * p + b) % y = 2 * (p % y) + b - (if 2 * (p % y) + b ≥ y then y else 0) := by
  have h1 := Int.emod_add_mul_ediv p y
  have h2 := Int.emod_nonneg p (Int.ne_of_gt hy)
  have h3 := Int.emod_lt_of_pos p hy
  generalize p % y = r at *
  generalize p / y = q at *
  rw [Int.ediv_emod_unique hy]
  split
  · refine ⟨?_, by omega, by omega⟩
    rw [Int.mul_add, Int.mul_one, Int.mul_left_comm]
    omega
  · refine ⟨?_, by omega, by omega⟩
    rw [Int.mul_add, Int.mul_zero, Int.mul_left_comm]
    omega
theorem over_iter {x : Wide} {y : Int} (hx : okW x) (hy : 0 < y) (hy2 : y ≤ 9223372036854775808) : ∀ (i : Nat) (k : Nat), i ≤ 128 →
    iterO (ref01_over_L0_step x y) (i + 1 + k) ((valW x / 2 ^ i / y) / 18446744073709551616, (valW x / 2 ^ i / y) % 18446744073709551616, (valW x / 2 ^ i) % y, (i : Int) - 1) = some ((valW x / y) / 18446744073709551616, (valW x / y) % 18446744073709551616)
  | 0, k, _ => by
    rw [show 0 + 1 + k = k + 1 from by omega]
    unfold iterO ref01_over_L0_step
    rw [if_neg (show ¬ (((0 : Nat) : Int) - 1 ≥ 0) from by decide)]
    simp
  | i + 1, k, hi => by
    have hv : 0 ≤ valW x ∧ valW x < 340282366920938463463374607431768211456 := by
      obtain ⟨⟨a0, a1⟩, b0, b1⟩ := hx
      unfold valW
      omega
    have hP : 0 ≤ valW x / 2 ^ (i + 1) ∧ valW x / 2 ^ (i + 1) < 170141183460469231731687303715884105728 := by
      refine ⟨Int.ediv_nonneg hv.1 (Int.le_of_lt (pow_pos' _)), ?_⟩
      rw [← half_pow]
      have : valW x / 2 ^ i ≤ valW x := Int.ediv_le_self _ hv.1
      omega
    have hq : 0 ≤ valW x / 2 ^ (i + 1) / y ∧ valW x / 2 ^ (i + 1) / y < 170141183460469231731687303715884105728 :=
      ⟨Int.ediv_nonneg hP.1 (Int.le_of_lt hy), Int.lt_of_le_of_lt (Int.ediv_le_self _ hP.1) hP.2⟩
    have hr1 := Int.emod_nonneg (valW x / 2 ^ (i + 1)) (Int.ne_of_gt hy)
    have hr2 := Int.emod_lt_of_pos (valW x / 2 ^ (i + 1)) hy
    have hb : 0 ≤ valW x / 2 ^ i % 2 ∧ valW x / 2 ^ i % 2 < 2 := ⟨by omega, by omega⟩
    have hp : valW x / 2 ^ i = 2 * (valW x / 2 ^ (i + 1)) + valW x / 2 ^ i % 2 := by
      rw [← half_pow]
      omega
    obtain ⟨hd1, hd2⟩ := div_step (p := valW x / 2 ^ (i + 1)) hy hb
    rw [← hp] at hd1 hd2
    have ih := over_iter hx hy hy2 i k (by omega)
    rw [show i + 1 + 1 + k = (i + 1 + k) + 1 from by omega]
    unfold iterO
    suffices hs : ref01_over_L0_step x y ((valW x / 2 ^ (i + 1) / y) / 18446744073709551616, (valW x / 2 ^ (i + 1) / y) % 18446744073709551616, (valW x / 2 ^ (i + 1)) % y, ((i + 1 : Nat) : Int) - 1) = some (.inl ((valW x / 2 ^ i / y) / 18446744073709551616, (valW x / 2 ^ i / y) % 18446744073709551616, (valW x / 2 ^ i) % y, (i : Int) - 1)) by
      rw [hs]
      exact ih
    have hbit : (if ((i + 1 : Nat) : Int) - 1 ≥ 64 then Go.bits .and .u64 ((x.hi).fdiv (2 ^ (min (IntKind.u64.wrap (IntKind.i64.wrap (((i + 1 : Nat) : Int) - 1 - 64))).toNat 64))) 1 else Go.bits .and .u64 ((x.lo).fdiv (2 ^ (min (IntKind.u64.wrap (((i + 1 : Nat) : Int) - 1)).toNat 64))) 1) = valW x / 2 ^ i % 2 := by
      by_cases h64 : 64 ≤ i
      · rw [if_pos (by omega), i64_id ⟨by omega, by omega⟩]
        have : ((i + 1 : Nat) : Int) - 1 - 64 = ((i - 64 : Nat) : Int) := by omega
        rw [this, bit_of hx.2 (i - 64) (by omega), ← high_bit hx]
        rw [show 64 + (i - 64) = i from by omega]
      · rw [if_neg (by omega)]
        have : ((i + 1 : Nat) : Int) - 1 = (i : Int) := by omega
        rw [this, bit_of hx.1 i (by omega), low_bit hx i (by omega)]
    have hidx : IntKind.i64.wrap (((i + 1 : Nat) : Int) - 1 - 1) = (i : Int) - 1 := by rw [i64_id ⟨by omega, by omega⟩]; omega
    unfold ref01_over_L0_step
    simp only []
    rw [if_pos (show ((i + 1 : Nat) : Int) - 1 ≥ 0 from by omega), hidx]
    generalize hB : valW x / 2 ^ i % 2 = B at *
    generalize hQ : valW x / 2 ^ (i + 1) / y = Q at *
    generalize hR : valW x / 2 ^ (i + 1) % y = R at *
    have hrest : Go.bits .or .u64 (IntKind.u64.wrap (R * 2)) B = 2 * R + B := by
      rw [or_add 1 (u64_U _) ⟨by omega, by omega⟩ (by omega) (by rw [u64_mod]; omega), u64_mod]
      omega
    have hhi : Go.bits .or .u64 (IntKind.u64.wrap (Q / 18446744073709551616 * 2)) ((Q % 18446744073709551616).fdiv 9223372036854775808) = 2 * Q / 18446744073709551616 := by
      rw [fdiv_pos _ _ (by decide), or_add 1 (u64_U _) ⟨by omega, by omega⟩ (by omega) (by rw [u64_mod]; omega), u64_mod]
      omega
    have hlo : IntKind.u64.wrap (Q % 18446744073709551616 * 2) = 2 * Q % 18446744073709551616 := by rw [u64_mod]; omega
    have hlo1 : Go.bits .or .u64 (IntKind.u64.wrap (Q % 18446744073709551616 * 2)) 1 = (2 * Q + 1) % 18446744073709551616 := by
      rw [or_add 1 (u64_U _) ⟨by omega, by omega⟩ (by omega) (by rw [u64_mod]; omega), u64_mod]
      omega
    have hhi1 : 2 * Q / 18446744073709551616 = (2 * Q + 1) / 18446744073709551616 := by omega
    by_cases h64 : ((i + 1 : Nat) : Int) - 1 ≥ 64
    all_goals
      first | rw [if_pos h64] at hbit ⊢ | rw [if_neg h64] at hbit ⊢
      rw [hbit, hrest, hhi]
      by_cases hge : 2 * R + B ≥ y
      · rw [if_pos hge, hlo1, u64_id ⟨by omega, by omega⟩]
        rw [if_pos hge] at hd1 hd2
        rw [hd1, hd2, hhi1]
      · rw [if_neg hge, hlo]
        rw [if_neg hge] at hd1 hd2
        rw [hd1, hd2, Int.add_zero, Int.sub_zero]
theorem over_spec {x : Wide} {y : Int} (hx : okW x) (hy : 0 < y) (hy2 : y ≤ 9223372036854775808) :
    P_ref01_over x y ∧ okW (ref01_over x y) ∧ valW (ref01_over x y) = valW x / y ∧ (ref01_over x y).neg = x.neg := by
  have hv : 0 ≤ valW x ∧ valW x < 340282366920938463463374607431768211456 := by
    obtain ⟨⟨a0, a1⟩, b0, b1⟩ := hx
    unfold valW
    omega
  have h := over_iter hx hy hy2 128 (NN - 129) (Nat.le_refl _)
  have hz : valW x / 2 ^ 128 = 0 := by omega
  rw [hz, Int.zero_ediv, Int.zero_emod, Int.zero_ediv, Int.zero_emod] at h
  have h' : iterO (ref01_over_L0_step x y) NN (0, 0, 0, 127) = some ((valW x / y) / 18446744073709551616, (valW x / y) % 18446744073709551616) := h
  have hq : 0 ≤ valW x / y ∧ valW x / y < 340282366920938463463374607431768211456 := ⟨Int.ediv_nonneg hv.1 (Int.le_of_lt hy), Int.lt_of_le_of_lt (Int.ediv_le_self _ hv.1) hv.2⟩
  unfold P_ref01_over ref01_over
  rw [h']
  generalize hA : valW x / y = A at *
  refine ⟨⟨rfl, trivial⟩, ⟨⟨?_, ?_⟩, ?_, ?_⟩, ?_, rfl⟩
  · show 0 ≤ A % 18446744073709551616; omega
  · show A % 18446744073709551616 < _; omega
  · show 0 ≤ A / 18446744073709551616; omega
  · show A / 18446744073709551616 < _; omega
  · show A / 18446744073709551616 * 18446744073709551616 + A % 18446744073709551616 = A; omega
end Go.Bag

