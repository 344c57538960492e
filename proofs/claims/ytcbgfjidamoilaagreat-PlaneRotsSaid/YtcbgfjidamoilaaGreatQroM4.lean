/- The division of two words by one: the loops, and the whole. -/
import Derived.Test.YtcbgfjidamoilaaGreatQroM3
set_option linter.unusedVariables false
namespace Go.Bag
open Go Go.AbsK

theorem loop0 {r0 y z Y w u n1 n0 : Int} (eY : IntKind.u64.wrap (z * 2 ^ (min (IntKind.u64.wrap r0).toNat 64)) = Y) (ew : (IntKind.u64.wrap (y * 2 ^ (min (IntKind.u64.wrap r0).toNat 64))).fdiv 4294967296 = w)
    (e1 : Y.fdiv 4294967296 = n1) (e0 : Go.bits .and .u64 Y 4294967295 = n0)
    (hY : Y = n1 * 4294967296 + n0) (hn1 : 2147483648 ≤ n1) (hn1' : n1 < 4294967296) (hn0 : 0 ≤ n0) (hn0' : n0 < 4294967296) (hu0 : 0 ≤ u) (hu : u < Y) (hw0 : 0 ≤ w) (hw : w < 4294967296) :
    ∀ (m k : Nat) (q rh : Int), q * n1 + rh = u → 0 ≤ rh → rh < 4294967296 → dig u w Y ≤ q → q ≤ 4294967297 → 4294967296 ≤ rh + (m : Int) * 2147483648 →
      ∃ rh', iterO (bits_Div64_L0_step r0 y z) (m + k) (q, rh) = some (dig u w Y, rh')
  | 0, k, q, rh, _, _, h2, _, _, h5 => by omega
  | m + 1, k, q, rh, hinv, hrh, hrh', hq, hq', hm => by
    have h0 : 0 ≤ dig u w Y := by
      unfold dig
      exact Int.ediv_nonneg (by omega) (by omega)
    have hB : q < 4294967296 → q * n0 < 18446744073709551616 := fun hlt =>
      Int.lt_of_le_of_lt (Int.le_trans (Int.mul_le_mul_of_nonneg_left (by omega : n0 ≤ 4294967295) (by omega)) (Int.mul_le_mul_of_nonneg_right (by omega : q ≤ 4294967295) (by omega))) (by decide : (4294967295 : Int) * 4294967295 < _)
    have hB0 : 0 ≤ q * n0 := Int.mul_nonneg (by omega) hn0
    obtain ⟨hyes, hno⟩ := dig_round hY hn1 hn1' hn0 hn0' hu0 hu hw0 hw hinv hrh hrh' hq hq'
    have ih := loop0 eY ew e1 e0 hY hn1 hn1' hn0 hn0' hu0 hu hw0 hw m k (q - 1) (rh + n1)
    have hwl : IntKind.u64.wrap (IntKind.u64.wrap (4294967296 * rh) + w) = rh * 4294967296 + w := by
      rw [u64_mod, u64_mod]
      omega
    have hrw : IntKind.u64.wrap (rh + n1) = rh + n1 := u64_id ⟨by omega, by omega⟩
    rw [show m + 1 + k = (m + k) + 1 from by omega]
    have hst : bits_Div64_L0_step r0 y z (q, rh) = (if q ≥ 4294967296 then (if rh + n1 ≥ 4294967296 then some (.inr (IntKind.u64.wrap (q - 1), rh + n1)) else some (.inl (IntKind.u64.wrap (q - 1), rh + n1)))
        else if IntKind.u64.wrap (q * n0) > rh * 4294967296 + w then (if rh + n1 ≥ 4294967296 then some (.inr (IntKind.u64.wrap (q - 1), rh + n1)) else some (.inl (IntKind.u64.wrap (q - 1), rh + n1))) else some (.inr (q, rh))) := by
      unfold bits_Div64_L0_step
      simp only []
      rw [eY, ew, e1, e0, hwl, hrw]
    unfold iterO
    rw [hst]
    by_cases hc1 : q ≥ 4294967296
    · obtain ⟨g1, g2, g3⟩ := hyes (.inl hc1)
      have hqw : IntKind.u64.wrap (q - 1) = q - 1 := u64_id ⟨by omega, by omega⟩
      rw [if_pos hc1, hqw]
      by_cases hb : rh + n1 ≥ 4294967296
      · rw [if_pos hb]
        exact ⟨rh + n1, by rw [g3 hb]⟩
      · rw [if_neg hb]
        exact ih g2 (by omega) (by omega) g1 (by omega) (by push_cast at hm; omega)
    · rw [if_neg hc1]
      have hqn : IntKind.u64.wrap (q * n0) = q * n0 := u64_id ⟨hB0, hB (by omega)⟩
      rw [hqn]
      by_cases hc2 : q * n0 > rh * 4294967296 + w
      · obtain ⟨g1, g2, g3⟩ := hyes (.inr ⟨by omega, hc2⟩)
        have hqw : IntKind.u64.wrap (q - 1) = q - 1 := u64_id ⟨by omega, by omega⟩
        rw [if_pos hc2, hqw]
        by_cases hb : rh + n1 ≥ 4294967296
        · rw [if_pos hb]
          exact ⟨rh + n1, by rw [g3 hb]⟩
        · rw [if_neg hb]
          exact ih g2 (by omega) (by omega) g1 (by omega) (by push_cast at hm; omega)
      · rw [if_neg hc2]
        exact ⟨rh, by rw [hno (by intro h; rcases h with h | ⟨-, h⟩ <;> omega)]⟩
theorem loop1 {r0 y z Y w u n1 n0 : Int} (eY : IntKind.u64.wrap (z * 2 ^ (min (IntKind.u64.wrap r0).toNat 64)) = Y) (ew : Go.bits .and .u64 (IntKind.u64.wrap (y * 2 ^ (min (IntKind.u64.wrap r0).toNat 64))) 4294967295 = w)
    (e1 : Y.fdiv 4294967296 = n1) (e0 : Go.bits .and .u64 Y 4294967295 = n0)
    (hY : Y = n1 * 4294967296 + n0) (hn1 : 2147483648 ≤ n1) (hn1' : n1 < 4294967296) (hn0 : 0 ≤ n0) (hn0' : n0 < 4294967296) (hu0 : 0 ≤ u) (hu : u < Y) (hw0 : 0 ≤ w) (hw : w < 4294967296) :
    ∀ (m k : Nat) (q rh : Int), q * n1 + rh = u → 0 ≤ rh → rh < 4294967296 → dig u w Y ≤ q → q ≤ 4294967297 → 4294967296 ≤ rh + (m : Int) * 2147483648 →
      iterO (bits_Div64_L1_step r0 y z) (m + k) (rh, q) = some (dig u w Y)
  | 0, k, q, rh, _, _, h2, _, _, h5 => by omega
  | m + 1, k, q, rh, hinv, hrh, hrh', hq, hq', hm => by
    have h0 : 0 ≤ dig u w Y := by
      unfold dig
      exact Int.ediv_nonneg (by omega) (by omega)
    have hB : q < 4294967296 → q * n0 < 18446744073709551616 := fun hlt =>
      Int.lt_of_le_of_lt (Int.le_trans (Int.mul_le_mul_of_nonneg_left (by omega : n0 ≤ 4294967295) (by omega)) (Int.mul_le_mul_of_nonneg_right (by omega : q ≤ 4294967295) (by omega))) (by decide : (4294967295 : Int) * 4294967295 < _)
    have hB0 : 0 ≤ q * n0 := Int.mul_nonneg (by omega) hn0
    obtain ⟨hyes, hno⟩ := dig_round hY hn1 hn1' hn0 hn0' hu0 hu hw0 hw hinv hrh hrh' hq hq'
    have ih := loop1 eY ew e1 e0 hY hn1 hn1' hn0 hn0' hu0 hu hw0 hw m k (q - 1) (rh + n1)
    have hwl : IntKind.u64.wrap (IntKind.u64.wrap (4294967296 * rh) + w) = rh * 4294967296 + w := by
      rw [u64_mod, u64_mod]
      omega
    have hrw : IntKind.u64.wrap (rh + n1) = rh + n1 := u64_id ⟨by omega, by omega⟩
    rw [show m + 1 + k = (m + k) + 1 from by omega]
    have hst : bits_Div64_L1_step r0 y z (rh, q) = (if q ≥ 4294967296 then (if rh + n1 ≥ 4294967296 then some (.inr (IntKind.u64.wrap (q - 1))) else some (.inl (rh + n1, IntKind.u64.wrap (q - 1))))
        else if IntKind.u64.wrap (q * n0) > rh * 4294967296 + w then (if rh + n1 ≥ 4294967296 then some (.inr (IntKind.u64.wrap (q - 1))) else some (.inl (rh + n1, IntKind.u64.wrap (q - 1)))) else some (.inr q)) := by
      unfold bits_Div64_L1_step
      simp only []
      rw [eY, ew, e1, e0, hwl, hrw]
    unfold iterO
    rw [hst]
    by_cases hc1 : q ≥ 4294967296
    · obtain ⟨g1, g2, g3⟩ := hyes (.inl hc1)
      have hqw : IntKind.u64.wrap (q - 1) = q - 1 := u64_id ⟨by omega, by omega⟩
      rw [if_pos hc1, hqw]
      by_cases hb : rh + n1 ≥ 4294967296
      · rw [if_pos hb]
        simp only []
        rw [g3 hb]
      · rw [if_neg hb]
        exact ih g2 (by omega) (by omega) g1 (by omega) (by push_cast at hm; omega)
    · rw [if_neg hc1]
      have hqn : IntKind.u64.wrap (q * n0) = q * n0 := u64_id ⟨hB0, hB (by omega)⟩
      rw [hqn]
      by_cases hc2 : q * n0 > rh * 4294967296 + w
      · obtain ⟨g1, g2, g3⟩ := hyes (.inr ⟨by omega, hc2⟩)
        have hqw : IntKind.u64.wrap (q - 1) = q - 1 := u64_id ⟨by omega, by omega⟩
        rw [if_pos hc2, hqw]
        by_cases hb : rh + n1 ≥ 4294967296
        · rw [if_pos hb]
          simp only []
          rw [g3 hb]
        · rw [if_neg hb]
          exact ih g2 (by omega) (by omega) g1 (by omega) (by push_cast at hm; omega)
      · rw [if_neg hc2]
        simp only []
        rw [hno (by intro h; rcases h with h | ⟨-, h⟩ <;> omega)]
/-- Where the loops begin. -/
theorem dig_start {u w Y n1 n0 : Int} (hY : Y = n1 * 4294967296 + n0) (hn1 : 2147483648 ≤ n1) (hn1' : n1 < 4294967296) (hn0 : 0 ≤ n0) (hn0' : n0 < 4294967296) (hu0 : 0 ≤ u) (hu : u < Y) (hw0 : 0 ≤ w) (hw : w < 4294967296) :
    (u / n1) * n1 + u % n1 = u ∧ 0 ≤ u % n1 ∧ u % n1 < n1 ∧ dig u w Y ≤ u / n1 ∧ u / n1 ≤ 4294967297 ∧ 0 ≤ u / n1 := by
  have hp : 0 < n1 := by omega
  have h1 := Int.emod_add_mul_ediv u n1
  have h2 := Int.emod_nonneg u (Int.ne_of_gt hp)
  have h3 := Int.emod_lt_of_pos u hp
  have h1' : (u / n1) * n1 + u % n1 = u := by rw [Int.mul_comm]; omega
  refine ⟨h1', h2, h3, ?_, ?_, Int.ediv_nonneg hu0 (Int.le_of_lt hp)⟩
  · have := (dig_gt (u := u) (q := u / n1 + 1) (w := w) (rh := u % n1 - n1) hY (by omega) (by rw [Int.add_mul, Int.one_mul]; omega)).2 (by
      have : 0 ≤ (u / n1 + 1) * n0 := Int.mul_nonneg (by have := Int.ediv_nonneg hu0 (Int.le_of_lt hp); omega) hn0
      omega)
    omega
  · have : u / n1 < 4294967298 := by
      rw [Int.ediv_lt_iff_lt_mul hp]
      omega
    omega
theorem emod_scale (a b : Int) {c : Int} (h : 0 < c) : a * c % (b * c) = a % b * c := by
  rw [Int.mul_comm a, Int.mul_comm b, Int.mul_emod_mul_of_pos _ _ h, Int.mul_comm]
theorem div64_spec {x y z : Int} (hx : 0 ≤ x) (hxz : x < z) (hy : U64 y) (hz : z < 18446744073709551616) :
    P_bits_Div64 x y z ∧ bits_Div64 x y z = ((x * 18446744073709551616 + y) / z, (x * 18446744073709551616 + y) % z) := by
  have hz0 : 0 < z := by omega
  obtain ⟨hy0, hy1⟩ := hy
  by_cases hx0 : x = 0
  · subst hx0
    have hd : y / z ≤ y := Int.ediv_le_self _ hy0
    have hd0 : 0 ≤ y / z := Int.ediv_nonneg hy0 (Int.le_of_lt hz0)
    unfold P_bits_Div64 bits_Div64
    rw [if_pos rfl, if_pos rfl]
    refine ⟨⟨by omega, by omega, by omega, trivial⟩, ?_⟩
    rw [Int.tdiv_eq_ediv_of_nonneg hy0, Int.tmod_eq_emod_of_nonneg hy0, u64_id ⟨by omega, by omega⟩, Int.zero_mul, Int.zero_add]
  obtain ⟨s, hs, hs64, hz1, hz2⟩ := lead_spec hz0 hz
  have hmin : (min (IntKind.u64.wrap (bits_LeadingZeros64 z)).toNat 64) = s := by
    rw [hs, u64_id ⟨by omega, by omega⟩, Int.toNat_natCast]
    omega
  have hmin2 : (min (IntKind.u64.wrap (64 - IntKind.u64.wrap (bits_LeadingZeros64 z))).toNat 64) = 64 - s := by
    rw [hs, u64_id (n := (s : Int)) ⟨by omega, by omega⟩, u64_id ⟨by omega, by omega⟩]
    omega
  have hps := pow_pos' s
  have hU : (18446744073709551616 : Int) = 2 ^ (64 - s) * 2 ^ s := by
    rw [← Int.pow_add, show 64 - s + s = 64 from by omega]
    rfl
  -- the number, shifted
  have hxs : x * 2 ^ s < z * 2 ^ s := Int.mul_lt_mul_of_pos_right hxz hps
  have hxs0 : 0 ≤ x * 2 ^ s := Int.mul_nonneg hx (Int.le_of_lt hps)
  have hysd : y * 2 ^ s / 18446744073709551616 = y / 2 ^ (64 - s) := by
    rw [hU, Int.mul_ediv_mul_of_pos_left _ _ hps]
  have hyd0 : 0 ≤ y / 2 ^ (64 - s) := Int.ediv_nonneg hy0 (Int.le_of_lt (pow_pos' _))
  have hyd1 : y / 2 ^ (64 - s) < 2 ^ s := by
    rw [Int.ediv_lt_iff_lt_mul (pow_pos' _), Int.mul_comm, ← hU]
    exact hy1
  have hxw : IntKind.u64.wrap (x * 2 ^ s) = x * 2 ^ s := u64_id ⟨hxs0, by omega⟩
  have hYw : IntKind.u64.wrap (z * 2 ^ s) = z * 2 ^ s := u64_id ⟨by omega, by omega⟩
  have hX : Go.bits .or .u64 (IntKind.u64.wrap (x * 2 ^ s)) (y.fdiv (2 ^ (64 - s))) = x * 2 ^ s + y / 2 ^ (64 - s) := by
    rw [hxw, fdiv_pos _ _ (Int.le_of_lt (pow_pos' _))]
    refine or_add s ⟨hxs0, by omega⟩ ⟨hyd0, ?_⟩ hyd1 (Int.mul_emod_left _ _)
    have : y / 2 ^ (64 - s) ≤ y := Int.ediv_le_self _ hy0
    omega
  generalize hXd : x * 2 ^ s + y / 2 ^ (64 - s) = X at hX
  generalize hYd : z * 2 ^ s = Y at *
  have hL : IntKind.u64.wrap (y * 2 ^ s) = y * 2 ^ s % 18446744073709551616 := u64_mod _
  generalize hLd : y * 2 ^ s % 18446744073709551616 = L at hL
  have hN : X * 18446744073709551616 + L = (x * 18446744073709551616 + y) * 2 ^ s := by
    rw [Int.add_mul, Int.mul_right_comm, ← hXd, ← hLd, ← hysd]
    omega
  have hXY : X < Y := by
    have h1 : (x + 1) * 2 ^ s ≤ Y := by
      rw [← hYd]
      exact Int.mul_le_mul_of_nonneg_right (by omega) (Int.le_of_lt hps)
    rw [Int.add_mul, Int.one_mul] at h1
    omega
  have hX0 : 0 ≤ X := by omega
  have hL0 : 0 ≤ L ∧ L < 18446744073709551616 := by omega
  -- the digits
  have e1 : Y.fdiv 4294967296 = Y / 4294967296 := fdiv_pos _ _ (by decide)
  have e0 : Go.bits .and .u64 Y 4294967295 = Y % 4294967296 := and_low ⟨by omega, by omega⟩
  have ew1 : L.fdiv 4294967296 = L / 4294967296 := fdiv_pos _ _ (by decide)
  have ew0 : Go.bits .and .u64 L 4294967295 = L % 4294967296 := and_low hL0
  have hYe : Y = Y / 4294967296 * 4294967296 + Y % 4294967296 := by omega
  generalize hn1 : Y / 4294967296 = n1 at *
  generalize hn0 : Y % 4294967296 = n0 at *
  generalize hw1 : L / 4294967296 = w1 at *
  generalize hw0 : L % 4294967296 = w0 at *
  have b1 : 2147483648 ≤ n1 ∧ n1 < 4294967296 ∧ 0 ≤ n0 ∧ n0 < 4294967296 := ⟨by omega, by omega, by omega, by omega⟩
  obtain ⟨b11, b12, b13, b14⟩ := b1
  have bw : 0 ≤ w1 ∧ w1 < 4294967296 ∧ 0 ≤ w0 ∧ w0 < 4294967296 := ⟨by omega, by omega, by omega, by omega⟩
  obtain ⟨bw1, bw2, bw3, bw4⟩ := bw
  have hn1p : 0 < n1 := by omega
  obtain ⟨s1, s2, s3, s4, s5, s6⟩ := dig_start hYe b11 b12 b13 b14 hX0 hXY bw1 bw2
  -- the first quotient digit
  have hq0 : IntKind.u64.wrap (X.tdiv n1) = X / n1 := by
    rw [Int.tdiv_eq_ediv_of_nonneg hX0, u64_id ⟨s6, by omega⟩]
  have hr0 : IntKind.u64.wrap (X - IntKind.u64.wrap (X / n1 * n1)) = X % n1 := by
    rw [u64_mod, u64_mod]
    omega
  obtain ⟨rh1, l0⟩ := loop0 (r0 := bits_LeadingZeros64 z) (y := y) (z := z) (Y := Y) (w := w1) (by rw [hmin, hYd, hYw]) (by rw [hmin, hL, ew1]) e1 e0 hYe b11 b12 b13 b14 hX0 hXY bw1 bw2 3 (NN - 3) (X / n1) (X % n1) s1 s2 (by omega) s4 s5 (by omega)
  replace l0 : iterO (bits_Div64_L0_step (bits_LeadingZeros64 z) y z) NN (X / n1, X % n1) = some (dig X w1 Y, rh1) := l0
  have hd1 := dig_lt (by omega) hXY bw2
  have hdn : 0 ≤ dig X w1 Y := Int.ediv_nonneg (by omega) (by omega)
  have hR := Int.emod_add_mul_ediv (X * 4294967296 + w1) Y
  have hR0 := Int.emod_nonneg (X * 4294967296 + w1) (Int.ne_of_gt (show 0 < Y by omega))
  have hR1 := Int.emod_lt_of_pos (X * 4294967296 + w1) (show 0 < Y by omega)
  rw [show (X * 4294967296 + w1) / Y = dig X w1 Y from rfl] at hR
  generalize hRd : (X * 4294967296 + w1) % Y = R at *
  generalize hT1 : dig X w1 Y = T1 at *
  have hu21 : IntKind.u64.wrap (IntKind.u64.wrap (IntKind.u64.wrap (X * 4294967296) + w1) - IntKind.u64.wrap (T1 * Y)) = R := by
    rw [Int.mul_comm T1 Y, u64_mod, u64_mod, u64_mod, u64_mod]
    generalize Y * T1 = M at *
    omega
  -- the second
  obtain ⟨t1, t2, t3, t4, t5, t6⟩ := dig_start hYe b11 b12 b13 b14 hR0 hR1 bw3 bw4
  have hq1 : IntKind.u64.wrap (R.tdiv n1) = R / n1 := by
    rw [Int.tdiv_eq_ediv_of_nonneg hR0, u64_id ⟨t6, by omega⟩]
  have hr1 : IntKind.u64.wrap (R - IntKind.u64.wrap (R / n1 * n1)) = R % n1 := by
    rw [u64_mod, u64_mod]
    omega
  have l1 := loop1 (r0 := bits_LeadingZeros64 z) (y := y) (z := z) (Y := Y) (w := w0) (by rw [hmin, hYd, hYw]) (by rw [hmin, hL, ew0]) e1 e0 hYe b11 b12 b13 b14 hR0 hR1 bw3 bw4 3 (NN - 3) (R / n1) (R % n1) t1 t2 (by omega) t4 t5 (by omega)
  replace l1 : iterO (bits_Div64_L1_step (bits_LeadingZeros64 z) y z) NN (R % n1, R / n1) = some (dig R w0 Y) := l1
  have hd0 := dig_lt (by omega) hR1 bw4
  have hdn0 : 0 ≤ dig R w0 Y := Int.ediv_nonneg (by omega) (by omega)
  have hS := Int.emod_add_mul_ediv (R * 4294967296 + w0) Y
  have hS0 := Int.emod_nonneg (R * 4294967296 + w0) (Int.ne_of_gt (show 0 < Y by omega))
  have hS1 := Int.emod_lt_of_pos (R * 4294967296 + w0) (show 0 < Y by omega)
  rw [show (R * 4294967296 + w0) / Y = dig R w0 Y from rfl] at hS
  generalize hSd : (R * 4294967296 + w0) % Y = S at *
  generalize hT0 : dig R w0 Y = T0 at *
  -- the whole
  have hdm : (X * 18446744073709551616 + L) / Y = T1 * 4294967296 + T0 ∧ (X * 18446744073709551616 + L) % Y = S := by
    rw [Int.ediv_emod_unique (show 0 < Y by omega)]
    refine ⟨?_, hS0, hS1⟩
    rw [Int.mul_add, ← Int.mul_assoc]
    generalize Y * T1 = M1 at *
    generalize Y * T0 = M0 at *
    omega
  have hquo : (x * 18446744073709551616 + y) / z = T1 * 4294967296 + T0 := by
    rw [← hdm.1, hN, ← hYd, Int.mul_ediv_mul_of_pos_left _ _ hps]
  have hrem : S / 2 ^ s = (x * 18446744073709551616 + y) % z := by
    rw [← hdm.2, hN, ← hYd, emod_scale _ _ hps, Int.mul_ediv_cancel _ (Int.ne_of_gt hps)]
  have hlast : IntKind.u64.wrap (IntKind.u64.wrap (IntKind.u64.wrap (R * 4294967296) + w0) - IntKind.u64.wrap (T0 * Y)) = S := by
    rw [Int.mul_comm T0 Y, u64_mod, u64_mod, u64_mod, u64_mod]
    generalize Y * T0 = M at *
    omega
  have hT1w : IntKind.u64.wrap (IntKind.u64.wrap (T1 * 4294967296) + T0) = T1 * 4294967296 + T0 := by rw [u64_mod, u64_mod]; omega
  unfold P_bits_Div64 bits_Div64
  rw [if_neg hx0, if_neg hx0]
  simp only [hmin, hmin2, hYd, hYw, hX, hL, e1, ew1, ew0, hq0, hr0, l0, Option.getD_some, hu21, hq1, hr1, l1, hlast, hT1w, Option.isSome_some]
  refine ⟨⟨by omega, by omega, by omega, trivial, trivial, trivial⟩, ?_⟩
  rw [fdiv_pos _ _ (Int.le_of_lt hps), hrem, hquo]
end Go.Bag

