/- The square root: Newton's and the bits' are one. -/
import Derived.Test.YtcbgfjidamoilaaGreatQroM8
set_option linter.unusedVariables false
namespace Go.Bag
open Go Go.AbsK

/-- s is the root of N, cut. -/
def Rt (s N : Int) : Prop := 0 ≤ s ∧ s * s ≤ N ∧ N < (s + 1) * (s + 1)
theorem sq_le {a b : Int} (h0 : 0 ≤ a) (h : a ≤ b) : a * a ≤ b * b := Int.le_trans (Int.mul_le_mul_of_nonneg_left h h0) (Int.mul_le_mul_of_nonneg_right h (by omega))
theorem sq_lt_of {a b : Int} (hb : 0 ≤ b) (h : a * a < b * b) (ha : 0 ≤ a) : a < b := by
  by_cases h' : a < b
  · exact h'
  · have := sq_le hb (show b ≤ a from by omega)
    omega
theorem rt_exists : ∀ n : Nat, ∃ s : Int, Rt s n
  | 0 => ⟨0, by decide, by decide, by decide⟩
  | n + 1 => by
    obtain ⟨s, h0, h1, h2⟩ := rt_exists n
    by_cases h : ((n + 1 : Nat) : Int) < (s + 1) * (s + 1)
    · exact ⟨s, h0, by push_cast at *; omega, h⟩
    · refine ⟨s + 1, by omega, by omega, ?_⟩
      have : (s + 1 + 1) * (s + 1 + 1) = (s + 1) * (s + 1) + 2 * (s + 1) + 1 := by
        rw [Int.add_mul (s + 1) 1, Int.mul_add (s + 1), Int.one_mul, Int.mul_one]
        omega
      push_cast at *
      omega
theorem rt_lt {s N r : Int} (h : Rt s N) (hr : 0 ≤ r) (hN : N < r * r) : s < r := sq_lt_of hr (Int.lt_of_le_of_lt h.2.1 hN) h.1
theorem rt_le {s N r : Int} (h : Rt s N) (hr : 0 ≤ r) (hN : r * r ≤ N) : r ≤ s := by
  have := sq_lt_of (a := r) (b := s + 1) (by have := h.1; omega) (Int.lt_of_le_of_lt hN h.2.2) hr
  omega
theorem or_add' {a b : Int} (k : Nat) (ha : U64 a) (hb : U64 b) (hk : a < 2 ^ k) (hd : b % 2 ^ k = 0) : Go.bits .or .u64 a b = a + b := by
  obtain ⟨n, rfl⟩ := Int.eq_ofNat_of_zero_le ha.1
  obtain ⟨m, rfl⟩ := Int.eq_ofNat_of_zero_le hb.1
  have h := or_add (a := (m : Int)) (b := (n : Int)) k hb ha hk hd
  have h1 : n < 18446744073709551616 := by have := ha.2; omega
  have h2 : m < 18446744073709551616 := by have := hb.2; omega
  rw [bits_or_u64_nat m n h2 h1, Nat.or_comm] at h
  rw [bits_or_u64_nat n m h1 h2, h]
  omega
def valX (x : Words) : Int := x.w1 * 18446744073709551616 + x.w0
/-- A round of Newton's, in whole numbers. -/
theorem newton_round {s N r : Int} (h : Rt s N) (hr : 0 < r) (hs : s ≤ r) (hlt : N < r * r) : s ≤ (r + N / r) / 2 ∧ 2 * ((r + N / r) / 2 - s) ≤ r - s ∧ 0 ≤ N / r ∧ N / r < r := by
  obtain ⟨h0, h1, h2⟩ := h
  have hN : 0 ≤ N := Int.le_trans (Int.mul_nonneg h0 h0) h1
  have hsr : s < r := rt_lt ⟨h0, h1, h2⟩ (Int.le_of_lt hr) hlt
  have hq : N / r < s + 1 := by
    rw [Int.ediv_lt_iff_lt_mul hr]
    exact Int.lt_of_lt_of_le h2 (Int.mul_le_mul_of_nonneg_left (by omega) (by omega))
  have hq2 : 2 * s - r ≤ N / r := by
    rw [Int.le_ediv_iff_mul_le hr]
    refine Int.le_trans ?_ h1
    have hsq : 0 ≤ (r - s) * (r - s) := Int.mul_nonneg (by omega) (by omega)
    rw [Int.sub_mul, Int.mul_sub, Int.mul_sub, Int.mul_comm s r] at hsq
    rw [Int.sub_mul, Int.mul_assoc, Int.mul_comm s r]
    omega
  have hq0 : 0 ≤ N / r := Int.ediv_nonneg hN (Int.le_of_lt hr)
  exact ⟨by omega, by omega, hq0, by omega⟩
theorem root_step {x : Words} (h0 : U64 x.w0) (h1 : U64 x.w1) {r : Int} (hr : 0 < r) (hr1 : r < 18446744073709551616) :
    fixed_words_root_L0_step x r = if r * r ≤ valX x then some (.inr r) else some (.inl ((r + valX x / r) / 2)) := by
  obtain ⟨a0, a1⟩ := h0
  obtain ⟨b0, b1⟩ := h1
  unfold fixed_words_root_L0_step
  by_cases hw : x.w1 ≥ r
  · rw [if_pos hw, if_pos]
    have : r * r ≤ r * 18446744073709551616 := Int.mul_le_mul_of_nonneg_left (by omega) (by omega)
    unfold valX
    omega
  · rw [if_neg hw]
    obtain ⟨p1, p2⟩ := div64_spec (x := x.w1) (y := x.w0) (z := r) b0 (by omega) ⟨a0, a1⟩ hr1
    simp only []
    rw [if_pos p1, p2]
    simp only []
    rw [show x.w1 * 18446744073709551616 + x.w0 = valX x from rfl]
    have hN : 0 ≤ valX x := by unfold valX; omega
    have hq0 : 0 ≤ valX x / r := Int.ediv_nonneg hN (Int.le_of_lt hr)
    have hq1 : valX x / r < 18446744073709551616 := by
      rw [Int.ediv_lt_iff_lt_mul hr]
      unfold valX
      omega
    by_cases hge : valX x / r ≥ r
    · rw [if_pos hge, if_pos ((Int.le_ediv_iff_mul_le hr).1 hge)]
    · rw [if_neg hge, if_neg (fun h => hge ((Int.le_ediv_iff_mul_le hr).2 h)), add64_spec ⟨by omega, hr1⟩ ⟨hq0, hq1⟩ (Int.le_refl _)]
      simp only []
      rw [fdiv_pos _ _ (by decide)]
      generalize valX x / r = q at *
      rw [or_add' 63 ⟨by omega, by omega⟩ (u64_U _) (by omega) (by rw [u64_mod]; omega), u64_mod]
      congr 2
      omega
theorem root_iter {x : Words} (h0 : U64 x.w0) (h1 : U64 x.w1) {s : Int} (hs : Rt s (valX x)) (hs1 : 1 ≤ s) : ∀ (m k : Nat) (r : Int), 0 < r → r < 18446744073709551616 → s ≤ r → r - s < 2 ^ m →
    iterO (fixed_words_root_L0_step x) (m + 1 + k) r = some s
  | 0, k, r, hr, hr1, hsr, hm => by
    have : r = s := by
      have : (2 : Int) ^ 0 = 1 := rfl
      omega
    subst this
    rw [show 0 + 1 + k = k + 1 from by omega]
    refine iterO_inr ?_
    rw [root_step h0 h1 hr hr1, if_pos hs.2.1]
  | m + 1, k, r, hr, hr1, hsr, hm => by
    have hst := root_step h0 h1 hr hr1
    rw [show m + 1 + 1 + k = (m + 1 + k) + 1 from by omega]
    by_cases hle : r * r ≤ valX x
    · rw [if_pos hle] at hst
      have : r = s := by have := rt_le hs (Int.le_of_lt hr) hle; omega
      subst this
      exact iterO_inr hst
    · rw [if_neg hle] at hst
      rw [iterO_inl hst]
      obtain ⟨g1, g2, g3, g4⟩ := newton_round hs hr hsr (by omega)
      have hp : (2 : Int) ^ (m + 1) = 2 * 2 ^ m := by rw [Int.pow_succ, Int.mul_comm]
      exact root_iter h0 h1 hs hs1 m k _ (by omega) (by omega) g1 (by omega)
theorem pow2 (k : Nat) : (2 : Int) ^ k * 2 ^ k = 2 ^ (2 * k) := by rw [← Int.pow_add, show k + k = 2 * k from by omega]
theorem pow_le {a b : Nat} (h : a ≤ b) : (2 : Int) ^ a ≤ 2 ^ b := by exact_mod_cast Nat.pow_le_pow_right (by decide : 0 < 2) h
/-- The program's root. -/
theorem root_spec {x : Words} (h0 : U64 x.w0) (h1 : U64 x.w1) {s : Int} (hs : Rt s (valX x)) : P_fixed_words_root x ∧ fixed_words_root x = s ∧ s < 18446744073709551616 := by
  have hN : 0 ≤ valX x ∧ valX x < 340282366920938463463374607431768211456 := by obtain ⟨a0, a1⟩ := h0; obtain ⟨b0, b1⟩ := h1; unfold valX; omega
  have hsU : s < 18446744073709551616 := rt_lt hs (by decide) (by omega)
  -- a guess above the root
  have key : ∀ r : Int, 0 < r → r < 18446744073709551616 → s ≤ r → 1 ≤ s → iterO (fixed_words_root_L0_step x) NN r = some s := by
    intro r a b c d
    exact root_iter h0 h1 hs d 64 (NN - 65) r a b c (by have : (2 : Int) ^ 64 = 18446744073709551616 := rfl; omega)
  have hs1 : 1 ≤ valX x → 1 ≤ s := fun h => by
    by_cases hz : s = 0
    · have := hs.2.2
      rw [hz] at this
      omega
    · have := hs.1
      omega
  obtain ⟨a0, a1⟩ := h0
  obtain ⟨b0, b1⟩ := h1
  unfold P_fixed_words_root fixed_words_root
  by_cases hw1 : x.w1 = 0
  · rw [if_pos hw1, if_pos hw1]
    by_cases hw0 : x.w0 = 0
    · rw [if_pos hw0, if_pos hw0]
      refine ⟨trivial, ?_, hsU⟩
      have hv : valX x = 0 := by unfold valX; omega
      have := rt_lt (r := 1) hs (by decide) (by rw [hv]; decide)
      have := hs.1
      omega
    · rw [if_neg hw0, if_neg hw0]
      obtain ⟨l, l1, l2, l3, l4⟩ := len_spec (x := x.w0) (by omega) a1
      simp only [l1]
      rw [i64_id (n := (l : Int) + 1 + 1) ⟨by omega, by omega⟩, Int.tdiv_eq_ediv_of_nonneg (by omega), i64_id ⟨by omega, by omega⟩, if_pos (by omega), if_pos (by omega)]
      have hh : (((l : Int) + 1 + 1) / 2).toNat = l / 2 + 1 := by omega
      rw [hh, Nat.min_eq_left (by omega), Int.one_mul]
      have hp : (2 : Int) ^ (l / 2 + 1) ≤ 2 ^ 32 := pow_le (by omega)
      have hp' : (2 : Int) ^ 32 = 4294967296 := rfl
      have hr0 := pow_pos' (l / 2 + 1)
      rw [u64_id ⟨by omega, by omega⟩]
      have hsr : s < 2 ^ (l / 2 + 1) := rt_lt hs (by omega) (by
        rw [pow2]
        have : (2 : Int) ^ (l + 1) ≤ 2 ^ (2 * (l / 2 + 1)) := pow_le (by omega)
        unfold valX
        omega)
      rw [key _ hr0 (by omega) (by omega) (hs1 (by unfold valX; omega))]
      exact ⟨⟨by omega, rfl, trivial⟩, rfl, hsU⟩
  · rw [if_neg hw1, if_neg hw1]
    obtain ⟨l, l1, l2, l3, l4⟩ := len_spec (x := x.w1) (by omega) b1
    simp only [l1]
    rw [i64_id (n := 64 + ((l : Int) + 1)) ⟨by omega, by omega⟩, i64_id (n := 64 + ((l : Int) + 1) + 1) ⟨by omega, by omega⟩, Int.tdiv_eq_ediv_of_nonneg (by omega), i64_id ⟨by omega, by omega⟩]
    by_cases hl : (64 + ((l : Int) + 1) + 1) / 2 < 64
    · rw [if_pos hl, if_pos hl]
      have hh : ((64 + ((l : Int) + 1) + 1) / 2).toNat = l / 2 + 33 := by omega
      rw [hh, Nat.min_eq_left (by omega), Int.one_mul]
      have hp : (2 : Int) ^ (l / 2 + 33) ≤ 2 ^ 63 := pow_le (by omega)
      have hp' : (2 : Int) ^ 63 = 9223372036854775808 := rfl
      have hr0 := pow_pos' (l / 2 + 33)
      rw [u64_id ⟨by omega, by omega⟩]
      have hsr : s < 2 ^ (l / 2 + 33) := rt_lt hs (by omega) (by
        rw [pow2]
        have h3 : (2 : Int) ^ (l + 1 + 64) ≤ 2 ^ (2 * (l / 2 + 33)) := pow_le (by omega)
        have h4 : (2 : Int) ^ (l + 1 + 64) = 2 ^ (l + 1) * 18446744073709551616 := Int.pow_add _ _ _
        unfold valX
        omega)
      rw [key _ hr0 (by omega) (by omega) (hs1 (by unfold valX; omega))]
      exact ⟨⟨by omega, rfl, trivial⟩, rfl, hsU⟩
    · rw [if_neg hl, if_neg hl, key _ (by decide) (by decide) (by omega) (hs1 (by unfold valX; omega))]
      exact ⟨⟨rfl, trivial⟩, rfl, hsU⟩
/-- The reference's root. -/
theorem refroot_iter {x : Wide} (hx : okW x) {s : Int} (hs : Rt s (valW x)) (hsU : s < 18446744073709551616) : ∀ (i k : Nat), i ≤ 64 →
    iterO (ref01_root_L0_step x) (i + 1 + k) ((i : Int) - 1, s / 2 ^ i * 2 ^ i) = some s
  | 0, k, _ => by
    rw [show 0 + 1 + k = k + 1 from by omega]
    refine iterO_inr ?_
    unfold ref01_root_L0_step
    rw [if_neg (show ¬ (((0 : Nat) : Int) - 1 ≥ 0) from by decide)]
    simp
  | i + 1, k, hi => by
    have hP := pow_pos' i
    have hs0 := hs.1
    have hT : s / 2 ^ i / 2 = s / 2 ^ (i + 1) := half_pow s i
    have hp1 : (2 : Int) ^ (i + 1) = 2 * 2 ^ i := by rw [Int.pow_succ, Int.mul_comm]
    have hB0 : 0 ≤ s / 2 ^ i := Int.ediv_nonneg hs0 (Int.le_of_lt hP)
    have hBs : s / 2 ^ i * 2 ^ i ≤ s := Int.ediv_mul_le s (Int.ne_of_gt hP)
    have hr : s / 2 ^ (i + 1) * 2 ^ (i + 1) = 2 * (s / 2 ^ i / 2) * 2 ^ i := by rw [hT, hp1, ← Int.mul_assoc, Int.mul_comm _ 2]
    have hc1 : 2 ^ i ≤ (2 : Int) ^ 63 := pow_le (by omega)
    have h63 : (2 : Int) ^ 63 = 9223372036854775808 := rfl
    have hple : (2 : Int) ^ i < 18446744073709551616 := by omega
    have hrle : s / 2 ^ (i + 1) * 2 ^ (i + 1) ≤ s := Int.ediv_mul_le s (Int.ne_of_gt (pow_pos' _))
    have hr0 : 0 ≤ s / 2 ^ (i + 1) * 2 ^ (i + 1) := Int.mul_nonneg (Int.ediv_nonneg hs0 (Int.le_of_lt (pow_pos' _))) (Int.le_of_lt (pow_pos' _))
    have hidx : IntKind.i64.wrap (((i + 1 : Nat) : Int) - 1 - 1) = (i : Int) - 1 := by rw [i64_id ⟨by omega, by omega⟩]; omega
    have hbit : IntKind.u64.wrap (1 * 2 ^ (min (IntKind.u64.wrap (((i + 1 : Nat) : Int) - 1)).toNat 64)) = 2 ^ i := by
      have e : ((i + 1 : Nat) : Int) - 1 = (i : Int) := by omega
      rw [e, u64_id (n := (i : Int)) ⟨by omega, by omega⟩, Int.toNat_natCast, Nat.min_eq_left (by omega), Int.one_mul, u64_id ⟨by omega, hple⟩]
    have hor : Go.bits .or .u64 (s / 2 ^ (i + 1) * 2 ^ (i + 1)) (2 ^ i) = s / 2 ^ (i + 1) * 2 ^ (i + 1) + 2 ^ i :=
      or_add (i + 1) ⟨hr0, by omega⟩ ⟨by omega, hple⟩ (by omega) (Int.mul_emod_left _ _)
    have hcU : s / 2 ^ (i + 1) * 2 ^ (i + 1) + 2 ^ i < 18446744073709551616 := by
      have e64 : (18446744073709551616 : Int) = 2 ^ (63 - i) * 2 ^ (i + 1) := by
        rw [← Int.pow_add, show 63 - i + (i + 1) = 64 from by omega]
        rfl
      have h1 : s / 2 ^ (i + 1) < 2 ^ (63 - i) := by
        rw [Int.ediv_lt_iff_lt_mul (pow_pos' _), ← e64]
        exact hsU
      have h2 : (s / 2 ^ (i + 1) + 1) * 2 ^ (i + 1) ≤ 2 ^ (63 - i) * 2 ^ (i + 1) := Int.mul_le_mul_of_nonneg_right (by omega) (Int.le_of_lt (pow_pos' _))
      rw [← e64, Int.add_mul, Int.one_mul, hp1] at h2
      rw [hp1]
      omega
    have ih := refroot_iter hx hs hsU i k (by omega)
    rw [show i + 1 + 1 + k = (i + 1 + k) + 1 from by omega]
    have hm := mul64_spec (x := s / 2 ^ (i + 1) * 2 ^ (i + 1) + 2 ^ i) (y := s / 2 ^ (i + 1) * 2 ^ (i + 1) + 2 ^ i) ⟨by omega, hcU⟩ ⟨by omega, hcU⟩
    have hst : ref01_root_L0_step x (((i + 1 : Nat) : Int) - 1, s / 2 ^ (i + 1) * 2 ^ (i + 1)) =
        if ref01_less x (⟨false, (s / 2 ^ (i + 1) * 2 ^ (i + 1) + 2 ^ i) * (s / 2 ^ (i + 1) * 2 ^ (i + 1) + 2 ^ i) / 18446744073709551616, (s / 2 ^ (i + 1) * 2 ^ (i + 1) + 2 ^ i) * (s / 2 ^ (i + 1) * 2 ^ (i + 1) + 2 ^ i) % 18446744073709551616⟩ : Wide) = true then some (.inl ((i : Int) - 1, s / 2 ^ (i + 1) * 2 ^ (i + 1)))
        else some (.inl ((i : Int) - 1, s / 2 ^ (i + 1) * 2 ^ (i + 1) + 2 ^ i)) := by
      unfold ref01_root_L0_step
      rw [if_pos (show ((i + 1 : Nat) : Int) - 1 ≥ 0 from by omega)]
      simp only []
      rw [hbit, hor, hm, hidx]
    have hc : s / 2 ^ (i + 1) * 2 ^ (i + 1) + 2 ^ i = (2 * (s / 2 ^ i / 2) + 1) * 2 ^ i := by rw [hr, Int.add_mul, Int.one_mul]
    have hcs : 2 * (s / 2 ^ i / 2) + 1 ≤ s / 2 ^ i ↔ s / 2 ^ (i + 1) * 2 ^ (i + 1) + 2 ^ i ≤ s := by rw [hc]; exact Int.le_ediv_iff_mul_le hP
    have hl := less_spec (x := x) (y := ⟨false, (s / 2 ^ (i + 1) * 2 ^ (i + 1) + 2 ^ i) * (s / 2 ^ (i + 1) * 2 ^ (i + 1) + 2 ^ i) / 18446744073709551616, (s / 2 ^ (i + 1) * 2 ^ (i + 1) + 2 ^ i) * (s / 2 ^ (i + 1) * 2 ^ (i + 1) + 2 ^ i) % 18446744073709551616⟩) hx.1 ⟨by show 0 ≤ _ % _; omega, by show _ % _ < _; omega⟩
    have hv : valW (⟨false, (s / 2 ^ (i + 1) * 2 ^ (i + 1) + 2 ^ i) * (s / 2 ^ (i + 1) * 2 ^ (i + 1) + 2 ^ i) / 18446744073709551616, (s / 2 ^ (i + 1) * 2 ^ (i + 1) + 2 ^ i) * (s / 2 ^ (i + 1) * 2 ^ (i + 1) + 2 ^ i) % 18446744073709551616⟩ : Wide) = (s / 2 ^ (i + 1) * 2 ^ (i + 1) + 2 ^ i) * (s / 2 ^ (i + 1) * 2 ^ (i + 1) + 2 ^ i) := by
      unfold valW
      simp only []
      generalize (s / 2 ^ (i + 1) * 2 ^ (i + 1) + 2 ^ i) * (s / 2 ^ (i + 1) * 2 ^ (i + 1) + 2 ^ i) = M
      omega
    rw [hv] at hl
    by_cases hle : ref01_less x (⟨false, (s / 2 ^ (i + 1) * 2 ^ (i + 1) + 2 ^ i) * (s / 2 ^ (i + 1) * 2 ^ (i + 1) + 2 ^ i) / 18446744073709551616, (s / 2 ^ (i + 1) * 2 ^ (i + 1) + 2 ^ i) * (s / 2 ^ (i + 1) * 2 ^ (i + 1) + 2 ^ i) % 18446744073709551616⟩ : Wide) = true
    · rw [if_pos hle] at hst
      rw [iterO_inl hst]
      have h1 := rt_lt hs (by omega) (hl.1 hle)
      have h2 : ¬ 2 * (s / 2 ^ i / 2) + 1 ≤ s / 2 ^ i := fun h => by have := hcs.1 h; omega
      rw [hr, show 2 * (s / 2 ^ i / 2) = s / 2 ^ i from by omega]
      exact ih
    · rw [if_neg hle] at hst
      rw [iterO_inl hst]
      have h1 := rt_le hs (r := s / 2 ^ (i + 1) * 2 ^ (i + 1) + 2 ^ i) (by omega) (by have := mt hl.2 hle; omega)
      have h2 := hcs.2 h1
      rw [hc, show 2 * (s / 2 ^ i / 2) + 1 = s / 2 ^ i from by omega]
      exact ih
theorem refroot_spec {x : Wide} (hx : okW x) {s : Int} (hs : Rt s (valW x)) : P_ref01_root x ∧ ref01_root x = ⟨false, 0, s⟩ := by
  have hN : valW x < 340282366920938463463374607431768211456 := by obtain ⟨⟨a0, a1⟩, b0, b1⟩ := hx; unfold valW; omega
  have hsU : s < 18446744073709551616 := rt_lt hs (by decide) (by omega)
  have h := refroot_iter hx hs hsU 64 (NN - 65) (Nat.le_refl _)
  have hz : s / 2 ^ 64 = 0 := by have := hs.1; omega
  rw [hz, Int.zero_mul] at h
  replace h : iterO (ref01_root_L0_step x) NN (63, 0) = some s := h
  unfold P_ref01_root ref01_root
  rw [h]
  exact ⟨⟨rfl, trivial⟩, rfl⟩
end Go.Bag

