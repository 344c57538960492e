/- Whole numbers behind the words: what of, up, down and fit compute. -/
import Derived.Test.YtcbgfjidamoilaaGreatQroSpec
import Derived.IntWalk
import Derived.Laws.Bits64b
set_option linter.unusedVariables false
namespace Go.Bag
open Go Go.AbsK

def I64 (n : Int) : Prop := -9223372036854775808 ≤ n ∧ n ≤ 9223372036854775807
def U64 (n : Int) : Prop := 0 ≤ n ∧ n < 18446744073709551616
/-- What fits, fits; what does not is the greatest number, and flagged. -/
def sat (n : Int) (f : Bool) : Num :=
  if n > 9223372036854775807 then ⟨9223372036854775807, true⟩ else if n < -9223372036854775807 then ⟨-9223372036854775807, true⟩ else ⟨n, f⟩
/-- The number with its sign. -/
def sg (neg : Bool) (n : Int) : Int := if neg = true then -n else n
def valE (x : Exact) : Int := x.w.w1 * 18446744073709551616 + x.w.w0
def valW (x : Wide) : Int := x.hi * 18446744073709551616 + x.lo
def okE (x : Exact) : Prop := U64 x.w.w0 ∧ U64 x.w.w1
def okW (x : Wide) : Prop := U64 x.lo ∧ U64 x.hi
theorem i64_wf {n : Int} (h : (Lit.int .i64 n).wf = true) : I64 n := by
  simp only [Lit.wf, Bool.and_eq_true, decide_eq_true_eq] at h
  exact h
theorem u64_id {n : Int} (h : U64 n) : IntKind.u64.wrap n = n := IntWalk.u64_in n ⟨h.1, by have := h.2; omega⟩
theorem i64_id {n : Int} (h : I64 n) : IntKind.i64.wrap n = n := IntWalk.i64_in n h
theorem u64_mod (n : Int) : IntKind.u64.wrap n = n % 18446744073709551616 := by rw [IntKind.wrap_u64]
theorem u64_U (n : Int) : U64 (IntKind.u64.wrap n) := by rw [u64_mod]; exact ⟨by omega, by omega⟩
theorem or_add {a b : Int} (k : Nat) (ha : U64 a) (hb : U64 b) (hk : b < 2 ^ k) (hd : a % 2 ^ k = 0) : Go.bits .or .u64 a b = a + b := by
  obtain ⟨n, rfl⟩ := Int.eq_ofNat_of_zero_le ha.1
  obtain ⟨m, rfl⟩ := Int.eq_ofNat_of_zero_le hb.1
  have h1 : n < 18446744073709551616 := by have := ha.2; omega
  have h2 : m < 18446744073709551616 := by have := hb.2; omega
  show bits .or .u64 ((n : Nat) : Int) ((m : Nat) : Int) = _
  rw [bits_or_u64_nat n m h1 h2]
  have hk' : m < 2 ^ k := by exact_mod_cast hk
  have hd' : n % 2 ^ k = 0 := by exact_mod_cast hd
  obtain ⟨q, rfl⟩ : 2 ^ k ∣ n := Nat.dvd_of_mod_eq_zero hd'
  rw [← Nat.two_pow_add_eq_or_of_lt hk']
  push_cast
  rfl
theorem and_one {a : Int} (ha : U64 a) : Go.bits .and .u64 a 1 = a % 2 := by
  obtain ⟨n, rfl⟩ := Int.eq_ofNat_of_zero_le ha.1
  have h1 : n < 18446744073709551616 := by have := ha.2; omega
  show bits .and .u64 ((n : Nat) : Int) ((1 : Nat) : Int) = _
  rw [bits_and_u64_nat n 1 h1 (by decide), Nat.and_one_is_mod]
  rfl
theorem and_low {a : Int} (ha : U64 a) : Go.bits .and .u64 a 4294967295 = a % 4294967296 := by
  obtain ⟨n, rfl⟩ := Int.eq_ofNat_of_zero_le ha.1
  have h1 : n < 18446744073709551616 := by have := ha.2; omega
  show bits .and .u64 ((n : Nat) : Int) ((4294967295 : Nat) : Int) = _
  rw [bits_and_u64_nat n _ h1 (by decide), show (4294967295 : Nat) = 2 ^ 32 - 1 from rfl, Nat.and_two_pow_sub_one_eq_mod]
  rfl
theorem fdiv_pos (a b : Int) (h : 0 ≤ b) : a.fdiv b = a / b := Int.fdiv_eq_ediv_of_nonneg a h
theorem of_spec {v : Int} (h : I64 v) : (fixed_of v).neg = decide (v < 0) ∧ (fixed_of v).w.w1 = 0 ∧ (fixed_of v).w.w0 = (v.natAbs : Int) := by
  unfold fixed_of I64 at *
  by_cases hv : v < 0
  · rw [if_pos hv]
    refine ⟨by simp [hv], rfl, ?_⟩
    show IntKind.u64.wrap (0 - IntKind.u64.wrap v) = _
    rw [u64_mod, u64_mod]
    omega
  · rw [if_neg hv]
    refine ⟨by simp [hv], rfl, ?_⟩
    show IntKind.u64.wrap v = _
    rw [u64_mod]
    omega
theorem up_spec {x : Exact} (hx : okE x) (h : valE x < 79228162514264337593543950336) : okE (fixed_exact_up x) ∧ valE (fixed_exact_up x) = valE x * 4294967296 ∧ (fixed_exact_up x).neg = x.neg := by
  obtain ⟨⟨a0, a1⟩, b0, b1⟩ := hx
  unfold valE at h ⊢
  unfold fixed_exact_up okE
  have hor : Go.bits .or .u64 (IntKind.u64.wrap (x.w.w1 * 4294967296)) ((x.w.w0).fdiv 4294967296) = x.w.w1 * 4294967296 + x.w.w0 / 4294967296 := by
    rw [fdiv_pos _ _ (by decide), or_add 32 (u64_U _) ⟨by omega, by omega⟩ (by omega) (by rw [u64_mod]; omega), u64_mod]
    omega
  simp only [hor]
  simp only [u64_mod, U64]
  refine ⟨⟨⟨by omega, by omega⟩, by omega, by omega⟩, by omega, trivial⟩
theorem fit_spec {x : Exact} (hx : okE x) (f : Bool) : fixed_exact_fit x f = sat (sg x.neg (valE x)) f := by
  obtain ⟨⟨a0, a1⟩, b0, b1⟩ := hx
  unfold fixed_exact_fit sat sg valE
  by_cases h1 : x.w.w1 = 0
  · rw [if_pos h1]
    by_cases h2 : x.w.w0 ≤ 9223372036854775807
    · rw [if_pos h2]
      have hi : IntKind.i64.wrap x.w.w0 = x.w.w0 := i64_id ⟨by omega, by omega⟩
      have hn : IntKind.i64.wrap (0 - x.w.w0) = 0 - x.w.w0 := i64_id ⟨by omega, by omega⟩
      by_cases h3 : x.neg = true
      · simp only [h3, if_true, hi, hn, h1]
        rw [if_neg (by omega), if_neg (by omega)]
        congr 1
        omega
      · simp only [h3, hi, h1]
        simp only [Bool.false_eq_true, if_false]
        rw [if_neg (by omega), if_neg (by omega)]
        congr 1
        omega
    · rw [if_neg h2]
      by_cases h3 : x.neg = true
      · simp only [h3, if_true]
        rw [if_neg (by omega), if_pos (by omega)]
      · simp only [h3]
        simp only [Bool.false_eq_true, if_false]
        rw [if_pos (by omega)]
  · rw [if_neg h1]
    by_cases h3 : x.neg = true
    · simp only [h3, if_true]
      rw [if_neg (by omega), if_pos (by omega)]
    · simp only [h3]
      simp only [Bool.false_eq_true, if_false]
      rw [if_pos (by omega)]
theorem size_spec {v : Int} (h : I64 v) : ref01_size v = (v.natAbs : Int) := by
  unfold ref01_size I64 at *
  by_cases hv : v < 0
  · rw [if_pos hv, u64_mod, IntKind.wrap_i64]
    omega
  · rw [if_neg hv, u64_mod]
    omega
theorem exact_spec {v : Int} (h : I64 v) : (ref01_exact v).neg = decide (v < 0) ∧ (ref01_exact v).hi = 0 ∧ (ref01_exact v).lo = (v.natAbs : Int) := ⟨rfl, rfl, size_spec h⟩
theorem upW_spec {x : Wide} (hx : okW x) (h : valW x < 79228162514264337593543950336) : okW (ref01_up x) ∧ valW (ref01_up x) = valW x * 4294967296 ∧ (ref01_up x).neg = x.neg := by
  obtain ⟨⟨a0, a1⟩, b0, b1⟩ := hx
  unfold valW at h ⊢
  unfold ref01_up okW
  have hor : Go.bits .or .u64 (IntKind.u64.wrap (x.hi * 4294967296)) ((x.lo).fdiv 4294967296) = x.hi * 4294967296 + x.lo / 4294967296 := by
    rw [fdiv_pos _ _ (by decide), or_add 32 (u64_U _) ⟨by omega, by omega⟩ (by omega) (by rw [u64_mod]; omega), u64_mod]
    omega
  simp only [hor]
  simp only [u64_mod, U64]
  refine ⟨⟨⟨by omega, by omega⟩, by omega, by omega⟩, by omega, trivial⟩
theorem fitW_spec {x : Wide} (hx : okW x) (f : Bool) : ref01_fit x f = sat (sg x.neg (valW x)) f := by
  have h := fit_spec (x := ⟨x.neg, ⟨x.lo, x.hi⟩⟩) ⟨hx.1, hx.2⟩ f
  rw [show valE ⟨x.neg, ⟨x.lo, x.hi⟩⟩ = valW x from rfl] at h
  rw [← h]
  unfold ref01_fit fixed_exact_fit
  by_cases h1 : x.hi = 0
  · by_cases h2 : x.lo > 9223372036854775807
    · have h2' : ¬ x.lo ≤ 9223372036854775807 := by omega
      by_cases h3 : x.neg = true <;> simp [h1, h2, h2', h3]
    · have h2' : x.lo ≤ 9223372036854775807 := by omega
      by_cases h3 : x.neg = true <;> simp [h1, h2, h2', h3]
  · rw [if_neg h1, if_neg h1]
theorem int_eq {n : Int} (h : I64 n) : fixed_Int n = sat (n * 4294967296) false := by
  obtain ⟨h1, h2, h3⟩ := of_spec h
  unfold I64 at h
  have ho : okE (fixed_of n) := ⟨by rw [h3]; unfold U64; omega, by rw [h2]; unfold U64; omega⟩
  have hv : valE (fixed_of n) = (n.natAbs : Int) := by unfold valE; rw [h2, h3]; omega
  obtain ⟨g1, g2, g3⟩ := up_spec ho (by rw [hv]; omega)
  show fixed_exact_fit (fixed_exact_up (fixed_of n)) false = _
  rw [fit_spec g1, g2, g3, h1, hv]
  congr 1
  unfold sg
  by_cases hn : n < 0
  · simp only [hn, decide_true, if_true]; omega
  · simp only [hn, decide_false, Bool.false_eq_true, if_false]; omega
theorem ref_int_eq {n : Int} (h : I64 n) : ref01_Int n = sat (n * 4294967296) false := by
  obtain ⟨h1, h2, h3⟩ := exact_spec h
  unfold I64 at h
  have ho : okW (ref01_exact n) := ⟨by rw [h3]; unfold U64; omega, by rw [h2]; unfold U64; omega⟩
  have hv : valW (ref01_exact n) = (n.natAbs : Int) := by unfold valW; rw [h2, h3]; omega
  obtain ⟨g1, g2, g3⟩ := upW_spec ho (by rw [hv]; omega)
  show ref01_fit (ref01_up (ref01_exact n)) false = _
  rw [fitW_spec g1, g2, g3, h1, hv]
  congr 1
  unfold sg
  by_cases hn : n < 0
  · simp only [hn, decide_true, if_true]; omega
  · simp only [hn, decide_false, Bool.false_eq_true, if_false]; omega
end Go.Bag

