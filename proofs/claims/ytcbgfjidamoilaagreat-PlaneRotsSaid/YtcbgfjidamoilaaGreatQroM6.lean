/- Products, sums, flags: what the words compute, as whole numbers. -/
import Derived.Test.YtcbgfjidamoilaaGreatQroM5
set_option linter.unusedVariables false
namespace Go.Bag
open Go Go.AbsK

theorem iterO_inl {σ ρ : Type} {step : σ → Option (σ ⊕ ρ)} {s s' : σ} {n : Nat} (h : step s = some (.inl s')) : iterO step (n + 1) s = iterO step n s' := by
  rw [iterO, h]
theorem iterO_inr {σ ρ : Type} {step : σ → Option (σ ⊕ ρ)} {s : σ} {r : ρ} {n : Nat} (h : step s = some (.inr r)) : iterO step (n + 1) s = some r := by
  rw [iterO, h]
/-- With its sign. -/
def svE (x : Exact) : Int := sg x.neg (valE x)
def svW (x : Wide) : Int := sg x.neg (valW x)
theorem sg_false (n : Int) : sg false n = n := rfl
theorem sg_true (n : Int) : sg true n = -n := rfl
theorem sg_tdiv (b : Bool) {m : Int} (h : 0 ≤ m) : sg b (m / 4294967296) = (sg b m).tdiv 4294967296 := by
  cases b with
  | false => rw [sg_false, sg_false, Int.tdiv_eq_ediv_of_nonneg h]
  | true => rw [sg_true, sg_true, Int.neg_tdiv, Int.tdiv_eq_ediv_of_nonneg h]
theorem mul64_spec {x y : Int} (hx : U64 x) (hy : U64 y) : bits_Mul64 x y = (x * y / 18446744073709551616, x * y % 18446744073709551616) := by
  obtain ⟨x0, x1⟩ := hx
  obtain ⟨y0, y1⟩ := hy
  unfold bits_Mul64
  rw [and_low ⟨x0, x1⟩, and_low ⟨y0, y1⟩, fdiv_pos x _ (by decide), fdiv_pos y _ (by decide)]
  have hxy : x * y = (x / 4294967296 * (y / 4294967296)) * 18446744073709551616 + (x / 4294967296 * (y % 4294967296) + x % 4294967296 * (y / 4294967296)) * 4294967296 + x % 4294967296 * (y % 4294967296) := by
    have e1 : x = x / 4294967296 * 4294967296 + x % 4294967296 := by omega
    have e2 : y = y / 4294967296 * 4294967296 + y % 4294967296 := by omega
    generalize x / 4294967296 = a at *
    generalize x % 4294967296 = b at *
    generalize y / 4294967296 = c at *
    generalize y % 4294967296 = d at *
    rw [e1, e2, Int.add_mul, Int.mul_add, Int.mul_add, Int.mul_assoc a, Int.mul_left_comm 4294967296 c, ← Int.mul_assoc a c, ← Int.mul_assoc b c, Int.mul_right_comm a 4294967296 d]
    generalize a * c = A
    generalize b * c = C
    generalize a * d = B
    generalize b * d = D
    omega
  have hb : ∀ {p q : Int}, 0 ≤ p → p ≤ 4294967295 → 0 ≤ q → q ≤ 4294967295 → 0 ≤ p * q ∧ p * q ≤ 18446744065119617025 := by
    intro p q h1 h2 h3 h4
    exact ⟨Int.mul_nonneg h1 h3, Int.le_trans (Int.mul_le_mul_of_nonneg_left h4 h1) (Int.le_trans (Int.mul_le_mul_of_nonneg_right h2 (by decide)) (by decide))⟩
  have hA := @hb (x / 4294967296) (y / 4294967296) (by omega) (by omega) (by omega) (by omega)
  have hB := @hb (x / 4294967296) (y % 4294967296) (by omega) (by omega) (by omega) (by omega)
  have hC := @hb (x % 4294967296) (y / 4294967296) (by omega) (by omega) (by omega) (by omega)
  have hD := @hb (x % 4294967296) (y % 4294967296) (by omega) (by omega) (by omega) (by omega)
  rw [u64_mod (x * y), hxy]
  generalize x / 4294967296 * (y / 4294967296) = A at *
  generalize x / 4294967296 * (y % 4294967296) = B at *
  generalize x % 4294967296 * (y / 4294967296) = C at *
  generalize x % 4294967296 * (y % 4294967296) = D at *
  rw [u64_id (n := D) ⟨hD.1, by omega⟩, fdiv_pos D _ (by decide), u64_id (n := B) ⟨hB.1, by omega⟩, u64_id (n := B + D / 4294967296) ⟨by omega, by omega⟩, u64_id (n := A) ⟨hA.1, by omega⟩, u64_id (n := C) ⟨hC.1, by omega⟩,
    and_low ⟨by omega, by omega⟩, fdiv_pos (B + D / 4294967296) _ (by decide), u64_id (n := (B + D / 4294967296) % 4294967296 + C) ⟨by omega, by omega⟩, fdiv_pos _ _ (by decide),
    u64_id (n := A + (B + D / 4294967296) / 4294967296) ⟨by omega, by omega⟩, u64_id ⟨by omega, by omega⟩]
  congr 1
  omega
theorem abs_mul_bound {a b : Int} (ha : I64 a) (hb : I64 b) : 0 ≤ (a.natAbs : Int) * (b.natAbs : Int) ∧ (a.natAbs : Int) * (b.natAbs : Int) ≤ 85070591730234615865843651857942052864 := by
  unfold I64 at ha hb
  exact ⟨Int.mul_nonneg (by omega) (by omega), Int.le_trans (Int.mul_le_mul_of_nonneg_left (by omega : (b.natAbs : Int) ≤ 9223372036854775808) (by omega)) (Int.le_trans (Int.mul_le_mul_of_nonneg_right (by omega : (a.natAbs : Int) ≤ 9223372036854775808) (by decide)) (by decide))⟩
theorem sg_mul (a b : Int) (n : Bool) (h : n = (!(decide (a < 0) == decide (b < 0))) ∨ a * b = 0) : sg n ((a.natAbs : Int) * (b.natAbs : Int)) = a * b := by
  rcases h with h | h
  · subst h
    by_cases ha : a < 0 <;> by_cases hb : b < 0
    · have e1 : (a.natAbs : Int) = -a := by omega
      have e2 : (b.natAbs : Int) = -b := by omega
      simp only [ha, hb, decide_true, beq_self_eq_true, Bool.not_true, sg_false, e1, e2, Int.neg_mul_neg]
    · have e1 : (a.natAbs : Int) = -a := by omega
      have e2 : (b.natAbs : Int) = b := by omega
      simp [ha, hb, sg, e1, e2, Int.neg_mul]
    · have e1 : (a.natAbs : Int) = a := by omega
      have e2 : (b.natAbs : Int) = -b := by omega
      simp [ha, hb, sg, e1, e2, Int.mul_neg]
    · have e1 : (a.natAbs : Int) = a := by omega
      have e2 : (b.natAbs : Int) = b := by omega
      simp [ha, hb, sg, e1, e2]
  · have h0 : (a.natAbs : Int) * (b.natAbs : Int) = 0 := by
      rcases Int.mul_eq_zero.1 h with h | h <;> simp [h]
    rw [h0, h]
    cases n <;> rfl
theorem product_spec {a b : Int} (ha : I64 a) (hb : I64 b) : okE (fixed_product a b) ∧ valE (fixed_product a b) = (a.natAbs : Int) * (b.natAbs : Int) ∧ svE (fixed_product a b) = a * b := by
  obtain ⟨a1, a2, a3⟩ := of_spec ha
  obtain ⟨b1, b2, b3⟩ := of_spec hb
  obtain ⟨m1, m2⟩ := abs_mul_bound ha hb
  unfold I64 at ha hb
  have hm := mul64_spec (x := (fixed_of a).w.w0) (y := (fixed_of b).w.w0) (by rw [a3]; exact ⟨by omega, by omega⟩) (by rw [b3]; exact ⟨by omega, by omega⟩)
  have hp : fixed_product a b = ⟨!(decide (a < 0) == decide (b < 0)), ⟨(a.natAbs : Int) * (b.natAbs : Int) % 18446744073709551616, (a.natAbs : Int) * (b.natAbs : Int) / 18446744073709551616⟩⟩ := by
    rw [a3, b3] at hm
    unfold fixed_product
    simp only [a1, b1, a3, b3, hm]
  have hv : valE (fixed_product a b) = (a.natAbs : Int) * (b.natAbs : Int) := by
    rw [hp]
    unfold valE
    simp only []
    generalize (a.natAbs : Int) * (b.natAbs : Int) = M at *
    omega
  refine ⟨?_, hv, ?_⟩
  · rw [hp]
    unfold okE U64
    simp only []
    generalize (a.natAbs : Int) * (b.natAbs : Int) = M at *
    omega
  · unfold svE
    rw [hv, hp]
    exact sg_mul a b _ (.inl rfl)
theorem times_spec {a b : Int} (ha : I64 a) (hb : I64 b) : okW (ref01_times a b) ∧ valW (ref01_times a b) = (a.natAbs : Int) * (b.natAbs : Int) ∧ svW (ref01_times a b) = a * b := by
  have a3 := size_spec ha
  have b3 := size_spec hb
  obtain ⟨m1, m2⟩ := abs_mul_bound ha hb
  unfold I64 at ha hb
  have hm := mul64_spec (x := ref01_size a) (y := ref01_size b) (by rw [a3]; exact ⟨by omega, by omega⟩) (by rw [b3]; exact ⟨by omega, by omega⟩)
  have hp : ∃ n : Bool, ref01_times a b = ⟨n, (a.natAbs : Int) * (b.natAbs : Int) / 18446744073709551616, (a.natAbs : Int) * (b.natAbs : Int) % 18446744073709551616⟩ ∧ (n = (!(decide (a < 0) == decide (b < 0))) ∨ a * b = 0) := by
    rw [a3, b3] at hm
    unfold ref01_times
    simp only [a3, b3, hm]
    split
    · rename_i h
      exact ⟨false, rfl, .inl (by rw [h]; simp)⟩
    · rename_i h
      split
      · rename_i h0
        exact ⟨false, rfl, .inr (by rw [h0, Int.zero_mul])⟩
      · refine ⟨!(b == 0), rfl, ?_⟩
        by_cases hb0 : b = 0
        · exact .inr (by rw [hb0, Int.mul_zero])
        · refine .inl ?_
          have : (decide (a < 0) == decide (b < 0)) = false := by simpa using h
          rw [this]
          simp [hb0]
  obtain ⟨n, hp, hn⟩ := hp
  have hv : valW (ref01_times a b) = (a.natAbs : Int) * (b.natAbs : Int) := by
    rw [hp]
    unfold valW
    simp only []
    generalize (a.natAbs : Int) * (b.natAbs : Int) = M at *
    omega
  refine ⟨?_, hv, ?_⟩
  · rw [hp]
    unfold okW U64
    simp only []
    generalize (a.natAbs : Int) * (b.natAbs : Int) = M at *
    omega
  · unfold svW
    rw [hv, hp]
    exact sg_mul a b _ hn
theorem down_spec {x : Exact} (hx : okE x) : okE (fixed_exact_down x) ∧ valE (fixed_exact_down x) = valE x / 4294967296 ∧ svE (fixed_exact_down x) = (svE x).tdiv 4294967296 := by
  have hv0 : 0 ≤ valE x := by obtain ⟨⟨a0, a1⟩, b0, b1⟩ := hx; unfold valE; omega
  obtain ⟨⟨a0, a1⟩, b0, b1⟩ := hx
  have hor : Go.bits .or .u64 (IntKind.u64.wrap (x.w.w1 * 4294967296)) ((x.w.w0).fdiv 4294967296) = x.w.w1 * 4294967296 % 18446744073709551616 + x.w.w0 / 4294967296 := by
    rw [fdiv_pos _ _ (by decide), or_add 32 (u64_U _) ⟨by omega, by omega⟩ (by omega) (by rw [u64_mod]; omega), u64_mod]
  have hd : valE (fixed_exact_down x) = valE x / 4294967296 := by
    unfold fixed_exact_down valE
    simp only [hor]
    rw [fdiv_pos _ _ (by decide)]
    omega
  refine ⟨?_, hd, ?_⟩
  · unfold fixed_exact_down okE U64
    simp only [hor]
    rw [fdiv_pos _ _ (by decide)]
    omega
  · unfold svE
    rw [hd, show (fixed_exact_down x).neg = x.neg from rfl, sg_tdiv _ hv0]
theorem downW_spec {x : Wide} (hx : okW x) : okW (ref01_down x) ∧ valW (ref01_down x) = valW x / 4294967296 ∧ svW (ref01_down x) = (svW x).tdiv 4294967296 := by
  exact down_spec (x := ⟨x.neg, ⟨x.lo, x.hi⟩⟩) hx
end Go.Bag

