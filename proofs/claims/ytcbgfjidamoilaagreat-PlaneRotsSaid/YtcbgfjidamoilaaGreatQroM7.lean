/- Sums and flags, as whole numbers. -/
import Derived.Test.YtcbgfjidamoilaaGreatQroM6
set_option linter.unusedVariables false
namespace Go.Bag
open Go Go.AbsK

theorem add64_spec {x y c : Int} (hx : U64 x) (hy : U64 y) (hc : 0 ≤ c) : bits_Add64 x y c = ((x + y + c) % 18446744073709551616, (x + y + c) / 18446744073709551616) := by
  obtain ⟨x0, -⟩ := hx
  obtain ⟨y0, -⟩ := hy
  unfold bits_Add64
  congr 1 <;> omega
theorem sub64_spec {x y c : Int} (hx : U64 x) (hy : U64 y) (hc : 0 ≤ c) (hc1 : c ≤ 1) : bits_Sub64 x y c = ((x - y - c) % 18446744073709551616, if x < y + c then 1 else 0) := by
  obtain ⟨x0, x1⟩ := hx
  obtain ⟨y0, y1⟩ := hy
  unfold bits_Sub64
  congr 1
  · omega
  · by_cases h : x < y + c
    · rw [if_pos h, if_pos (by omega)]
      rfl
    · rw [if_neg h, if_neg (by omega)]
      rfl
theorem cmp64 (x y : Int) : cmp_Compare_uint64 x y = if x < y then -1 else if x > y then 1 else 0 := by
  unfold cmp_Compare_uint64 cmp_isNaN_uint64
  simp only [beq_self_eq_true, Bool.not_true, Bool.false_eq_true, if_false]
theorem cmpOr2 (a b : Int) : P_cmp_Or_int [a, b] ∧ cmp_Or_int [a, b] = if a = 0 then b else a := by
  have s2 : cmp_Or_int_L0_step [a, b] 2 = some (.inr (1, default, ())) := by
    unfold cmp_Or_int_L0_step
    rw [if_neg (show ¬ ((2 : Int) < (([a, b].length : Nat) : Int)) from (by decide : ¬ ((2 : Int) < ((2 : Nat) : Int))))]
  have s1 : cmp_Or_int_L0_step [a, b] 1 = if b = 0 then some (.inl 2) else some (.inr (0, b, default)) := by
    unfold cmp_Or_int_L0_step
    rw [if_pos (show (1 : Int) < (([a, b].length : Nat) : Int) from (by decide : (1 : Int) < ((2 : Nat) : Int))), if_pos (show (0 : Int) ≤ 1 ∧ (1 : Int) < (([a, b].length : Nat) : Int) from (by decide : (0 : Int) ≤ 1 ∧ (1 : Int) < ((2 : Nat) : Int)))]
    rfl
  have s0 : cmp_Or_int_L0_step [a, b] 0 = if a = 0 then some (.inl 1) else some (.inr (0, a, default)) := by
    unfold cmp_Or_int_L0_step
    rw [if_pos (show (0 : Int) < (([a, b].length : Nat) : Int) from (by decide : (0 : Int) < ((2 : Nat) : Int))), if_pos (show (0 : Int) ≤ 0 ∧ (0 : Int) < (([a, b].length : Nat) : Int) from (by decide : (0 : Int) ≤ 0 ∧ (0 : Int) < ((2 : Nat) : Int)))]
    rfl
  have hN : NN = 999997 + 1 + 1 + 1 := rfl
  have key : iterO (cmp_Or_int_L0_step [a, b]) NN 0 = if a = 0 then (if b = 0 then some (1, default, ()) else some (0, b, default)) else some (0, a, default) := by
    rw [hN]
    by_cases ha : a = 0
    · rw [if_pos ha] at s0 ⊢
      rw [iterO_inl s0]
      by_cases hb : b = 0
      · rw [if_pos hb] at s1 ⊢
        rw [iterO_inl s1, iterO_inr s2]
      · rw [if_neg hb] at s1 ⊢
        rw [iterO_inr s1]
    · rw [if_neg ha] at s0 ⊢
      rw [iterO_inr s0]
  unfold P_cmp_Or_int cmp_Or_int
  rw [key]
  by_cases ha : a = 0
  · by_cases hb : b = 0
    · simp [ha, hb]
    · simp [ha, hb]
  · simp [ha]
theorem words_cmp {x y : Words} (hx : U64 x.w0) (hy : U64 y.w0) : P_fixed_words_compare x y ∧ (fixed_words_compare x y < 0 ↔ x.w1 * 18446744073709551616 + x.w0 < y.w1 * 18446744073709551616 + y.w0) := by
  obtain ⟨h1, h2⟩ := cmpOr2 (cmp_Compare_uint64 x.w1 y.w1) (cmp_Compare_uint64 x.w0 y.w0)
  obtain ⟨x0, x1⟩ := hx
  obtain ⟨y0, y1⟩ := hy
  refine ⟨⟨h1, trivial⟩, ?_⟩
  show cmp_Or_int [cmp_Compare_uint64 x.w1 y.w1, cmp_Compare_uint64 x.w0 y.w0] < 0 ↔ _
  rw [h2, cmp64, cmp64]
  split <;> split <;> omega
theorem less_spec {x y : Wide} (hx : U64 x.lo) (hy : U64 y.lo) : (ref01_less x y = true) ↔ valW x < valW y := by
  obtain ⟨x0, x1⟩ := hx
  obtain ⟨y0, y1⟩ := hy
  unfold ref01_less valW
  split
  · simp; omega
  · split
    · simp; omega
    · simp; omega
theorem words_add {a1 a0 b1 b0 : Int} (ha0 : U64 a0) (ha1 : U64 a1) (hb0 : U64 b0) (hb1 : U64 b1) (h : a1 * 18446744073709551616 + a0 + (b1 * 18446744073709551616 + b0) < 340282366920938463463374607431768211456) :
    P_carry a1 b1 (bits_Add64 a0 b0 0).2 ∧ U64 (bits_Add64 a0 b0 0).1 ∧ U64 (bits_Add64 a1 b1 (bits_Add64 a0 b0 0).2).1 ∧
    (bits_Add64 a1 b1 (bits_Add64 a0 b0 0).2).1 * 18446744073709551616 + (bits_Add64 a0 b0 0).1 = a1 * 18446744073709551616 + a0 + (b1 * 18446744073709551616 + b0) := by
  rw [add64_spec ha0 hb0 (Int.le_refl _)]
  obtain ⟨p0, p1⟩ := ha0
  obtain ⟨q0, q1⟩ := hb0
  simp only []
  rw [add64_spec ha1 hb1 (by omega)]
  obtain ⟨r0, r1⟩ := ha1
  obtain ⟨s0, s1⟩ := hb1
  unfold P_carry U64
  simp only []
  omega
theorem words_sub {a1 a0 b1 b0 : Int} (ha0 : U64 a0) (ha1 : U64 a1) (hb0 : U64 b0) (hb1 : U64 b1) (h : b1 * 18446744073709551616 + b0 ≤ a1 * 18446744073709551616 + a0) :
    U64 (bits_Sub64 a0 b0 0).1 ∧ U64 (bits_Sub64 a1 b1 (bits_Sub64 a0 b0 0).2).1 ∧
    (bits_Sub64 a1 b1 (bits_Sub64 a0 b0 0).2).1 * 18446744073709551616 + (bits_Sub64 a0 b0 0).1 = a1 * 18446744073709551616 + a0 - (b1 * 18446744073709551616 + b0) := by
  rw [sub64_spec ha0 hb0 (Int.le_refl _) (by decide)]
  obtain ⟨p0, p1⟩ := ha0
  obtain ⟨q0, q1⟩ := hb0
  simp only []
  rw [sub64_spec ha1 hb1 (by split <;> omega) (by split <;> omega)]
  obtain ⟨r0, r1⟩ := ha1
  obtain ⟨s0, s1⟩ := hb1
  unfold U64
  simp only []
  split <;> omega
theorem plus_spec {x y : Exact} (hx : okE x) (hy : okE y) (h : valE x + valE y < 340282366920938463463374607431768211456) :
    P_fixed_exact_plus x y ∧ okE (fixed_exact_plus x y) ∧ svE (fixed_exact_plus x y) = svE x + svE y ∧ valE (fixed_exact_plus x y) ≤ valE x + valE y := by
  have hx0 : 0 ≤ valE x := by obtain ⟨⟨a0, a1⟩, b0, b1⟩ := hx; unfold valE; omega
  have hy0 : 0 ≤ valE y := by obtain ⟨⟨a0, a1⟩, b0, b1⟩ := hy; unfold valE; omega
  unfold P_fixed_exact_plus fixed_exact_plus
  by_cases hn : x.neg = y.neg
  · rw [if_pos hn, if_pos hn]
    obtain ⟨p1, p2, p3, p4⟩ := words_add hx.1 hx.2 hy.1 hy.2 h
    have hv : valE (⟨x.neg, ⟨(bits_Add64 x.w.w0 y.w.w0 0).1, (bits_Add64 x.w.w1 y.w.w1 (bits_Add64 x.w.w0 y.w.w0 0).2).1⟩⟩ : Exact) = valE x + valE y := p4
    refine ⟨⟨p1, trivial⟩, ⟨p2, p3⟩, ?_, Int.le_of_eq hv⟩
    unfold svE
    simp only [hv, ← hn]
    cases x.neg <;> simp only [sg_false, sg_true] <;> omega
  · rw [if_neg hn, if_neg hn]
    obtain ⟨c1, c2⟩ := words_cmp (x := x.w) (y := y.w) hx.1 hy.1
    refine ⟨⟨c1, trivial⟩, ?_⟩
    have hsum : svE x + svE y = sg x.neg (valE x - valE y) := by
      unfold svE
      cases hxn : x.neg <;> cases hyn : y.neg <;> simp only [hxn, hyn, sg_false, sg_true] at hn ⊢ <;> first | omega | exact absurd trivial hn | exact absurd rfl hn
    have hny : y.neg = !x.neg := by cases hxn : x.neg <;> cases hyn : y.neg <;> simp_all
    simp only []
    by_cases hc : fixed_words_compare x.w y.w < 0
    · rw [if_pos hc]
      have hlt : valE x < valE y := c2.1 hc
      obtain ⟨p2, p3, p4⟩ := words_sub hy.1 hy.2 hx.1 hx.2 (Int.le_of_lt hlt)
      have hv : valE (⟨y.neg, ⟨(bits_Sub64 y.w.w0 x.w.w0 0).1, (bits_Sub64 y.w.w1 x.w.w1 (bits_Sub64 y.w.w0 x.w.w0 0).2).1⟩⟩ : Exact) = valE y - valE x := p4
      refine ⟨⟨p2, p3⟩, ?_, by rw [hv]; omega⟩
      rw [hsum]
      unfold svE
      rw [hv]
      show sg y.neg (valE y - valE x) = sg x.neg (valE x - valE y)
      rw [hny]
      cases x.neg <;> simp only [Bool.not_false, Bool.not_true, sg_false, sg_true] <;> omega
    · rw [if_neg hc]
      have hle : valE y ≤ valE x := by
        have := mt c2.2 hc
        unfold valE
        omega
      obtain ⟨p2, p3, p4⟩ := words_sub hx.1 hx.2 hy.1 hy.2 hle
      have hv : valE (⟨x.neg, ⟨(bits_Sub64 x.w.w0 y.w.w0 0).1, (bits_Sub64 x.w.w1 y.w.w1 (bits_Sub64 x.w.w0 y.w.w0 0).2).1⟩⟩ : Exact) = valE x - valE y := p4
      refine ⟨⟨p2, p3⟩, ?_, by rw [hv]; omega⟩
      rw [hsum]
      unfold svE
      simp only [hv]
end Go.Bag

