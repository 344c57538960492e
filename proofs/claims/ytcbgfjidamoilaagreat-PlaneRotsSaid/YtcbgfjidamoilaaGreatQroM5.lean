/- Ratios: the program's and the reference's are one. -/
import Derived.Test.YtcbgfjidamoilaaGreatQroM4
set_option linter.unusedVariables false
namespace Go.Bag
open Go Go.AbsK

/-- The quotient, cut towards nought, as a number; by nought: the greatest number with the sign, flagged. -/
def rat (a b : Int) : Num :=
  if b = 0 then (if a > 0 then ⟨9223372036854775807, true⟩ else if a < 0 then ⟨-9223372036854775807, true⟩ else ⟨0, true⟩)
  else sat (sg (!(decide (a < 0) == decide (b < 0))) ((a.natAbs : Int) * 4294967296 / (b.natAbs : Int))) false
theorem div_words {h l d : Int} (hd : 0 < d) : (h / d) * 18446744073709551616 + ((h % d) * 18446744073709551616 + l) / d = (h * 18446744073709551616 + l) / d := by
  have h1 := Int.emod_add_mul_ediv h d
  have : h * 18446744073709551616 + l = ((h % d) * 18446744073709551616 + l) + d * ((h / d) * 18446744073709551616) := by
    rw [← Int.mul_assoc]
    generalize d * (h / d) = M at *
    omega
  rw [this, Int.add_mul_ediv_left _ _ (Int.ne_of_gt hd)]
  omega
theorem ratio_eq {a b : Int} (ha : I64 a) (hb : I64 b) : P_fixed_Ratio a b ∧ fixed_Ratio a b = rat a b := by
  by_cases hb0 : b = 0
  · subst hb0
    unfold P_fixed_Ratio fixed_Ratio rat
    rw [if_pos rfl, if_pos rfl, if_pos rfl]
    refine ⟨trivial, ?_⟩
    unfold cmp_Compare_int64 cmp_isNaN_int64
    simp only [beq_self_eq_true, Bool.not_true, Bool.false_eq_true, if_false]
    by_cases h1 : a < 0
    · rw [if_pos h1, if_neg (show ¬ a > 0 from by omega), if_pos h1, i64_id ⟨by omega, by omega⟩]
      rfl
    · rw [if_neg h1]
      by_cases h2 : a > 0
      · rw [if_pos h2, if_pos h2, i64_id ⟨by omega, by omega⟩]
        rfl
      · rw [if_neg h2, if_neg h2, if_neg h1, i64_id ⟨by omega, by omega⟩]
        rfl
  obtain ⟨a1, a2, a3⟩ := of_spec ha
  obtain ⟨b1, b2, b3⟩ := of_spec hb
  unfold I64 at ha hb
  have ho : okE (fixed_of a) := ⟨by rw [a3]; unfold U64; omega, by rw [a2]; unfold U64; omega⟩
  have hv : valE (fixed_of a) = (a.natAbs : Int) := by unfold valE; rw [a2, a3]; omega
  obtain ⟨u1, u2, u3⟩ := up_spec ho (by rw [hv]; omega)
  rw [hv] at u2
  rw [a1] at u3
  generalize hE : fixed_exact_up (fixed_of a) = E at *
  generalize hF : fixed_of b = F at *
  have hd : 0 < F.w.w0 := by rw [b3]; omega
  have hd1 : F.w.w0 < 18446744073709551616 := by rw [b3]; omega
  obtain ⟨⟨c0, c1⟩, e0, e1⟩ := u1
  have hm0 := Int.emod_nonneg E.w.w1 (Int.ne_of_gt hd)
  have hm1 := Int.emod_lt_of_pos E.w.w1 hd
  obtain ⟨p1, p2⟩ := div64_spec (x := E.w.w1 % F.w.w0) (y := E.w.w0) (z := F.w.w0) hm0 hm1 ⟨c0, c1⟩ hd1
  have hq0 : 0 ≤ E.w.w1 / F.w.w0 := Int.ediv_nonneg e0 (Int.le_of_lt hd)
  have hq1 : E.w.w1 / F.w.w0 ≤ E.w.w1 := Int.ediv_le_self _ e0
  have hr0 : 0 ≤ (E.w.w1 % F.w.w0 * 18446744073709551616 + E.w.w0) / F.w.w0 := Int.ediv_nonneg (by omega) (Int.le_of_lt hd)
  have hr1 : (E.w.w1 % F.w.w0 * 18446744073709551616 + E.w.w0) / F.w.w0 < 18446744073709551616 := by
    rw [Int.ediv_lt_iff_lt_mul hd]
    omega
  unfold P_fixed_Ratio fixed_Ratio rat
  rw [if_neg hb0, if_neg hb0, if_neg hb0]
  simp only [hE, hF]
  rw [Int.tmod_eq_emod_of_nonneg e0, Int.tdiv_eq_ediv_of_nonneg e0, p2]
  refine ⟨⟨by omega, p1, trivial⟩, ?_⟩
  rw [fit_spec ⟨⟨hr0, hr1⟩, u64_U _⟩]
  simp only [valE]
  rw [u64_id ⟨hq0, by omega⟩, div_words hd, u3, b1, b3]
  unfold valE at u2
  rw [u2]
theorem ref_ratio_eq {a b : Int} (ha : I64 a) (hb : I64 b) : P_ref01_Ratio a b ∧ ref01_Ratio a b = rat a b := by
  by_cases hb0 : b = 0
  · subst hb0
    unfold P_ref01_Ratio ref01_Ratio rat ref01_none
    rw [if_pos rfl, if_pos rfl, if_pos rfl]
    exact ⟨trivial, rfl⟩
  obtain ⟨a1, a2, a3⟩ := exact_spec ha
  have hs := size_spec hb
  unfold I64 at ha hb
  have ho : okW (ref01_exact a) := ⟨by rw [a3]; unfold U64; omega, by rw [a2]; unfold U64; omega⟩
  have hv : valW (ref01_exact a) = (a.natAbs : Int) := by unfold valW; rw [a2, a3]; omega
  obtain ⟨u1, u2, u3⟩ := upW_spec ho (by rw [hv]; omega)
  rw [hv] at u2
  obtain ⟨v1, v2, v3, v4⟩ := over_spec (y := ref01_size b) u1 (by rw [hs]; omega) (by rw [hs]; omega)
  unfold P_ref01_Ratio ref01_Ratio rat
  rw [if_neg hb0, if_neg hb0, if_neg hb0]
  refine ⟨⟨v1, trivial⟩, ?_⟩
  simp only []
  rw [fitW_spec (x := ⟨(!(decide (a < 0) == decide (b < 0))), (ref01_over (ref01_up (ref01_exact a)) (ref01_size b)).hi, (ref01_over (ref01_up (ref01_exact a)) (ref01_size b)).lo⟩) ⟨v2.1, v2.2⟩]
  rw [show valW (⟨(!(decide (a < 0) == decide (b < 0))), (ref01_over (ref01_up (ref01_exact a)) (ref01_size b)).hi, (ref01_over (ref01_up (ref01_exact a)) (ref01_size b)).lo⟩ : Wide) = valW (ref01_over (ref01_up (ref01_exact a)) (ref01_size b)) from rfl, v3, u2, hs]
theorem vec_eq {a b : Vec} (h : a = b) : ((a.X.V == b.X.V) && ((a.X.F == b.X.F) && ((a.Y.V == b.Y.V) && ((a.Y.F == b.Y.F) && true)))) = true := by rw [h]; simp
end Go.Bag

