/- Rotations stay rotations, and are undone; PlaneTurns. -/
import Derived.Test.YtcbgfjidamoilaaQcoM25
set_option linter.unusedVariables false
namespace Go.Bag
open Go Go.AbsK

/-- A rotation, but for a little: unflagged numbers whose squares add to 1. -/
structure RotOK (r : Rot) : Prop where
  c : r.C.F = false
  s : r.S.F = false
  lo : 18446708889337462784 ≤ r.C.V * r.C.V + r.S.V * r.S.V
  hi : r.C.V * r.C.V + r.S.V * r.S.V ≤ 18446779258081640448
theorem sq_bd {a b M : Int} (hM : 0 ≤ M) (h : a * a + b * b < (M + 1) * (M + 1)) : -M ≤ a ∧ a ≤ M := by
  have h1 := sq_nonneg b
  have h2 := sq_lt_of (a := (a.natAbs : Int)) (b := M + 1) (by omega) (by rw [← sq_nat]; omega) (by omega)
  omega
theorem RotOK.cb {r : Rot} (h : RotOK r) : -4294971392 ≤ r.C.V ∧ r.C.V ≤ 4294971392 := sq_bd (b := r.S.V) (by decide) (by have := h.hi; omega)
theorem wrap_val {X : Int} (hX : -9223372036854775807 ≤ X ∧ X ≤ 9223372036854775807) : ∃ w, fixed_Wrap ⟨X, false⟩ = ⟨w, false⟩ ∧ -13493037704 ≤ w ∧ w ≤ 13493037704 ∧
    (-13493037704 ≤ X → X ≤ 13493037704 → w = X) ∧ (13493037704 < X → X ≤ 20239556556 → w = X - 26986075409) := by
  have h1 := Int.tmod_lt_of_pos X (show (0 : Int) < 26986075409 by decide)
  have h2 : -26986075409 < X.tmod 26986075409 := by
    have := Int.tmod_lt_of_pos (-X) (show (0 : Int) < 26986075409 by decide)
    rw [Int.neg_tmod] at this
    omega
  have h3 : -26986075409 < X → X < 26986075409 → X.tmod 26986075409 = X := by
    intro g1 g2
    by_cases hX0 : 0 ≤ X
    · exact Int.tmod_eq_of_lt hX0 g2
    · have := Int.tmod_eq_of_lt (a := -X) (b := 26986075409) (by omega) (by omega)
      rw [Int.neg_tmod] at this
      omega
  unfold fixed_Wrap
  simp only []
  rw [snd_val (by omega)]
  simp only []
  by_cases c1 : X.tmod 26986075409 > 13493037704
  · rw [if_pos c1, i64_id ⟨by omega, by omega⟩]
    exact ⟨_, rfl, by omega, by omega, fun g1 g2 => by have := h3 (by omega) (by omega); omega, fun g1 g2 => by have := h3 (by omega) (by omega); omega⟩
  · rw [if_neg c1]
    by_cases c2 : X.tmod 26986075409 < -13493037704
    · rw [if_pos c2, i64_id ⟨by omega, by omega⟩]
      exact ⟨_, rfl, by omega, by omega, fun g1 g2 => by have := h3 (by omega) (by omega); omega, fun g1 g2 => by have := h3 (by omega) (by omega); omega⟩
    · rw [if_neg c2]
      exact ⟨_, rfl, by omega, by omega, fun g1 g2 => h3 (by omega) (by omega), fun g1 g2 => by have := h3 (by omega) (by omega); omega⟩
/-- The angle that the series is taken at, of one from -Half to Half. -/
def foldI (w : Int) : Int := if w > 6746518852 then 13493037704 - w else if w < -6746518852 then -13493037704 - w else w
theorem foldA_val {X w : Int} (h : fixed_Wrap ⟨X, false⟩ = ⟨w, false⟩) (hw : -13493037704 ≤ w ∧ w ≤ 13493037704) : foldA ⟨X, false⟩ = ⟨foldI w, false⟩ ∧ Qb (foldI w) := by
  unfold foldA foldI Qb
  simp only []
  rw [h]
  simp only []
  split
  · rw [i64_id ⟨by omega, by omega⟩]; exact ⟨rfl, by omega⟩
  · split
    · rw [i64_id ⟨by omega, by omega⟩]; exact ⟨rfl, by omega⟩
    · exact ⟨rfl, by omega⟩
/-- The two angles that a rotation's numbers are taken at. -/
theorem angles {X : Int} (hX : -9223372036854775807 ≤ X ∧ X ≤ 9223372036854775807) : ∃ Y Z, foldA ⟨X, false⟩ = ⟨Y, false⟩ ∧ foldA (fixed_Add (fixed_Wrap ⟨X, false⟩) (fixed_Of 6746518852)) = ⟨Z, false⟩ ∧ Qb Y ∧ Qb Z ∧
    ((Y.natAbs : Int) + (Z.natAbs : Int) = 6746518852 ∨ (Y.natAbs : Int) + (Z.natAbs : Int) = 6746518851) := by
  obtain ⟨w, e1, w1, w2, -, -⟩ := wrap_val hX
  obtain ⟨f1, f2⟩ := foldA_val e1 ⟨w1, w2⟩
  have hof : fixed_Of 6746518852 = ⟨6746518852, false⟩ := by decide +kernel
  have hadd : fixed_Add (fixed_Wrap ⟨X, false⟩) (fixed_Of 6746518852) = ⟨w + 6746518852, false⟩ := by
    rw [e1, hof, add_val (by omega) (by decide) (by omega)]
  obtain ⟨w', g1, w3, w4, w5, w6⟩ := wrap_val (X := w + 6746518852) (by omega)
  obtain ⟨h1, h2⟩ := foldA_val g1 ⟨w3, w4⟩
  refine ⟨foldI w, foldI w', f1, by rw [hadd]; exact h1, f2, h2, ?_⟩
  by_cases hc : w + 6746518852 ≤ 13493037704
  · have := w5 (by omega) hc
    subst this
    unfold foldI
    split
    · omega
    · split
      · split
        · omega
        · split <;> omega
      · split
        · omega
        · split <;> omega
  · have := w6 (by omega) (by omega)
    subst this
    unfold foldI
    split
    · split
      · omega
      · split <;> omega
    · omega
/-- What the sine and the cosine of an angle are. -/
theorem sinC_val {Y : Int} (hY : Qb Y) : sinC ⟨Y, false⟩ = ⟨max (-4294967296) (min (sumI Y) 4294967296), false⟩ := by
  obtain ⟨h1, -, h3⟩ := sinSum_val hY
  have i1 : fixed_Int (-1) = ⟨-4294967296, false⟩ := by decide +kernel
  have i2 : fixed_Int 1 = ⟨4294967296, false⟩ := by decide +kernel
  rw [sinC_def, h1, i1, i2, (clamp_eq (x := ⟨sumI Y, false⟩) (y := ⟨-4294967296, false⟩) (z := ⟨4294967296, false⟩) ⟨by simp only []; omega, by simp only []; omega⟩ ⟨by decide, by decide⟩ ⟨by decide, by decide⟩).2.2 (by simp only []; omega) (by decide) (by decide)]
  rfl
theorem sP_abs (Y : Int) : ev sP Y * ev sP Y = ev sP (Y.natAbs : Int) * ev sP (Y.natAbs : Int) := by
  rcases Int.natAbs_eq Y with h | h
  · rw [← h]
  · have : (Y.natAbs : Int) = -Y := by omega
    rw [this, sP_odd]
    grind
/-- From the polynomial back to the series. -/
theorem close {s p g : Int} (hg : 0 < g) (h : -(24 * g) ≤ s * g - p ∧ s * g - p ≤ 24 * g) (hs : -80000000000 ≤ s ∧ s ≤ 80000000000) : -(4000000000000 * (g * g)) ≤ s * s * (g * g) - p * p ∧ s * s * (g * g) - p * p ≤ 4000000000000 * (g * g) := by
  have hsg := mul_bd (a := s) (b := g) (M := 80000000000) (N := g) (by decide) hs ⟨by omega, Int.le_refl _⟩
  have m := mul_bd (a := s * g - p) (b := s * g + p) (M := 24 * g) (N := 160000000024 * g) (by omega) h (by omega)
  have i1 : (s * g - p) * (s * g + p) = s * s * (g * g) - p * p := by grind
  have i2 : 24 * g * (160000000024 * g) = 3840000000576 * (g * g) := by grind
  rw [i1, i2] at m
  have := Int.mul_pos hg hg
  omega
theorem pair_bd {Y Z : Int} (hY : Qb Y) (hZ : Qb Z) (h : (Y.natAbs : Int) + (Z.natAbs : Int) = 6746518852 ∨ (Y.natAbs : Int) + (Z.natAbs : Int) = 6746518851) :
    -4398046511104 * 4 ≤ (sumI Y * sumI Y + sumI Z * sumI Z - 18446744073709551616) ∧ sumI Y * sumI Y + sumI Z * sumI Z - 18446744073709551616 ≤ 4398046511104 * 4 := by
  obtain ⟨-, a1, a2⟩ := sinSum_val hY
  obtain ⟨-, b1, b2⟩ := sinSum_val hZ
  have hg := gG_pos
  have c1 := close hg a1 a2
  have c2 := close hg b1 b2
  have c3 := squares (Y := (Y.natAbs : Int)) (Z := (Z.natAbs : Int)) (by unfold Qb at hY; omega) h
  rw [← sP_abs, ← sP_abs] at c3
  generalize gG = g at *
  have hgg := Int.mul_pos hg hg
  have i1 : (sumI Y * sumI Y + sumI Z * sumI Z - 18446744073709551616) * (g * g) = sumI Y * sumI Y * (g * g) + sumI Z * sumI Z * (g * g) - 18446744073709551616 * (g * g) := by grind
  constructor
  · refine Int.le_of_mul_le_mul_right (a := g * g) ?_ hgg
    rw [i1]
    omega
  · refine Int.le_of_mul_le_mul_right (a := g * g) ?_ hgg
    rw [i1]
    omega
theorem clamp_sq {s c : Int} (h : -4398046511104 * 4 ≤ s * s + c * c - 18446744073709551616 ∧ s * s + c * c - 18446744073709551616 ≤ 4398046511104 * 4) :
    18446708889337462784 ≤ max (-4294967296) (min c 4294967296) * max (-4294967296) (min c 4294967296) + max (-4294967296) (min s 4294967296) * max (-4294967296) (min s 4294967296) ∧
    max (-4294967296) (min c 4294967296) * max (-4294967296) (min c 4294967296) + max (-4294967296) (min s 4294967296) * max (-4294967296) (min s 4294967296) ≤ 18446779258081640448 := by
  have key : ∀ x : Int, (max (-4294967296) (min x 4294967296) = x) ∨ (18446744073709551616 ≤ x * x ∧ max (-4294967296) (min x 4294967296) * max (-4294967296) (min x 4294967296) = 18446744073709551616) := by
    intro x
    by_cases h1 : x < -4294967296
    · right
      have e : max (-4294967296) (min x 4294967296) = -4294967296 := by omega
      rw [e]
      have := sq_le (a := 4294967296) (b := -x) (by decide) (by omega)
      rw [Int.neg_mul_neg] at this
      exact ⟨by omega, by decide⟩
    · by_cases h2 : x > 4294967296
      · right
        have e : max (-4294967296) (min x 4294967296) = 4294967296 := by omega
        rw [e]
        have := sq_le (a := 4294967296) (b := x) (by decide) (by omega)
        exact ⟨by omega, by decide⟩
      · left
        omega
  have n1 := sq_nonneg s
  have n2 := sq_nonneg c
  rcases key s with e1 | ⟨e1, e2⟩ <;> rcases key c with e3 | ⟨e3, e4⟩
  · rw [e1, e3]; omega
  · rw [e1, e4]; omega
  · rw [e2, e3]; omega
  · rw [e2, e4]; omega
theorem angle_rot {X : Int} (hX : -9223372036854775807 ≤ X ∧ X ≤ 9223372036854775807) : RotOK (plane_Angle ⟨X, false⟩) := by
  obtain ⟨Y, Z, h1, h2, h3, h4, h5⟩ := angles hX
  have iX : I64 (⟨X, false⟩ : Num).V := ⟨by simp only []; omega, by simp only []; omega⟩
  have eS : (plane_Angle ⟨X, false⟩).S = ⟨max (-4294967296) (min (sumI Y) 4294967296), false⟩ := by
    show fixed_Sin ⟨X, false⟩ = _
    rw [(sin_eq iX).2, h1, sinC_val h3]
  have eC : (plane_Angle ⟨X, false⟩).C = ⟨max (-4294967296) (min (sumI Z) 4294967296), false⟩ := by
    show fixed_Sin (fixed_Add (fixed_Wrap ⟨X, false⟩) (fixed_Of 6746518852)) = _
    rw [(sin_eq (addP (x := fixed_Wrap ⟨X, false⟩) (y := fixed_Of 6746518852) (wrap_I64 iX) (of_I64 ⟨by decide, by decide⟩)).2).2, h2, sinC_val h4]
  obtain ⟨b1, b2⟩ := clamp_sq (pair_bd h3 h4 h5)
  exact ⟨by rw [eC], by rw [eS], by rw [eC, eS]; exact b1, by rw [eC, eS]; exact b2⟩
end Go.Bag

