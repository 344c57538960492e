/- Rotations stay rotations, and are undone; PlaneTurns. -/
import Derived.Test.YtcbgfjidamoilaaQtuM25
set_option linter.unusedVariables false
namespace Go.Bag
open Go Go.AbsK

/-- A rotation, but for a little: unflagged numbers whose squares add to 1. -/
structure RotOK (r : Rot) : Prop where
  c : r.C.F = false
  s : r.S.F = false
  lo : 18446708889337462784 ≤ r.C.V * r.C.V + r.S.V * r.S.V
  hi : r.C.V * r.C.V + r.S.V * r.S.V ≤ 18446779258081640448
theorem sq_bd {a b M : Int} (hM : 0 ≤ M) (h : a * a + b * b < (M + 1) * (M + 1)) : -M ≤ a ∧ a ≤ M := by
  have h1 := sq_nonneg b
  have h2 := sq_lt_of (a := (a.natAbs : Int)) (b := M + 1) (by omega) (by rw [← sq_nat]; omega) (by omega)
  omega
theorem RotOK.cb {r : Rot} (h : RotOK r) : -4294971392 ≤ r.C.V ∧ r.C.V ≤ 4294971392 := sq_bd (b := r.S.V) (by decide) (by have := h.hi; omega)
theorem RotOK.sb {r : Rot} (h : RotOK r) : -4294971392 ≤ r.S.V ∧ r.S.V ≤ 4294971392 := sq_bd (b := r.C.V) (by decide) (by have := h.hi; omega)
theorem RotOK.ic {r : Rot} (h : RotOK r) : I64 r.C.V ∧ I64 r.S.V := by
  have := h.cb
  have := h.sb
  unfold I64
  omega
theorem RotOK.form {r : Rot} (h : RotOK r) : r = ⟨⟨r.C.V, false⟩, ⟨r.S.V, false⟩⟩ := by
  obtain ⟨⟨a, b⟩, ⟨c, d⟩⟩ := r
  have h1 := h.c
  have h2 := h.s
  simp only at h1 h2
  subst h1 h2
  rfl
theorem wrap_val {X : Int} (hX : -9223372036854775807 ≤ X ∧ X ≤ 9223372036854775807) : ∃ w, fixed_Wrap ⟨X, false⟩ = ⟨w, false⟩ ∧ -13493037704 ≤ w ∧ w ≤ 13493037704 ∧
    (-13493037704 ≤ X → X ≤ 13493037704 → w = X) ∧ (13493037704 < X → X ≤ 20239556556 → w = X - 26986075409) := by
  have h1 := Int.tmod_lt_of_pos X (show (0 : Int) < 26986075409 by decide)
  have h2 : -26986075409 < X.tmod 26986075409 := by
    have := Int.tmod_lt_of_pos (-X) (show (0 : Int) < 26986075409 by decide)
    rw [Int.neg_tmod] at this
    omega
  have h3 : -26986075409 < X → X < 26986075409 → X.tmod 26986075409 = X := by
    intro g1 g2
    by_cases hX0 : 0 ≤ X
    · exact Int.tmod_eq_of_lt hX0 g2
    · have := Int.tmod_eq_of_lt (a := -X) (b := 26986075409) (by omega) (by omega)
      rw [Int.neg_tmod] at this
      omega
  unfold fixed_Wrap
  simp only []
  rw [snd_val (by omega)]
  simp only []
  by_cases c1 : X.tmod 26986075409 > 13493037704
  · rw [if_pos c1, i64_id ⟨by omega, by omega⟩]
    exact ⟨_, rfl, by omega, by omega, fun g1 g2 => by have := h3 (by omega) (by omega); omega, fun g1 g2 => by have := h3 (by omega) (by omega); omega⟩
  · rw [if_neg c1]
    by_cases c2 : X.tmod 26986075409 < -13493037704
    · rw [if_pos c2, i64_id ⟨by omega, by omega⟩]
      exact ⟨_, rfl, by omega, by omega, fun g1 g2 => by have := h3 (by omega) (by omega); omega, fun g1 g2 => by have := h3 (by omega) (by omega); omega⟩
    · rw [if_neg c2]
      exact ⟨_, rfl, by omega, by omega, fun g1 g2 => h3 (by omega) (by omega), fun g1 g2 => by have := h3 (by omega) (by omega); omega⟩
/-- The angle that the series is taken at, of one from -Half to Half. -/
def foldI (w : Int) : Int := if w > 6746518852 then 13493037704 - w else if w < -6746518852 then -13493037704 - w else w
theorem foldA_val {X w : Int} (h : fixed_Wrap ⟨X, false⟩ = ⟨w, false⟩) (hw : -13493037704 ≤ w ∧ w ≤ 13493037704) : foldA ⟨X, false⟩ = ⟨foldI w, false⟩ ∧ Qb (foldI w) := by
  unfold foldA foldI Qb
  simp only []
  rw [h]
  simp only []
  split
  · rw [i64_id ⟨by omega, by omega⟩]; exact ⟨rfl, by omega⟩
  · split
    · rw [i64_id ⟨by omega, by omega⟩]; exact ⟨rfl, by omega⟩
    · exact ⟨rfl, by omega⟩
/-- The two angles that a rotation's numbers are taken at. -/
theorem angles {X : Int} (hX : -9223372036854775807 ≤ X ∧ X ≤ 9223372036854775807) : ∃ Y Z, foldA ⟨X, false⟩ = ⟨Y, false⟩ ∧ foldA (fixed_Add (fixed_Wrap ⟨X, false⟩) (fixed_Of 6746518852)) = ⟨Z, false⟩ ∧ Qb Y ∧ Qb Z ∧
    ((Y.natAbs : Int) + (Z.natAbs : Int) = 6746518852 ∨ (Y.natAbs : Int) + (Z.natAbs : Int) = 6746518851) := by
  obtain ⟨w, e1, w1, w2, -, -⟩ := wrap_val hX
  obtain ⟨f1, f2⟩ := foldA_val e1 ⟨w1, w2⟩
  have hof : fixed_Of 6746518852 = ⟨6746518852, false⟩ := by decide +kernel
  have hadd : fixed_Add (fixed_Wrap ⟨X, false⟩) (fixed_Of 6746518852) = ⟨w + 6746518852, false⟩ := by
    rw [e1, hof, add_val (by omega) (by decide) (by omega)]
  obtain ⟨w', g1, w3, w4, w5, w6⟩ := wrap_val (X := w + 6746518852) (by omega)
  obtain ⟨h1, h2⟩ := foldA_val g1 ⟨w3, w4⟩
  refine ⟨foldI w, foldI w', f1, by rw [hadd]; exact h1, f2, h2, ?_⟩
  by_cases hc : w + 6746518852 ≤ 13493037704
  · have := w5 (by omega) hc
    subst this
    unfold foldI
    split
    · omega
    · split
      · split
        · omega
        · split <;> omega
      · split
        · omega
        · split <;> omega
  · have := w6 (by omega) (by omega)
    subst this
    unfold foldI
    split
    · split
      · omega
      · split <;> omega
    · omega
/-- What the sine and the cosine of an angle are. -/
theorem sinC_val {Y : Int} (hY : Qb Y) : sinC ⟨Y, false⟩ = ⟨max (-4294967296) (min (sumI Y) 4294967296), false⟩ := by
  obtain ⟨h1, -, h3⟩ := sinSum_val hY
  have i1 : fixed_Int (-1) = ⟨-4294967296, false⟩ := by decide +kernel
  have i2 : fixed_Int 1 = ⟨4294967296, false⟩ := by decide +kernel
  rw [sinC_def, h1, i1, i2, (clamp_eq (x := ⟨sumI Y, false⟩) (y := ⟨-4294967296, false⟩) (z := ⟨4294967296, false⟩) ⟨by simp only []; omega, by simp only []; omega⟩ ⟨by decide, by decide⟩ ⟨by decide, by decide⟩).2.2 (by simp only []; omega) (by decide) (by decide)]
  rfl
theorem sP_abs (Y : Int) : ev sP Y * ev sP Y = ev sP (Y.natAbs : Int) * ev sP (Y.natAbs : Int) := by
  rcases Int.natAbs_eq Y with h | h
  · rw [← h]
  · have : (Y.natAbs : Int) = -Y := by omega
    rw [this, sP_odd]
    grind
/-- From the polynomial back to the series. -/
theorem close {s p g : Int} (hg : 0 < g) (h : -(24 * g) ≤ s * g - p ∧ s * g - p ≤ 24 * g) (hs : -80000000000 ≤ s ∧ s ≤ 80000000000) : -(4000000000000 * (g * g)) ≤ s * s * (g * g) - p * p ∧ s * s * (g * g) - p * p ≤ 4000000000000 * (g * g) := by
  have hsg := mul_bd (a := s) (b := g) (M := 80000000000) (N := g) (by decide) hs ⟨by omega, Int.le_refl _⟩
  have m := mul_bd (a := s * g - p) (b := s * g + p) (M := 24 * g) (N := 160000000024 * g) (by omega) h (by omega)
  have i1 : (s * g - p) * (s * g + p) = s * s * (g * g) - p * p := by grind
  have i2 : 24 * g * (160000000024 * g) = 3840000000576 * (g * g) := by grind
  rw [i1, i2] at m
  have := Int.mul_pos hg hg
  omega
theorem pair_bd {Y Z : Int} (hY : Qb Y) (hZ : Qb Z) (h : (Y.natAbs : Int) + (Z.natAbs : Int) = 6746518852 ∨ (Y.natAbs : Int) + (Z.natAbs : Int) = 6746518851) :
    -4398046511104 * 4 ≤ (sumI Y * sumI Y + sumI Z * sumI Z - 18446744073709551616) ∧ sumI Y * sumI Y + sumI Z * sumI Z - 18446744073709551616 ≤ 4398046511104 * 4 := by
  obtain ⟨-, a1, a2⟩ := sinSum_val hY
  obtain ⟨-, b1, b2⟩ := sinSum_val hZ
  have hg := gG_pos
  have c1 := close hg a1 a2
  have c2 := close hg b1 b2
  have c3 := squares (Y := (Y.natAbs : Int)) (Z := (Z.natAbs : Int)) (by unfold Qb at hY; omega) h
  rw [← sP_abs, ← sP_abs] at c3
  generalize gG = g at *
  have hgg := Int.mul_pos hg hg
  have i1 : (sumI Y * sumI Y + sumI Z * sumI Z - 18446744073709551616) * (g * g) = sumI Y * sumI Y * (g * g) + sumI Z * sumI Z * (g * g) - 18446744073709551616 * (g * g) := by grind
  constructor
  · refine Int.le_of_mul_le_mul_right (a := g * g) ?_ hgg
    rw [i1]
    omega
  · refine Int.le_of_mul_le_mul_right (a := g * g) ?_ hgg
    rw [i1]
    omega
theorem clamp_sq {s c : Int} (h : -4398046511104 * 4 ≤ s * s + c * c - 18446744073709551616 ∧ s * s + c * c - 18446744073709551616 ≤ 4398046511104 * 4) :
    18446708889337462784 ≤ max (-4294967296) (min c 4294967296) * max (-4294967296) (min c 4294967296) + max (-4294967296) (min s 4294967296) * max (-4294967296) (min s 4294967296) ∧
    max (-4294967296) (min c 4294967296) * max (-4294967296) (min c 4294967296) + max (-4294967296) (min s 4294967296) * max (-4294967296) (min s 4294967296) ≤ 18446779258081640448 := by
  have key : ∀ x : Int, (max (-4294967296) (min x 4294967296) = x) ∨ (18446744073709551616 ≤ x * x ∧ max (-4294967296) (min x 4294967296) * max (-4294967296) (min x 4294967296) = 18446744073709551616) := by
    intro x
    by_cases h1 : x < -4294967296
    · right
      have e : max (-4294967296) (min x 4294967296) = -4294967296 := by omega
      rw [e]
      have := sq_le (a := 4294967296) (b := -x) (by decide) (by omega)
      rw [Int.neg_mul_neg] at this
      exact ⟨by omega, by decide⟩
    · by_cases h2 : x > 4294967296
      · right
        have e : max (-4294967296) (min x 4294967296) = 4294967296 := by omega
        rw [e]
        have := sq_le (a := 4294967296) (b := x) (by decide) (by omega)
        exact ⟨by omega, by decide⟩
      · left
        omega
  have n1 := sq_nonneg s
  have n2 := sq_nonneg c
  rcases key s with e1 | ⟨e1, e2⟩ <;> rcases key c with e3 | ⟨e3, e4⟩
  · rw [e1, e3]; omega
  · rw [e1, e4]; omega
  · rw [e2, e3]; omega
  · rw [e2, e4]; omega
theorem angle_rot {X : Int} (hX : -9223372036854775807 ≤ X ∧ X ≤ 9223372036854775807) : RotOK (plane_Angle ⟨X, false⟩) := by
  obtain ⟨Y, Z, h1, h2, h3, h4, h5⟩ := angles hX
  have iX : I64 (⟨X, false⟩ : Num).V := ⟨by simp only []; omega, by simp only []; omega⟩
  have eS : (plane_Angle ⟨X, false⟩).S = ⟨max (-4294967296) (min (sumI Y) 4294967296), false⟩ := by
    show fixed_Sin ⟨X, false⟩ = _
    rw [(sin_eq iX).2, h1, sinC_val h3]
  have eC : (plane_Angle ⟨X, false⟩).C = ⟨max (-4294967296) (min (sumI Z) 4294967296), false⟩ := by
    show fixed_Sin (fixed_Add (fixed_Wrap ⟨X, false⟩) (fixed_Of 6746518852)) = _
    rw [(sin_eq (addP (x := fixed_Wrap ⟨X, false⟩) (y := fixed_Of 6746518852) (wrap_I64 iX) (of_I64 ⟨by decide, by decide⟩)).2).2, h2, sinC_val h4]
  obtain ⟨b1, b2⟩ := clamp_sq (pair_bd h3 h4 h5)
  exact ⟨by rw [eC], by rw [eS], by rw [eC, eS]; exact b1, by rw [eC, eS]; exact b2⟩
theorem dot_val' {a b c d : Int} (ha : -9223372036854775807 ≤ a ∧ a ≤ 9223372036854775807) (hb : -9223372036854775807 ≤ b ∧ b ≤ 9223372036854775807) (hc : -9223372036854775807 ≤ c ∧ c ≤ 9223372036854775807) (hd : -9223372036854775807 ≤ d ∧ d ≤ 9223372036854775807)
    (hq : -9223372036854775807 ≤ (a * b + c * d).tdiv 4294967296 ∧ (a * b + c * d).tdiv 4294967296 ≤ 9223372036854775807) : fixed_Dot ⟨a, false⟩ ⟨b, false⟩ ⟨c, false⟩ ⟨d, false⟩ = ⟨(a * b + c * d).tdiv 4294967296, false⟩ := by
  rw [(dot_eq (x := ⟨a, false⟩) (y := ⟨b, false⟩) (z := ⟨c, false⟩) (u := ⟨d, false⟩) ⟨by simp only []; omega, by simp only []; omega⟩ ⟨by simp only []; omega, by simp only []; omega⟩ ⟨by simp only []; omega, by simp only []; omega⟩ ⟨by simp only []; omega, by simp only []; omega⟩).2.2.1]
  unfold dotN
  rw [snd_val (by omega), snd_val (by omega), snd_val (by omega), snd_val (by omega)]
  exact sat_val hq
theorem check_rot {r : Rot} (h : RotOK r) : P_plane_CheckRot r ∧ plane_CheckRot r = 0 := by
  have hc := h.cb
  have hs := h.sb
  have hlo := h.lo
  have hhi := h.hi
  obtain ⟨f1, f2⟩ := fault_eq [(⟨r.C, r.S⟩ : Vec)] (by simp)
  have hf : plane_Fault [(⟨r.C, r.S⟩ : Vec)] = false := by
    rw [f2]
    simp only [List.any_cons, List.any_nil, Bool.or_false]
    exact fl_plain h.c h.s (by simp only []; omega) (by simp only []; omega)
  have e := tdiv_err (r.C.V * r.C.V + r.S.V * r.S.V) (show (0 : Int) < 4294967296 by decide)
  have eC : r.C = ⟨r.C.V, false⟩ := by have := h.form; rw [this]
  have eS : r.S = ⟨r.S.V, false⟩ := by have := h.form; rw [this]
  have hd : fixed_Dot r.C r.C r.S r.S = ⟨(r.C.V * r.C.V + r.S.V * r.S.V).tdiv 4294967296, false⟩ := by
    have := dot_val' (a := r.C.V) (b := r.C.V) (c := r.S.V) (d := r.S.V) (by omega) (by omega) (by omega) (by omega) (by omega)
    rw [← eC, ← eS] at this
    exact this
  unfold P_plane_CheckRot plane_CheckRot
  simp only []
  rw [hf]
  simp only [Bool.false_eq_true, if_false]
  refine ⟨⟨f1, (dot_eq h.ic.1 h.ic.1 h.ic.2 h.ic.2).1, trivial⟩, ?_⟩
  rw [hd]
  simp only []
  rw [i64_id ⟨by omega, by omega⟩, if_neg (by omega), if_neg (by omega)]
/-- A vector near 1 in length, divided by its length. -/
theorem norm_one {A B n p q : Int} (hA : 0 ≤ A) (hB : 0 ≤ B) (hn : 2147483648 ≤ n) (hs : Rt n (A * A + B * B)) (hp0 : 0 ≤ p) (hp1 : p * n ≤ A * 4294967296) (hp2 : A * 4294967296 < (p + 1) * n)
    (hq0 : 0 ≤ q) (hq1 : q * n ≤ B * 4294967296) (hq2 : B * 4294967296 < (q + 1) * n) : 18446744052234715128 ≤ p * p + q * q ∧ p * p + q * q ≤ 18446744099479355392 := by
  have hAs := abs_le_rt hA hs
  have hBs := abs_le_rt (A := B) (B := A) hB (by rw [Int.add_comm]; exact hs)
  have hs0 : 0 < n * n := Int.mul_pos (by omega) (by omega)
  have hpn : 0 ≤ p * n := Int.mul_nonneg hp0 (by omega)
  have hqn : 0 ≤ q * n := Int.mul_nonneg hq0 (by omega)
  have hpD : p ≤ 4294967296 := Int.le_of_mul_le_mul_right (show p * n ≤ 4294967296 * n by omega) (by omega)
  have hqD : q ≤ 4294967296 := Int.le_of_mul_le_mul_right (show q * n ≤ 4294967296 * n by omega) (by omega)
  constructor
  · have h1 := sq_le (a := A * 4294967296) (b := (p + 1) * n) (by omega) (by omega)
    have h2 := sq_le (a := B * 4294967296) (b := (q + 1) * n) (by omega) (by omega)
    have h3 : (4294967296 * 4294967296) * (n * n) ≤ ((p + 1) * (p + 1) + (q + 1) * (q + 1)) * (n * n) := by
      have e1 : A * 4294967296 * (A * 4294967296) = 18446744073709551616 * (A * A) := by grind
      have e2 : B * 4294967296 * (B * 4294967296) = 18446744073709551616 * (B * B) := by grind
      have e3 : (p + 1) * n * ((p + 1) * n) = (p + 1) * (p + 1) * (n * n) := by grind
      have e4 : (q + 1) * n * ((q + 1) * n) = (q + 1) * (q + 1) * (n * n) := by grind
      have e5 : ((p + 1) * (p + 1) + (q + 1) * (q + 1)) * (n * n) = (p + 1) * (p + 1) * (n * n) + (q + 1) * (q + 1) * (n * n) := by grind
      have := hs.2.1
      omega
    have h4 : 4294967296 * 4294967296 ≤ (p + 1) * (p + 1) + (q + 1) * (q + 1) := Int.le_of_mul_le_mul_right h3 hs0
    have e6 : (p + 1) * (p + 1) = p * p + 2 * p + 1 := by grind
    have e7 : (q + 1) * (q + 1) = q * q + 2 * q + 1 := by grind
    omega
  · have h1 := sq_le (a := p * n) (b := A * 4294967296) hpn hp1
    have h2 := sq_le (a := q * n) (b := B * 4294967296) hqn hq1
    have e0 : (n + 1) * (n + 1) = n * n + 2 * n + 1 := by grind
    have hn2 : 2147483648 * n ≤ n * n := Int.mul_le_mul_of_nonneg_right hn (by omega)
    have h4 : (p * p + q * q) * (n * n) ≤ 18446744099479355392 * (n * n) := by
      have e1 : A * 4294967296 * (A * 4294967296) = 18446744073709551616 * (A * A) := by grind
      have e2 : B * 4294967296 * (B * 4294967296) = 18446744073709551616 * (B * B) := by grind
      have e3 : p * n * (p * n) = p * p * (n * n) := by grind
      have e4 : q * n * (q * n) = q * q * (n * n) := by grind
      have e5 : (p * p + q * q) * (n * n) = p * p * (n * n) + q * q * (n * n) := by grind
      have := hs.2.2
      omega
    exact Int.le_of_mul_le_mul_right h4 hs0
theorem compose_rot {r s : Rot} (hr : RotOK r) (hs : RotOK s) : P_plane_Compose r s ∧ RotOK (plane_Compose r s) := by
  have rc := hr.cb
  have rs := hr.sb
  have sc := hs.cb
  have ss := hs.sb
  obtain ⟨i1, i2⟩ := hr.ic
  obtain ⟨i3, i4⟩ := hs.ic
  have eC : r.C = ⟨r.C.V, false⟩ := by have := hr.form; rw [this]
  have eS : r.S = ⟨r.S.V, false⟩ := by have := hr.form; rw [this]
  have fC : s.C = ⟨s.C.V, false⟩ := by have := hs.form; rw [this]
  have fS : s.S = ⟨s.S.V, false⟩ := by have := hs.form; rw [this]
  have l1 := hr.lo
  have l2 := hr.hi
  have l3 := hs.lo
  have l4 := hs.hi
  generalize hc1 : r.C.V = C at *
  generalize hs1 : r.S.V = S at *
  generalize hc2 : s.C.V = c at *
  generalize hs2 : s.S.V = t at *
  have m1 := mul_bd (M := 4294971392) (N := 4294971392) (by decide) rc sc
  have m2 := mul_bd (M := 4294971392) (N := 4294971392) (by decide) rs ss
  have m3 := mul_bd (M := 4294971392) (N := 4294971392) (by decide) rs sc
  have m4 := mul_bd (M := 4294971392) (N := 4294971392) (by decide) rc ss
  have em : -S * t = -(S * t) := Int.neg_mul S t
  obtain ⟨a, ha⟩ : ∃ a, a = C * c + -S * t := ⟨_, rfl⟩
  obtain ⟨b, hb⟩ : ∃ b, b = S * c + C * t := ⟨_, rfl⟩
  obtain ⟨ra1, ra2⟩ := tdiv_err a (show (0 : Int) < 4294967296 by decide)
  obtain ⟨rb1, rb2⟩ := tdiv_err b (show (0 : Int) < 4294967296 by decide)
  have n1 : fixed_Neg r.S = ⟨-S, false⟩ := by rw [eS, neg_val (by omega)]
  have d1 : fixed_Dot r.C s.C (fixed_Neg r.S) s.S = ⟨a.tdiv 4294967296, false⟩ := by
    rw [n1, eC, fC, fS, dot_val' (by omega) (by omega) (by omega) (by omega) (by rw [← ha]; omega), ← ha]
  have d2 : fixed_Dot r.S s.C r.C s.S = ⟨b.tdiv 4294967296, false⟩ := by
    rw [eS, eC, fC, fS, dot_val' (by omega) (by omega) (by omega) (by omega) (by rw [← hb]; omega), ← hb]
  -- the product's length
  have hprod : a * a + b * b = (C * C + S * S) * (c * c + t * t) := by rw [ha, hb]; grind
  have hN1 : 18446708889337462784 * (c * c + t * t) ≤ (C * C + S * S) * (c * c + t * t) := Int.mul_le_mul_of_nonneg_right l1 (by omega)
  have hN2 : (C * C + S * S) * (c * c + t * t) ≤ 18446779258081640448 * (c * c + t * t) := Int.mul_le_mul_of_nonneg_right l2 (by omega)
  generalize hA : a.tdiv 4294967296 = A at *
  generalize hB : b.tdiv 4294967296 = B at *
  have ua := mul_bd (a := a) (b := 4294967296 * A - a) (M := 73786976294838206464) (N := 4294967296) (by decide) (by omega) (by omega)
  have ub := mul_bd (a := b) (b := 4294967296 * B - b) (M := 73786976294838206464) (N := 4294967296) (by decide) (by omega) (by omega)
  have va := mul_bd (a := 4294967296 * A - a) (b := 4294967296 * A - a) (M := 4294967296) (N := 4294967296) (by decide) (by omega) (by omega)
  have vb := mul_bd (a := 4294967296 * B - b) (b := 4294967296 * B - b) (M := 4294967296) (N := 4294967296) (by decide) (by omega) (by omega)
  have hAB : 18446744073709551616 * (A * A + B * B) = a * a + b * b + 2 * (a * (4294967296 * A - a)) + 2 * (b * (4294967296 * B - b)) + (4294967296 * A - a) * (4294967296 * A - a) + (4294967296 * B - b) * (4294967296 * B - b) := by grind
  have hM : 18446000000000000000 ≤ A * A + B * B ∧ A * A + B * B ≤ 18447500000000000000 := by omega
  have iA : I64 (⟨A, false⟩ : Num).V := ⟨by simp only []; omega, by simp only []; omega⟩
  have iB : I64 (⟨B, false⟩ : Num).V := ⟨by simp only []; omega, by simp only []; omega⟩
  obtain ⟨n, hn, p1, -, e1, -⟩ := hypot_eq iA iB
  rw [snd_val (by omega), snd_val (by omega)] at hn e1
  simp only [Bool.or_self] at hn e1
  have hn0 : 2147483648 ≤ n := rt_le hn (by decide) (by omega)
  have hn1 : n < 8589934592 := rt_lt hn (by decide) (by omega)
  rw [sat_val (by omega)] at e1
  have hn' : Rt n ((A.natAbs : Int) * (A.natAbs : Int) + (B.natAbs : Int) * (B.natAbs : Int)) := by rw [← sq_nat, ← sq_nat]; exact hn
  have hAs : (A.natAbs : Int) ≤ n := abs_le_rt (by omega) hn'
  have hBs : (B.natAbs : Int) ≤ n := abs_le_rt (B := (A.natAbs : Int)) (by omega) (by rw [Int.add_comm]; exact hn')
  obtain ⟨pq0, pq1, pq2⟩ := qt_spec (a := A) (n := n) (by omega)
  obtain ⟨qq0, qq1, qq2⟩ := qt_spec (a := B) (n := n) (by omega)
  have qA := qt_le (a := A) (n := n) (by omega) hAs
  have qB := qt_le (a := B) (n := n) (by omega) hBs
  obtain ⟨z1, z2⟩ := norm_one (by omega) (by omega) hn0 hn' pq0 pq1 pq2 qq0 qq1 qq2
  have is : I64 (⟨n, false⟩ : Num).V := ⟨by simp only []; omega, by simp only []; omega⟩
  have dA : fixed_Div ⟨A, false⟩ ⟨n, false⟩ = ⟨sgq A n, false⟩ := by
    rw [(div_eq iA is).2.2.1]
    unfold divN
    rw [snd_val (by omega), snd_val (by omega)]
    simp only []
    rw [rat_pos (by omega) (by omega)]
    rfl
  have dB : fixed_Div ⟨B, false⟩ ⟨n, false⟩ = ⟨sgq B n, false⟩ := by
    rw [(div_eq iB is).2.2.1]
    unfold divN
    rw [snd_val (by omega), snd_val (by omega)]
    simp only []
    rw [rat_pos (by omega) (by omega)]
    rfl
  have hval : plane_Compose r s = ⟨⟨sgq A n, false⟩, ⟨sgq B n, false⟩⟩ := by
    unfold plane_Compose
    simp only []
    rw [d1, d2, e1]
    simp only []
    rw [if_neg (by omega), dA, dB]
  refine ⟨?_, ?_⟩
  · unfold P_plane_Compose
    simp only []
    refine ⟨(dot_eq (by rw [hc1]; exact i1) (by rw [hc2]; exact i3) (neg2 (by rw [hs1]; exact i2)).2 (by rw [hs2]; exact i4)).1, (dot_eq (by rw [hs1]; exact i2) (by rw [hc2]; exact i3) (by rw [hc1]; exact i1) (by rw [hs2]; exact i4)).1, ?_⟩
    rw [d1, d2]
    refine ⟨p1, ?_⟩
    rw [e1]
    split
    · trivial
    · exact ⟨(div_eq iA is).1, (div_eq iB is).1, trivial⟩
  · rw [hval]
    refine ⟨rfl, rfl, ?_, ?_⟩ <;> simp only [sgq_sq] <;> omega
theorem spin_rot {r : Rot} (hr : RotOK r) {X : Int} (hX : -9223372036854775807 ≤ X ∧ X ≤ 9223372036854775807) : P_plane_Spin r ⟨X, false⟩ ∧ RotOK (plane_Spin r ⟨X, false⟩) := by
  have ha := angle_rot hX
  obtain ⟨c1, c2⟩ := compose_rot ha hr
  obtain ⟨p1, -⟩ := angleP (x := ⟨X, false⟩) ⟨by simp only []; omega, by simp only []; omega⟩
  exact ⟨⟨p1, c1, trivial⟩, c2⟩
/-- A vector turned and turned back is where it was, but for a little. -/
theorem undone {r : Rot} (hr : RotOK r) {X Y : Int} (hX : -274877906944 ≤ X ∧ X ≤ 274877906944) (hY : -274877906944 ≤ Y ∧ Y ≤ 274877906944) :
    ∃ ax ay wx wy, plane_Apply r ⟨⟨X, false⟩, ⟨Y, false⟩⟩ = ⟨⟨ax, false⟩, ⟨ay, false⟩⟩ ∧ (-1099511627776 ≤ ax ∧ ax ≤ 1099511627776) ∧ (-1099511627776 ≤ ay ∧ ay ≤ 1099511627776) ∧
      plane_Back r ⟨⟨ax, false⟩, ⟨ay, false⟩⟩ = ⟨⟨wx, false⟩, ⟨wy, false⟩⟩ ∧ (-1048576 ≤ wx - X ∧ wx - X ≤ 1048576) ∧ (-1048576 ≤ wy - Y ∧ wy - Y ≤ 1048576) := by
  have rc := hr.cb
  have rs := hr.sb
  have l1 := hr.lo
  have l2 := hr.hi
  have eC : r.C = ⟨r.C.V, false⟩ := by have := hr.form; rw [this]
  have eS : r.S = ⟨r.S.V, false⟩ := by have := hr.form; rw [this]
  unfold plane_Apply plane_Back
  simp only []
  generalize hc1 : r.C.V = C at *
  generalize hs1 : r.S.V = S at *
  rw [eC, eS, neg_val (by omega)]
  have m1 := mul_bd (M := 4294971392) (N := 274877906944) (by decide) rc hX
  have m2 := mul_bd (M := 4294971392) (N := 274877906944) (by decide) rs hY
  have m3 := mul_bd (M := 4294971392) (N := 274877906944) (by decide) rs hX
  have m4 := mul_bd (M := 4294971392) (N := 274877906944) (by decide) rc hY
  have em : -S * Y = -(S * Y) := Int.neg_mul S Y
  have e1 := tdiv_err (C * X + -S * Y) (show (0 : Int) < 4294967296 by decide)
  have e2 := tdiv_err (S * X + C * Y) (show (0 : Int) < 4294967296 by decide)
  rw [dot_val' (a := C) (b := X) (c := -S) (d := Y) (by omega) (by omega) (by omega) (by omega) (by omega), dot_val' (a := S) (b := X) (c := C) (d := Y) (by omega) (by omega) (by omega) (by omega) (by omega)]
  generalize hA : (C * X + -S * Y).tdiv 4294967296 = A at *
  generalize hB : (S * X + C * Y).tdiv 4294967296 = B at *
  have hA1 : -1099511627776 ≤ A ∧ A ≤ 1099511627776 := by omega
  have hB1 : -1099511627776 ≤ B ∧ B ≤ 1099511627776 := by omega
  have m5 := mul_bd (M := 4294971392) (N := 1099511627776) (by decide) rc hA1
  have m6 := mul_bd (M := 4294971392) (N := 1099511627776) (by decide) rs hB1
  have m7 := mul_bd (M := 4294971392) (N := 1099511627776) (by decide) rs hA1
  have m8 := mul_bd (M := 4294971392) (N := 1099511627776) (by decide) rc hB1
  have em2 : -S * A = -(S * A) := Int.neg_mul S A
  have e3 := tdiv_err (C * A + S * B) (show (0 : Int) < 4294967296 by decide)
  have e4 := tdiv_err (-S * A + C * B) (show (0 : Int) < 4294967296 by decide)
  refine ⟨A, B, (C * A + S * B).tdiv 4294967296, (-S * A + C * B).tdiv 4294967296, rfl, hA1, hB1, ?_, ?_, ?_⟩
  · rw [dot_val' (a := C) (b := A) (c := S) (d := B) (by omega) (by omega) (by omega) (by omega) (by omega), dot_val' (a := -S) (b := A) (c := C) (d := B) (by omega) (by omega) (by omega) (by omega) (by omega)]
  · generalize hW : (C * A + S * B).tdiv 4294967296 = W at *
    have k1 := mul_bd (a := C) (b := 4294967296 * A - (C * X + -S * Y)) (M := 4294971392) (N := 4294967296) (by decide) rc (by omega)
    have k2 := mul_bd (a := S) (b := 4294967296 * B - (S * X + C * Y)) (M := 4294971392) (N := 4294967296) (by decide) rs (by omega)
    have k3 := mul_bd (a := C * C + S * S - 18446744073709551616) (b := X) (M := 35184372088832) (N := 274877906944) (by decide) (by omega) hX
    have i1 : 18446744073709551616 * (W - X) = 4294967296 * (4294967296 * W - (C * A + S * B)) + C * (4294967296 * A - (C * X + -S * Y)) + S * (4294967296 * B - (S * X + C * Y)) + (C * C + S * S - 18446744073709551616) * X := by grind
    omega
  · generalize hW : (-S * A + C * B).tdiv 4294967296 = W at *
    have k1 := mul_bd (a := S) (b := 4294967296 * A - (C * X + -S * Y)) (M := 4294971392) (N := 4294967296) (by decide) rs (by omega)
    have k2 := mul_bd (a := C) (b := 4294967296 * B - (S * X + C * Y)) (M := 4294971392) (N := 4294967296) (by decide) rc (by omega)
    have k3 := mul_bd (a := C * C + S * S - 18446744073709551616) (b := Y) (M := 35184372088832) (N := 274877906944) (by decide) (by omega) hY
    have i1 : 18446744073709551616 * (W - Y) = 4294967296 * (4294967296 * W - (-S * A + C * B)) - S * (4294967296 * A - (C * X + -S * Y)) + C * (4294967296 * B - (S * X + C * Y)) + (C * C + S * S - 18446744073709551616) * Y := by grind
    omega
end Go.Bag

