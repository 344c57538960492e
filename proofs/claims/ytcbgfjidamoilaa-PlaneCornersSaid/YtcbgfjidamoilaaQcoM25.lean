/- The sine's series is near its polynomial, and the polynomial's squares at an angle and at what is missing to a quarter add to 1, but for very little. -/
import Derived.Test.YtcbgfjidamoilaaQcoM24
set_option linter.unusedVariables false
namespace Go.Bag
open Go Go.AbsK

def ev : List Int → Int → Int
  | [], _ => 0
  | a :: l, x => a + x * ev l x
def padd : List Int → List Int → List Int
  | [], q => q
  | p, [] => p
  | a :: p, b :: q => (a + b) :: padd p q
def pscale (c : Int) (p : List Int) : List Int := p.map (c * ·)
def pmul : List Int → List Int → List Int
  | [], _ => []
  | a :: p, q => padd (pscale a q) (0 :: pmul p q)
/-- p at h + s u, as a polynomial in u. -/
def pcomp (h s : Int) : List Int → List Int
  | [] => []
  | a :: p => padd [a] (pmul [h, s] (pcomp h s p))
def bd (H : Int) : List Int → Int
  | [] => 0
  | a :: l => (a.natAbs : Int) + H * bd H l
theorem ev_add : ∀ (p q : List Int) (x : Int), ev (padd p q) x = ev p x + ev q x
  | [], q, x => by unfold padd ev; omega
  | a :: p, [], x => by simp [padd, ev]
  | a :: p, b :: q, x => by
    have := ev_add p q x
    simp only [padd, ev, this]
    grind
theorem ev_scale (c : Int) : ∀ (p : List Int) (x : Int), ev (pscale c p) x = c * ev p x
  | [], x => by simp [pscale, ev]
  | a :: p, x => by
    have := ev_scale c p x
    unfold pscale at this ⊢
    simp only [List.map_cons, ev, this]
    grind
theorem ev_mul : ∀ (p q : List Int) (x : Int), ev (pmul p q) x = ev p x * ev q x
  | [], q, x => by simp [pmul, ev]
  | a :: p, q, x => by
    have := ev_mul p q x
    simp only [pmul, ev_add, ev_scale, ev, this]
    grind
theorem ev_comp (h s : Int) : ∀ (p : List Int) (u : Int), ev (pcomp h s p) u = ev p (h + s * u)
  | [], u => rfl
  | a :: p, u => by
    have := ev_comp h s p u
    simp only [pcomp, ev_add, ev_mul, ev, this]
    grind
theorem ev_bd {H x : Int} (hx : -H ≤ x ∧ x ≤ H) : ∀ p : List Int, -(bd H p) ≤ ev p x ∧ ev p x ≤ bd H p
  | [] => ⟨by unfold bd ev; omega, by unfold bd ev; omega⟩
  | a :: p => by
    have h0 : 0 ≤ H := by omega
    have ih := ev_bd hx p
    have hm := mul_bd h0 hx ih
    unfold bd ev
    omega
/-- A term out of the one ahead of it, as whole numbers. -/
def tI (T Y n : Int) : Int := -((((T * Y).tdiv 4294967296 * Y).tdiv 4294967296).tdiv n)
theorem tdiv_err (a : Int) {n : Int} (hn : 0 < n) : -n < n * a.tdiv n - a ∧ n * a.tdiv n - a < n := by
  have h := Int.mul_tdiv_add_tmod a n
  have h1 := Int.tmod_lt_of_pos a hn
  have h2 := Int.tmod_lt_of_pos (-a) hn
  rw [Int.neg_tmod] at h2
  omega
theorem tdiv_bd {a n M : Int} (hn : 0 < n) (hM : 0 ≤ M) (h : -(M * n) ≤ a ∧ a ≤ M * n) : -M ≤ a.tdiv n ∧ a.tdiv n ≤ M := by
  obtain ⟨e1, e2⟩ := tdiv_err a hn
  constructor
  · by_cases hc : -M ≤ a.tdiv n
    · exact hc
    · have : a.tdiv n ≤ -M - 1 := by omega
      have := Int.mul_le_mul_of_nonneg_left this (Int.le_of_lt hn)
      have e : n * (-M - 1) = -(M * n) - n := by grind
      omega
  · by_cases hc : a.tdiv n ≤ M
    · exact hc
    · have : M + 1 ≤ a.tdiv n := by omega
      have := Int.mul_le_mul_of_nonneg_left this (Int.le_of_lt hn)
      have e : n * (M + 1) = M * n + n := by grind
      omega
theorem rat_tdiv {a n : Int} (hn : 0 < n) (hq : -9223372036854775807 ≤ (a * 4294967296).tdiv n ∧ (a * 4294967296).tdiv n ≤ 9223372036854775807) : rat a n = ⟨(a * 4294967296).tdiv n, false⟩ := by
  have key : (if a < 0 then -(qt a n) else qt a n) = (a * 4294967296).tdiv n := by
    unfold qt
    by_cases h : a < 0
    · rw [if_pos h, show a * 4294967296 = -((a.natAbs : Int) * 4294967296) by omega, Int.neg_tdiv, Int.tdiv_eq_ediv_of_nonneg (by omega)]
    · rw [if_neg h, show a * 4294967296 = (a.natAbs : Int) * 4294967296 by omega, Int.tdiv_eq_ediv_of_nonneg (by omega)]
  have hb : qt a n ≤ 9223372036854775807 := by
    rw [← key] at hq
    split at hq <;> omega
  rw [rat_pos hn hb, key]
theorem sat_val {n : Int} (h : -9223372036854775807 ≤ n ∧ n ≤ 9223372036854775807) : sat n false = ⟨n, false⟩ := sat_F _ h.1 h.2
theorem snd_val {n : Int} {f : Bool} (h : n ≠ -9223372036854775808) : fixed_sound ⟨n, f⟩ = ⟨n, f⟩ := snd_id (x := ⟨n, f⟩) h
theorem mul_val {a b : Int} (ha : -9223372036854775807 ≤ a ∧ a ≤ 9223372036854775807) (hb : -9223372036854775807 ≤ b ∧ b ≤ 9223372036854775807) (hq : -9223372036854775807 ≤ (a * b).tdiv 4294967296 ∧ (a * b).tdiv 4294967296 ≤ 9223372036854775807) :
    fixed_Mul ⟨a, false⟩ ⟨b, false⟩ = ⟨(a * b).tdiv 4294967296, false⟩ := by
  rw [(mul_eq (x := ⟨a, false⟩) (y := ⟨b, false⟩) ⟨by simp only []; omega, by simp only []; omega⟩ ⟨by simp only []; omega, by simp only []; omega⟩).2.1]
  unfold mulN
  rw [snd_val (by omega), snd_val (by omega)]
  exact sat_val hq
theorem div_val' {a n : Int} (ha : -9223372036854775807 ≤ a ∧ a ≤ 9223372036854775807) (hn : 0 < n ∧ n ≤ 9223372036854775807) (hq : -9223372036854775807 ≤ (a * 4294967296).tdiv n ∧ (a * 4294967296).tdiv n ≤ 9223372036854775807) :
    fixed_Div ⟨a, false⟩ ⟨n, false⟩ = ⟨(a * 4294967296).tdiv n, false⟩ := by
  rw [(div_eq (x := ⟨a, false⟩) (y := ⟨n, false⟩) ⟨by simp only []; omega, by simp only []; omega⟩ ⟨by simp only []; omega, by simp only []; omega⟩).2.2.1]
  unfold divN
  rw [snd_val (by omega), snd_val (by omega)]
  simp only []
  rw [rat_tdiv hn.1 hq]
  rfl
theorem neg_val {a : Int} (ha : -9223372036854775807 ≤ a ∧ a ≤ 9223372036854775807) : fixed_Neg ⟨a, false⟩ = ⟨-a, false⟩ := by
  rw [(neg_eq (x := ⟨a, false⟩) ⟨by simp only []; omega, by simp only []; omega⟩).1, snd_val (by omega)]
theorem add_val {a b : Int} (ha : -9223372036854775807 ≤ a ∧ a ≤ 9223372036854775807) (hb : -9223372036854775807 ≤ b ∧ b ≤ 9223372036854775807) (hs : -9223372036854775807 ≤ a + b ∧ a + b ≤ 9223372036854775807) : fixed_Add ⟨a, false⟩ ⟨b, false⟩ = ⟨a + b, false⟩ := by
  show fixed_Sum [⟨a, false⟩, ⟨b, false⟩] = _
  rw [(sum_eq _ (by simp) (all2 (x := ⟨a, false⟩) (z := ⟨b, false⟩) ⟨by simp only []; omega, by simp only []; omega⟩ ⟨by simp only []; omega, by simp only []; omega⟩)).2.2.1]
  unfold sumN sumV sumF
  simp only [List.map_cons, List.map_nil, List.sum_cons, List.sum_nil, List.any_cons, List.any_nil, snd_val (show a ≠ -9223372036854775808 by omega), snd_val (show b ≠ -9223372036854775808 by omega), Bool.or_self, Int.add_zero]
  exact sat_val hs
/-- An angle of at most a quarter. -/
def Qb (n : Int) : Prop := -6746518852 ≤ n ∧ n ≤ 6746518852
theorem stepT_val {T Y n : Int} (hT : -8589934592 ≤ T ∧ T ≤ 8589934592) (hY : Qb Y) (hn : 6 ≤ n ∧ n ≤ 1000) : stepT ⟨T, false⟩ ⟨Y, false⟩ n = ⟨tI T Y n, false⟩ ∧ (-8589934592 ≤ tI T Y n ∧ tI T Y n ≤ 8589934592) ∧
    (-(18446744073709551616 * (n + 3)) ≤ n * 18446744073709551616 * tI T Y n + T * (Y * Y) ∧ n * 18446744073709551616 * tI T Y n + T * (Y * Y) ≤ 18446744073709551616 * (n + 3)) := by
  unfold Qb at hY
  have b1 := mul_bd (M := 8589934592) (N := 8589934592) (by decide) hT (show -8589934592 ≤ Y ∧ Y ≤ 8589934592 by omega)
  obtain ⟨e1, e2⟩ := tdiv_err (T * Y) (show (0 : Int) < 4294967296 by decide)
  have c1 := tdiv_bd (a := T * Y) (n := 4294967296) (M := 17179869184) (by decide) (by decide) (by omega)
  generalize hA : (T * Y).tdiv 4294967296 = A at *
  have b2 := mul_bd (M := 17179869184) (N := 8589934592) (by decide) c1 (show -8589934592 ≤ Y ∧ Y ≤ 8589934592 by omega)
  obtain ⟨f1, f2⟩ := tdiv_err (A * Y) (show (0 : Int) < 4294967296 by decide)
  have c2 := tdiv_bd (a := A * Y) (n := 4294967296) (M := 34359738368) (by decide) (by decide) (by omega)
  generalize hB : (A * Y).tdiv 4294967296 = B at *
  obtain ⟨g1, g2⟩ := tdiv_err B (show (0 : Int) < n by omega)
  have c3 := tdiv_bd (a := B) (n := n) (M := 5726623062) (by omega) (by decide) (by omega)
  have eB : (B * 4294967296).tdiv (n * 4294967296) = B.tdiv n := Int.mul_tdiv_mul_of_pos_left _ _ (by decide)
  have hstep : stepT ⟨T, false⟩ ⟨Y, false⟩ n = ⟨tI T Y n, false⟩ := by
    unfold stepT
    rw [mul_val (by omega) (by omega) (by rw [hA]; omega), hA, mul_val (by omega) (by omega) (by rw [hB]; omega), hB, int_val (n := n) (by omega), div_val' (by omega) (by omega) (by rw [eB]; omega), eB, neg_val (by omega)]
    unfold tI
    rw [hA, hB]
  have htI : tI T Y n = -(B.tdiv n) := by unfold tI; rw [hA, hB]
  generalize hC : B.tdiv n = C at *
  refine ⟨hstep, by rw [htI]; omega, ?_⟩
  rw [htI]
  have hY1 := mul_bd (a := 4294967296 * A - T * Y) (b := Y) (M := 4294967296) (N := 8589934592) (by decide) (by omega) (by omega)
  have i1 : (4294967296 * A - T * Y) * Y = 4294967296 * (A * Y) - T * (Y * Y) := by grind
  have i2 : n * 18446744073709551616 * -C = -(18446744073709551616 * (n * C)) := by grind
  omega
def sumI (Y : Int) : Int := Y + tI Y Y 6 + tI (tI Y Y 6) Y 20 + tI (tI (tI Y Y 6) Y 20) Y 42 + tI (tI (tI (tI Y Y 6) Y 20) Y 42) Y 72 + tI (tI (tI (tI (tI Y Y 6) Y 20) Y 42) Y 72) Y 110 + tI (tI (tI (tI (tI (tI Y Y 6) Y 20) Y 42) Y 72) Y 110) Y 156 +
  tI (tI (tI (tI (tI (tI (tI Y Y 6) Y 20) Y 42) Y 72) Y 110) Y 156) Y 210 + tI (tI (tI (tI (tI (tI (tI (tI Y Y 6) Y 20) Y 42) Y 72) Y 110) Y 156) Y 210) Y 272
/-- The factorials, with the point's powers. -/
def gK : Nat → Int
  | 0 => 1
  | k + 1 => gK k * (((2 * k + 2) * (2 * k + 3) : Nat) : Int) * 18446744073709551616
/-- The powers, with their signs. -/
def pK (Y : Int) : Nat → Int
  | 0 => Y
  | k + 1 => -(pK Y k * (Y * Y))
theorem gK_pos : ∀ k, 0 < gK k
  | 0 => by decide
  | k + 1 => by
    have := gK_pos k
    unfold gK
    exact Int.mul_pos (Int.mul_pos this (Int.natCast_pos.2 (Nat.mul_pos (by omega) (by omega)))) (by decide)
/-- A term is near its power: the error goes on. -/
theorem term_err {Y T T' : Int} {k : Nat} {n : Int} (hY : Qb Y) (hn : n = (((2 * k + 2) * (2 * k + 3) : Nat) : Int)) (hn6 : 6 ≤ n)
    (h : -(18446744073709551616 * (n + 3)) ≤ n * 18446744073709551616 * T' + T * (Y * Y) ∧ n * 18446744073709551616 * T' + T * (Y * Y) ≤ 18446744073709551616 * (n + 3))
    (he : -(3 * gK k) ≤ T * gK k - pK Y k ∧ T * gK k - pK Y k ≤ 3 * gK k) : -(3 * gK (k + 1)) ≤ T' * gK (k + 1) - pK Y (k + 1) ∧ T' * gK (k + 1) - pK Y (k + 1) ≤ 3 * gK (k + 1) := by
  have hg := gK_pos k
  have hYY : 0 ≤ Y * Y ∧ Y * Y ≤ 46116860184273879040 := by
    unfold Qb at hY
    have h1 := mul_bd (M := 6746518852) (N := 6746518852) (by decide) hY hY
    have h2 := sq_nonneg Y
    omega
  have eg : gK (k + 1) = gK k * n * 18446744073709551616 := by rw [hn]; rfl
  have ep : pK Y (k + 1) = -(pK Y k * (Y * Y)) := rfl
  rw [eg, ep]
  generalize gK k = g at *
  generalize pK Y k = p at *
  -- the new error: the old one times Y Y, and what was cut
  have m1 := mul_bd (a := T * g - p) (b := Y * Y) (M := 3 * g) (N := 46116860184273879040) (by omega) he ⟨by omega, hYY.2⟩
  have m2 := mul_bd (a := n * 18446744073709551616 * T' + T * (Y * Y)) (b := g) (M := 18446744073709551616 * (n + 3)) (N := g) (by omega) h ⟨by omega, Int.le_refl _⟩
  have i1 : T' * (g * n * 18446744073709551616) - -(p * (Y * Y)) = (n * 18446744073709551616 * T' + T * (Y * Y)) * g - (T * g - p) * (Y * Y) := by grind
  have i2 : 18446744073709551616 * (n + 3) * g = 18446744073709551616 * (n * g) + 55340232221128654848 * g := by grind
  have i3 : 3 * g * 46116860184273879040 = 138350580552821637120 * g := by grind
  have i4 : 3 * (g * n * 18446744073709551616) = 55340232221128654848 * (n * g) := by grind
  have i5 : 6 * g ≤ n * g := Int.mul_le_mul_of_nonneg_right hn6 (by omega)
  rw [i1]
  omega
/-- The polynomial of the sine, times gK 8. -/
def sP : List Int := [0, 355687428096000 * 4294967296 ^ 16, 0, -59281238016000 * 4294967296 ^ 14, 0, 2964061900800 * 4294967296 ^ 12, 0, -70572902400 * 4294967296 ^ 10, 0, 980179200 * 4294967296 ^ 8, 0, -8910720 * 4294967296 ^ 6, 0, 57120 * 4294967296 ^ 4, 0, -272 * 4294967296 ^ 2, 0, 1]
/-- The one of the program's value. -/
def gG : Int := 355687428096000 * 4294967296 ^ 16
theorem gG_eq : gK 8 = gG := by decide +kernel
theorem gG_pos : 0 < gG := by rw [← gG_eq]; exact gK_pos 8
theorem gdiv : gK 1 * (59281238016000 * 4294967296 ^ 14) = gG ∧ gK 2 * (2964061900800 * 4294967296 ^ 12) = gG ∧ gK 3 * (70572902400 * 4294967296 ^ 10) = gG ∧ gK 4 * (980179200 * 4294967296 ^ 8) = gG ∧ gK 5 * (8910720 * 4294967296 ^ 6) = gG ∧ gK 6 * (57120 * 4294967296 ^ 4) = gG ∧ gK 7 * (272 * 4294967296 ^ 2) = gG ∧ gK 8 * 1 = gG := by decide +kernel
theorem sP_val (Y : Int) : ev sP Y = gG * pK Y 0 + 59281238016000 * 4294967296 ^ 14 * pK Y 1 + 2964061900800 * 4294967296 ^ 12 * pK Y 2 + 70572902400 * 4294967296 ^ 10 * pK Y 3 + 980179200 * 4294967296 ^ 8 * pK Y 4 + 8910720 * 4294967296 ^ 6 * pK Y 5 + 57120 * 4294967296 ^ 4 * pK Y 6 + 272 * 4294967296 ^ 2 * pK Y 7 + pK Y 8 := by
  unfold sP gG
  simp only [ev, pK]
  generalize (4294967296 : Int) ^ 16 = c16
  generalize (4294967296 : Int) ^ 14 = c14
  generalize (4294967296 : Int) ^ 12 = c12
  generalize (4294967296 : Int) ^ 10 = c10
  generalize (4294967296 : Int) ^ 8 = c8
  generalize (4294967296 : Int) ^ 6 = c6
  generalize (4294967296 : Int) ^ 4 = c4
  generalize (4294967296 : Int) ^ 2 = c2
  grind
theorem term_up {T p g c G : Int} (hg : 0 < g) (hc : 0 ≤ c) (h : -(3 * g) ≤ T * g - p ∧ T * g - p ≤ 3 * g) (e : g * c = G) : -(3 * G) ≤ T * G - c * p ∧ T * G - c * p ≤ 3 * G := by
  have := mul_bd (a := T * g - p) (b := c) (M := 3 * g) (N := c) (by omega) h ⟨by omega, Int.le_refl _⟩
  have i1 : (T * g - p) * c = T * (g * c) - c * p := by grind
  have i2 : 3 * g * c = 3 * (g * c) := by grind
  rw [i1, i2, e] at this
  exact this
theorem sinSum_val {Y : Int} (hY : Qb Y) : sinSum ⟨Y, false⟩ = ⟨sumI Y, false⟩ ∧ (-(24 * gG) ≤ sumI Y * gG - ev sP Y ∧ sumI Y * gG - ev sP Y ≤ 24 * gG) ∧ (-80000000000 ≤ sumI Y ∧ sumI Y ≤ 80000000000) := by
  have hY' : -8589934592 ≤ Y ∧ Y ≤ 8589934592 := by unfold Qb at hY; omega
  obtain ⟨a1, b1, c1⟩ := stepT_val (n := 6) hY' hY (by decide)
  obtain ⟨a2, b2, c2⟩ := stepT_val (n := 20) b1 hY (by decide)
  obtain ⟨a3, b3, c3⟩ := stepT_val (n := 42) b2 hY (by decide)
  obtain ⟨a4, b4, c4⟩ := stepT_val (n := 72) b3 hY (by decide)
  obtain ⟨a5, b5, c5⟩ := stepT_val (n := 110) b4 hY (by decide)
  obtain ⟨a6, b6, c6⟩ := stepT_val (n := 156) b5 hY (by decide)
  obtain ⟨a7, b7, c7⟩ := stepT_val (n := 210) b6 hY (by decide)
  obtain ⟨a8, b8, c8⟩ := stepT_val (n := 272) b7 hY (by decide)
  have s1 : ser1 ⟨Y, false⟩ = ⟨tI Y Y 6, false⟩ := a1
  have s2 : ser2 ⟨Y, false⟩ = ⟨tI (tI Y Y 6) Y 20, false⟩ := by unfold ser2; rw [s1]; exact a2
  have s3 : ser3 ⟨Y, false⟩ = ⟨tI (tI (tI Y Y 6) Y 20) Y 42, false⟩ := by unfold ser3; rw [s2]; exact a3
  have s4 : ser4 ⟨Y, false⟩ = ⟨tI (tI (tI (tI Y Y 6) Y 20) Y 42) Y 72, false⟩ := by unfold ser4; rw [s3]; exact a4
  have s5 : ser5 ⟨Y, false⟩ = ⟨tI (tI (tI (tI (tI Y Y 6) Y 20) Y 42) Y 72) Y 110, false⟩ := by unfold ser5; rw [s4]; exact a5
  have s6 : ser6 ⟨Y, false⟩ = ⟨tI (tI (tI (tI (tI (tI Y Y 6) Y 20) Y 42) Y 72) Y 110) Y 156, false⟩ := by unfold ser6; rw [s5]; exact a6
  have s7 : ser7 ⟨Y, false⟩ = ⟨tI (tI (tI (tI (tI (tI (tI Y Y 6) Y 20) Y 42) Y 72) Y 110) Y 156) Y 210, false⟩ := by unfold ser7; rw [s6]; exact a7
  have s8 : ser8 ⟨Y, false⟩ = ⟨tI (tI (tI (tI (tI (tI (tI (tI Y Y 6) Y 20) Y 42) Y 72) Y 110) Y 156) Y 210) Y 272, false⟩ := by unfold ser8; rw [s7]; exact a8
  have e0 : -(3 * gK 0) ≤ Y * gK 0 - pK Y 0 ∧ Y * gK 0 - pK Y 0 ≤ 3 * gK 0 := by unfold gK pK; omega
  have e1 := term_err (k := 0) hY rfl (by decide) c1 e0
  have e2 := term_err (k := 1) hY rfl (by decide) c2 e1
  have e3 := term_err (k := 2) hY rfl (by decide) c3 e2
  have e4 := term_err (k := 3) hY rfl (by decide) c4 e3
  have e5 := term_err (k := 4) hY rfl (by decide) c5 e4
  have e6 := term_err (k := 5) hY rfl (by decide) c6 e5
  have e7 := term_err (k := 6) hY rfl (by decide) c7 e6
  have e8 := term_err (k := 7) hY rfl (by decide) c8 e7
  obtain ⟨d1, d2, d3, d4, d5, d6, d7, d8⟩ := gdiv
  have f1 := term_up (gK_pos 1) (by decide) e1 d1
  have f2 := term_up (gK_pos 2) (by decide) e2 d2
  have f3 := term_up (gK_pos 3) (by decide) e3 d3
  have f4 := term_up (gK_pos 4) (by decide) e4 d4
  have f5 := term_up (gK_pos 5) (by decide) e5 d5
  have f6 := term_up (gK_pos 6) (by decide) e6 d6
  have f7 := term_up (gK_pos 7) (by decide) e7 d7
  have f8 := term_up (gK_pos 8) (by decide) e8 d8
  have hev := sP_val Y
  unfold sinSum
  rw [s1, s2, s3, s4, s5, s6, s7, s8]
  unfold sumI
  generalize hT8 : tI (tI (tI (tI (tI (tI (tI (tI Y Y 6) Y 20) Y 42) Y 72) Y 110) Y 156) Y 210) Y 272 = T8 at *
  generalize hT7 : tI (tI (tI (tI (tI (tI (tI Y Y 6) Y 20) Y 42) Y 72) Y 110) Y 156) Y 210 = T7 at *
  generalize hT6 : tI (tI (tI (tI (tI (tI Y Y 6) Y 20) Y 42) Y 72) Y 110) Y 156 = T6 at *
  generalize hT5 : tI (tI (tI (tI (tI Y Y 6) Y 20) Y 42) Y 72) Y 110 = T5 at *
  generalize hT4 : tI (tI (tI (tI Y Y 6) Y 20) Y 42) Y 72 = T4 at *
  generalize hT3 : tI (tI (tI Y Y 6) Y 20) Y 42 = T3 at *
  generalize hT2 : tI (tI Y Y 6) Y 20 = T2 at *
  generalize hT1 : tI Y Y 6 = T1 at *
  refine ⟨?_, ?_, by omega⟩
  · rw [add_val (by omega) (by omega) (by omega), add_val (by omega) (by omega) (by omega), add_val (by omega) (by omega) (by omega), add_val (by omega) (by omega) (by omega), add_val (by omega) (by omega) (by omega), add_val (by omega) (by omega) (by omega), add_val (by omega) (by omega) (by omega), add_val (by omega) (by omega) (by omega)]
  · have hp0 : pK Y 0 = Y := rfl
    rw [hp0] at hev
    rw [hev]
    clear hev s1 s2 s3 s4 s5 s6 s7 s8 a1 a2 a3 a4 a5 a6 a7 a8 c1 c2 c3 c4 c5 c6 c7 c8 e0 e1 e2 e3 e4 e5 e6 e7 e8 d1 d2 d3 d4 d5 d6 d7 d8
    have hG := gG_pos
    generalize gG = G at *
    generalize 59281238016000 * (4294967296 : Int) ^ 14 * pK Y 1 = q1 at *
    generalize 2964061900800 * (4294967296 : Int) ^ 12 * pK Y 2 = q2 at *
    generalize 70572902400 * (4294967296 : Int) ^ 10 * pK Y 3 = q3 at *
    generalize 980179200 * (4294967296 : Int) ^ 8 * pK Y 4 = q4 at *
    generalize 8910720 * (4294967296 : Int) ^ 6 * pK Y 5 = q5 at *
    generalize 57120 * (4294967296 : Int) ^ 4 * pK Y 6 = q6 at *
    generalize 272 * (4294967296 : Int) ^ 2 * pK Y 7 = q7 at *
    rw [Int.one_mul] at f8
    generalize pK Y 8 = q8 at *
    have i : (Y + T1 + T2 + T3 + T4 + T5 + T6 + T7 + T8) * G = G * Y + T1 * G + T2 * G + T3 * G + T4 * G + T5 * G + T6 * G + T7 * G + T8 * G := by grind
    rw [i]
    omega
/-- What the squares' sum is off by, as a polynomial in the distance from the middle. -/
def eP (h' : Int) : List Int := padd (padd (pmul (pcomp 3373259426 1 sP) (pcomp 3373259426 1 sP)) (pmul (pcomp h' (-1) sP) (pcomp h' (-1) sP))) [-(18446744073709551616 * (gG * gG))]
theorem eP_bd : bd 3373259426 (eP 3373259426) ≤ 68719476736 * (gG * gG) ∧ bd 3373259426 (eP 3373259425) ≤ 68719476736 * (gG * gG) := by decide +kernel
theorem sP_odd (Y : Int) : ev sP (-Y) = -(ev sP Y) := by
  have hp : ∀ k, pK (-Y) k = -(pK Y k) := by
    intro k
    induction k with
    | zero => rfl
    | succ k ih =>
      show -(pK (-Y) k * (-Y * -Y)) = -(-(pK Y k * (Y * Y)))
      rw [ih]
      grind
  rw [sP_val, sP_val]
  simp only [hp, Int.mul_neg]
  omega
theorem squares {Y Z : Int} (hY : 0 ≤ Y ∧ Y ≤ 6746518852) (h : Y + Z = 6746518852 ∨ Y + Z = 6746518851) :
    -(68719476736 * (gG * gG)) ≤ ev sP Y * ev sP Y + ev sP Z * ev sP Z - 18446744073709551616 * (gG * gG) ∧ ev sP Y * ev sP Y + ev sP Z * ev sP Z - 18446744073709551616 * (gG * gG) ≤ 68719476736 * (gG * gG) := by
  have key : ∀ h', ev (eP h') (Y - 3373259426) = ev sP Y * ev sP Y + ev sP (h' - (Y - 3373259426)) * ev sP (h' - (Y - 3373259426)) - 18446744073709551616 * (gG * gG) := by
    intro h'
    unfold eP
    simp only [ev_add, ev_mul, ev_comp, ev]
    rw [show 3373259426 + 1 * (Y - 3373259426) = Y by omega, show h' + -1 * (Y - 3373259426) = h' - (Y - 3373259426) by omega]
    grind
  obtain ⟨b1, b2⟩ := eP_bd
  rcases h with h | h
  · have k := key 3373259426
    rw [show 3373259426 - (Y - 3373259426) = Z by omega] at k
    have := ev_bd (H := 3373259426) (x := Y - 3373259426) (by omega) (eP 3373259426)
    rw [← k]
    omega
  · have k := key 3373259425
    rw [show 3373259425 - (Y - 3373259426) = Z by omega] at k
    have := ev_bd (H := 3373259426) (x := Y - 3373259426) (by omega) (eP 3373259425)
    rw [← k]
    omega
end Go.Bag

