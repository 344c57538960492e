/- The length of a direction is 1, but for a little. -/
import Derived.Test.YtcbgfjidamoilaaQunM18
set_option linter.unusedVariables false
namespace Go.Bag
open Go Go.AbsK

theorem sq_nat (a : Int) : a * a = (a.natAbs : Int) * (a.natAbs : Int) := by
  rcases Int.natAbs_eq a with h | h
  · rw [← h]
  · have : (a.natAbs : Int) = -a := by omega
    rw [this]; grind
/-- The quotient's absolute value. -/
def qt (a n : Int) : Int := (a.natAbs : Int) * 4294967296 / n
theorem rat_pos {a n : Int} (hn : 0 < n) (hq : qt a n ≤ 9223372036854775807) : rat a n = ⟨if a < 0 then -(qt a n) else qt a n, false⟩ := by
  have h0 : 0 ≤ qt a n := Int.ediv_nonneg (by omega) (by omega)
  unfold rat
  rw [if_neg (by omega), show ((n.natAbs : Nat) : Int) = n from by omega]
  change sat (sg _ (qt a n)) false = _
  by_cases ha : a < 0
  · rw [if_pos ha]
    have : sg (!(decide (a < 0) == decide (n < 0))) (qt a n) = -(qt a n) := by
      unfold sg; rw [show decide (a < 0) = true from decide_eq_true ha, show decide (n < 0) = false from decide_eq_false (by omega)]; rfl
    rw [this, sat_F _ (by omega) (by omega)]
  · rw [if_neg ha]
    have : sg (!(decide (a < 0) == decide (n < 0))) (qt a n) = qt a n := by
      unfold sg; rw [show decide (a < 0) = false from decide_eq_false ha, show decide (n < 0) = false from decide_eq_false (by omega)]; rfl
    rw [this, sat_F _ (by omega) (by omega)]
theorem qt_le {a n : Int} (hn : 0 < n) (h : (a.natAbs : Int) ≤ n) : qt a n ≤ 4294967296 := by
  unfold qt
  exact Int.ediv_le_of_le_mul hn (by omega)
theorem qt_spec {a n : Int} (hn : 0 < n) : 0 ≤ qt a n ∧ qt a n * n ≤ (a.natAbs : Int) * 4294967296 ∧ (a.natAbs : Int) * 4294967296 < (qt a n + 1) * n := by
  refine ⟨Int.ediv_nonneg (by omega) (by omega), Int.ediv_mul_le _ (by omega), ?_⟩
  exact Int.lt_ediv_add_one_mul_self _ hn
theorem abs_le_rt {A B s : Int} (hA : 0 ≤ A) (hs : Rt s (A * A + B * B)) : A ≤ s := by
  have h1 := sq_nonneg B
  have := sq_lt_of (a := A) (b := s + 1) (by have := hs.1; omega) (by have := hs.2.2; omega) hA
  omega
theorem unit_len {A B s p q t : Int} (hA : 0 ≤ A) (hB : 0 ≤ B) (hs : Rt s (A * A + B * B)) (h24 : 16777216 ≤ s) (hp0 : 0 ≤ p) (hp1 : p * s ≤ A * 4294967296) (hp2 : A * 4294967296 < (p + 1) * s)
    (hq0 : 0 ≤ q) (hq1 : q * s ≤ B * 4294967296) (hq2 : B * 4294967296 < (q + 1) * s) (ht : Rt t (p * p + q * q)) : 4294963200 ≤ t ∧ t ≤ 4294971392 := by
  have hAs := abs_le_rt hA hs
  have hBs := abs_le_rt (A := B) (B := A) hB (by rw [Int.add_comm]; exact hs)
  have hs0 : 0 < s * s := Int.mul_pos (by omega) (by omega)
  have hps : 0 ≤ p * s := Int.mul_nonneg hp0 (by omega)
  have hqs : 0 ≤ q * s := Int.mul_nonneg hq0 (by omega)
  have hpD : p ≤ 4294967296 := by
    have : p * s ≤ 4294967296 * s := by omega
    exact Int.le_of_mul_le_mul_right this (by omega)
  have hqD : q ≤ 4294967296 := by
    have : q * s ≤ 4294967296 * s := by omega
    exact Int.le_of_mul_le_mul_right this (by omega)
  constructor
  · refine rt_le ht (by decide) ?_
    have h1 := sq_le (a := A * 4294967296) (b := (p + 1) * s) (by omega) (by omega)
    have h2 := sq_le (a := B * 4294967296) (b := (q + 1) * s) (by omega) (by omega)
    have h3 : (4294967296 * 4294967296) * (s * s) ≤ ((p + 1) * (p + 1) + (q + 1) * (q + 1)) * (s * s) := by
      have e1 : A * 4294967296 * (A * 4294967296) = 18446744073709551616 * (A * A) := by grind
      have e2 : B * 4294967296 * (B * 4294967296) = 18446744073709551616 * (B * B) := by grind
      have e3 : (p + 1) * s * ((p + 1) * s) = (p + 1) * (p + 1) * (s * s) := by grind
      have e4 : (q + 1) * s * ((q + 1) * s) = (q + 1) * (q + 1) * (s * s) := by grind
      have e5 : ((p + 1) * (p + 1) + (q + 1) * (q + 1)) * (s * s) = (p + 1) * (p + 1) * (s * s) + (q + 1) * (q + 1) * (s * s) := by grind
      have := hs.2.1
      omega
    have h4 : 4294967296 * 4294967296 ≤ (p + 1) * (p + 1) + (q + 1) * (q + 1) := Int.le_of_mul_le_mul_right h3 hs0
    have e6 : (p + 1) * (p + 1) = p * p + 2 * p + 1 := by grind
    have e7 : (q + 1) * (q + 1) = q * q + 2 * q + 1 := by grind
    omega
  · have hlt : t < 4294971393 := by
      refine rt_lt ht (by decide) ?_
      have h1 := sq_le (a := p * s) (b := A * 4294967296) hps hp1
      have h2 := sq_le (a := q * s) (b := B * 4294967296) hqs hq1
      have h3 := sq_le (a := 4294967296 * (s + 1)) (b := 4294971393 * s) (by omega) (by omega)
      have h4 : (p * p + q * q) * (s * s) < 4294971393 * 4294971393 * (s * s) := by
        have e1 : A * 4294967296 * (A * 4294967296) = 18446744073709551616 * (A * A) := by grind
        have e2 : B * 4294967296 * (B * 4294967296) = 18446744073709551616 * (B * B) := by grind
        have e3 : p * s * (p * s) = p * p * (s * s) := by grind
        have e4 : q * s * (q * s) = q * q * (s * s) := by grind
        have e5 : (p * p + q * q) * (s * s) = p * p * (s * s) + q * q * (s * s) := by grind
        have e6 : 4294967296 * (s + 1) * (4294967296 * (s + 1)) = 18446744073709551616 * ((s + 1) * (s + 1)) := by grind
        have e7 : 4294971393 * s * (4294971393 * s) = 4294971393 * 4294971393 * (s * s) := by grind
        have := hs.2.2
        omega
      exact Int.lt_of_mul_lt_mul_right h4 (by omega)
    omega
/-- A quotient with the sign of what was divided. -/
def sgq (a n : Int) : Int := if a < 0 then -(qt a n) else qt a n
theorem sgq_sq (a n : Int) : sgq a n * sgq a n = qt a n * qt a n := by
  unfold sgq
  split <;> grind
theorem unit_val {A B : Int} (hA : -1125899906842624 ≤ A ∧ A ≤ 1125899906842624) (hB : -1125899906842624 ≤ B ∧ B ≤ 1125899906842624) (hbig : 16777216 ≤ (A.natAbs : Int) ∨ 16777216 ≤ (B.natAbs : Int)) :
    ∃ s, Rt s (A * A + B * B) ∧ 16777216 ≤ s ∧ s < 2251799813685248 ∧ plane_Len ⟨⟨A, false⟩, ⟨B, false⟩⟩ = ⟨s, false⟩ ∧
      (if (plane_Len ⟨⟨A, false⟩, ⟨B, false⟩⟩).F = true then ((⟨⟨0, false⟩, ⟨0, false⟩⟩ : Vec), false) else if (plane_Len ⟨⟨A, false⟩, ⟨B, false⟩⟩).V = 0 then ((⟨⟨0, false⟩, ⟨0, false⟩⟩ : Vec), false) else
        ((⟨fixed_Div ⟨A, false⟩ (plane_Len ⟨⟨A, false⟩, ⟨B, false⟩⟩), fixed_Div ⟨B, false⟩ (plane_Len ⟨⟨A, false⟩, ⟨B, false⟩⟩)⟩ : Vec), true)) = (⟨⟨sgq A s, false⟩, ⟨sgq B s, false⟩⟩, true) ∧
      (qt A s ≤ 4294967296 ∧ qt B s ≤ 4294967296) := by
  have iA : I64 (⟨A, false⟩ : Num).V := ⟨by simp only []; omega, by simp only []; omega⟩
  have iB : I64 (⟨B, false⟩ : Num).V := ⟨by simp only []; omega, by simp only []; omega⟩
  have sA : fixed_sound (⟨A, false⟩ : Num) = ⟨A, false⟩ := snd_id (by simp only []; omega)
  have sB : fixed_sound (⟨B, false⟩ : Num) = ⟨B, false⟩ := snd_id (by simp only []; omega)
  obtain ⟨s, hs, -, -, e1, -⟩ := hypot_eq iA iB
  rw [sA, sB] at hs e1
  simp only [Bool.or_self] at hs e1
  have eA := sq_nat A
  have eB := sq_nat B
  have hs' : Rt s ((A.natAbs : Int) * (A.natAbs : Int) + (B.natAbs : Int) * (B.natAbs : Int)) := by rw [← eA, ← eB]; exact hs
  have hAs : (A.natAbs : Int) ≤ s := abs_le_rt (by omega) hs'
  have hBs : (B.natAbs : Int) ≤ s := abs_le_rt (B := (A.natAbs : Int)) (by omega) (by rw [Int.add_comm]; exact hs')
  have hs24 : 16777216 ≤ s := by omega
  have hup : s < 2251799813685248 := by
    refine rt_lt hs' (by decide) ?_
    have h1 := sq_le (a := (A.natAbs : Int)) (b := 1125899906842624) (by omega) (by omega)
    have h2 := sq_le (a := (B.natAbs : Int)) (b := 1125899906842624) (by omega) (by omega)
    omega
  have hlen : plane_Len ⟨⟨A, false⟩, ⟨B, false⟩⟩ = ⟨s, false⟩ := by
    show fixed_Hypot ⟨A, false⟩ ⟨B, false⟩ = _
    rw [e1, sat_F _ (by omega) (by omega)]
  have is : I64 (⟨s, false⟩ : Num).V := ⟨by simp only []; omega, by simp only []; omega⟩
  have ss : fixed_sound (⟨s, false⟩ : Num) = ⟨s, false⟩ := snd_id (by simp only []; omega)
  have qA := qt_le (a := A) (n := s) (by omega) hAs
  have qB := qt_le (a := B) (n := s) (by omega) hBs
  have dA : fixed_Div ⟨A, false⟩ ⟨s, false⟩ = ⟨sgq A s, false⟩ := by
    rw [(div_eq iA is).2.2.1]
    unfold divN
    rw [sA, ss]
    simp only []
    rw [rat_pos (by omega) (by omega)]
    rfl
  have dB : fixed_Div ⟨B, false⟩ ⟨s, false⟩ = ⟨sgq B s, false⟩ := by
    rw [(div_eq iB is).2.2.1]
    unfold divN
    rw [sB, ss]
    simp only []
    rw [rat_pos (by omega) (by omega)]
    rfl
  refine ⟨s, hs, hs24, hup, hlen, ?_, qA, qB⟩
  rw [hlen, if_neg (by simp), if_neg (by simp only []; omega), dA, dB]
/-- What a direction is: that of a vector which is not nought. -/
theorem unit_spec {a b : Int} (ha : -4294967296000 < a ∧ a < 4294967296000) (hb : -4294967296000 < b ∧ b < 4294967296000) (hne : a ≠ 0 ∨ b ≠ 0) :
    ∃ A B s, ((A = a ∧ B = b) ∨ (A = a * 16777216 ∧ B = b * 16777216)) ∧ Rt s (A * A + B * B) ∧ 16777216 ≤ s ∧ s < 2251799813685248 ∧ plane_Unit ⟨⟨a, false⟩, ⟨b, false⟩⟩ = (⟨⟨sgq A s, false⟩, ⟨sgq B s, false⟩⟩, true) ∧ (qt A s ≤ 4294967296 ∧ qt B s ≤ 4294967296) := by
  obtain ⟨f1, f2⟩ := fault_eq [(⟨⟨a, false⟩, ⟨b, false⟩⟩ : Vec)] (by simp)
  have hf : plane_Fault [(⟨⟨a, false⟩, ⟨b, false⟩⟩ : Vec)] = false := by
    rw [f2]
    simp only [List.any_cons, List.any_nil, Bool.or_false]
    exact fl_plain rfl rfl (by simp only []; omega) (by simp only []; omega)
  have wa : IntKind.i64.wrap (0 - a) = 0 - a := i64_id ⟨by omega, by omega⟩
  have wb : IntKind.i64.wrap (0 - b) = 0 - b := i64_id ⟨by omega, by omega⟩
  unfold plane_Unit
  simp only []
  rw [hf, wa, wb]
  simp only [Bool.false_eq_true, if_false]
  by_cases hs : max (max (max a (0 - a)) b) (0 - b) < 16777216
  · rw [if_pos hs]
    have mx : IntKind.i64.wrap (a * 16777216) = a * 16777216 := i64_id ⟨by omega, by omega⟩
    have my : IntKind.i64.wrap (b * 16777216) = b * 16777216 := i64_id ⟨by omega, by omega⟩
    rw [mx, my]
    obtain ⟨s, h1, h2, h3, h4, h5, h6⟩ := unit_val (A := a * 16777216) (B := b * 16777216) (by omega) (by omega) (by omega)
    exact ⟨_, _, s, .inr ⟨rfl, rfl⟩, h1, h2, h3, h5, h6⟩
  · rw [if_neg hs]
    obtain ⟨s, h1, h2, h3, h4, h5, h6⟩ := unit_val (A := a) (B := b) (by omega) (by omega) (by omega)
    exact ⟨_, _, s, .inl ⟨rfl, rfl⟩, h1, h2, h3, h5, h6⟩
theorem one_num : law02_num 1 = ⟨4294967296, false⟩ := by decide +kernel
theorem near_true {x y m : Int} (h1 : x - y ≤ m) (h2 : y - x ≤ m) (hm : m ≤ 9223372036854775807) (hm0 : 0 ≤ m) : law02_near ⟨x, false⟩ ⟨y, false⟩ m = true := by
  unfold law02_near
  simp only [Bool.false_eq_true, if_false]
  rw [i64_id ⟨by omega, by omega⟩, i64_id ⟨by omega, by omega⟩, if_pos h1]
  exact decide_eq_true h2
theorem unit_zero : P_plane_Unit ⟨⟨0, false⟩, ⟨0, false⟩⟩ ∧ plane_Unit ⟨⟨0, false⟩, ⟨0, false⟩⟩ = (⟨⟨0, false⟩, ⟨0, false⟩⟩, false) := by decide +kernel
theorem units_main {a b : Int} (ha : -4294967296000 < a ∧ a < 4294967296000) (hb : -4294967296000 < b ∧ b < 4294967296000) (hne : a ≠ 0 ∨ b ≠ 0) :
    let v : Vec := ⟨⟨a, false⟩, ⟨b, false⟩⟩
    let u := plane_Unit v
    u.2 = true ∧ P_plane_Len u.1 ∧ law02_near (plane_Len u.1) (law02_num 1) 4096 = true ∧ P_plane_Len v ∧ P_plane_Scale u.1 (plane_Len v) ∧
      (decide (a > 0) ≠ decide (u.1.X.V > 0) → u.1.X.V = 0 ∧ law02_near (plane_Scale u.1 (plane_Len v)).X v.X 1048576 = true) := by
  obtain ⟨A, B, s, hAB, hs, h24, hup, hu, hqA, hqB⟩ := unit_spec ha hb hne
  obtain ⟨p0, p1, p2⟩ := qt_spec (a := A) (n := s) (by omega)
  obtain ⟨q0, q1, q2⟩ := qt_spec (a := B) (n := s) (by omega)
  have iv : IV (⟨⟨a, false⟩, ⟨b, false⟩⟩ : Vec) := ⟨⟨by simp only []; omega, by simp only []; omega⟩, ⟨by simp only []; omega, by simp only []; omega⟩⟩
  have bA : -4294967296 ≤ sgq A s ∧ sgq A s ≤ 4294967296 := by unfold sgq; split <;> omega
  have bB : -4294967296 ≤ sgq B s ∧ sgq B s ≤ 4294967296 := by unfold sgq; split <;> omega
  have iu : IV (⟨⟨sgq A s, false⟩, ⟨sgq B s, false⟩⟩ : Vec) := ⟨⟨by simp only []; omega, by simp only []; omega⟩, ⟨by simp only []; omega, by simp only []; omega⟩⟩
  obtain ⟨l1, -, -, l4⟩ := len_eq iv
  obtain ⟨k1, -, -, -⟩ := len_eq iu
  simp only []
  rw [hu]
  simp only []
  have eA := sq_nat A
  have eB := sq_nat B
  have hs' : Rt s ((A.natAbs : Int) * (A.natAbs : Int) + (B.natAbs : Int) * (B.natAbs : Int)) := by rw [← eA, ← eB]; exact hs
  have hlenF : (plane_Len ⟨⟨a, false⟩, ⟨b, false⟩⟩).F = false := by
    obtain ⟨s0, hs0, -, -, e1, -⟩ := hypot_eq iv.1 iv.2
    rw [snd_id (x := ⟨a, false⟩) (by simp only []; omega), snd_id (x := ⟨b, false⟩) (by simp only []; omega)] at hs0 e1
    simp only [Bool.or_self] at hs0 e1
    show (fixed_Hypot ⟨a, false⟩ ⟨b, false⟩).F = false
    have : s0 < 17592186044416 := by
      refine rt_lt hs0 (by decide) ?_
      have h1 := sq_le (a := (a.natAbs : Int)) (b := 4294967296000) (by omega) (by omega)
      have h2 := sq_le (a := (b.natAbs : Int)) (b := 4294967296000) (by omega) (by omega)
      rw [← sq_nat] at h1 h2
      omega
    rw [e1, sat_F _ (by have := hs0.1; omega) (by omega)]
  refine ⟨trivial, k1, ?_, l1, (scale_eq iu l4).1, ?_⟩
  · obtain ⟨t, ht, -, -, e1, -⟩ := hypot_eq iu.1 iu.2
    rw [snd_id (x := ⟨sgq A s, false⟩) (by simp only []; omega), snd_id (x := ⟨sgq B s, false⟩) (by simp only []; omega)] at ht e1
    simp only [Bool.or_self] at ht e1
    rw [sgq_sq, sgq_sq] at ht
    obtain ⟨t1, t2⟩ := unit_len (by omega) (by omega) hs' h24 p0 p1 p2 q0 q1 q2 ht
    show law02_near (fixed_Hypot ⟨sgq A s, false⟩ ⟨sgq B s, false⟩) _ _ = true
    rw [e1, sat_F _ (by omega) (by omega), one_num]
    exact near_true (by omega) (by omega) (by decide) (by decide)
  · intro hd
    have hz : sgq A s = 0 ∧ a ≤ 1048576 ∧ -1048576 ≤ a := by
      have hsig : (0 < a → 0 ≤ sgq A s) ∧ (a ≤ 0 → sgq A s ≤ 0) := by
        unfold sgq
        rcases hAB with ⟨e1, -⟩ | ⟨e1, -⟩
        · subst e1
          refine ⟨fun h => by rw [if_neg (by omega)]; exact p0, fun h => ?_⟩
          split
          · omega
          · have : A = 0 := by omega
            subst this
            unfold qt
            simp
        · refine ⟨fun h => by rw [if_neg (by omega)]; exact p0, fun h => ?_⟩
          split
          · omega
          · have : A = 0 := by omega
            subst this
            unfold qt
            simp
      by_cases hpos : 0 < a
      · have h1 := hsig.1 hpos
        have h2 : ¬ (sgq A s > 0) := fun h => hd (by rw [decide_eq_true (show a > 0 from hpos), decide_eq_true h])
        have h3 : qt A s = 0 := by
          unfold sgq at h1 h2
          split at h1
          · rename_i hneg
            rw [if_pos hneg] at h2
            omega
          · rename_i hneg
            rw [if_neg hneg] at h2
            omega
        rw [h3] at p2
        refine ⟨by omega, ?_, by omega⟩
        rcases hAB with ⟨e1, -⟩ | ⟨e1, -⟩ <;> omega
      · have h1 := hsig.2 (by omega)
        exfalso
        apply hd
        rw [decide_eq_false (show ¬ (a > 0) from hpos), decide_eq_false (by omega)]
    refine ⟨hz.1, ?_⟩
    show law02_near (fixed_Mul ⟨sgq A s, false⟩ (plane_Len ⟨⟨a, false⟩, ⟨b, false⟩⟩)) ⟨a, false⟩ 1048576 = true
    rw [hz.1, (mul_eq (x := ⟨0, false⟩) ⟨by decide, by decide⟩ l4).2.1]
    have hfs : (fixed_sound (plane_Len ⟨⟨a, false⟩, ⟨b, false⟩⟩)).F = false := by
      obtain ⟨s0, hs0, -, -, e1, -⟩ := hypot_eq iv.1 iv.2
      have e2 : plane_Len ⟨⟨a, false⟩, ⟨b, false⟩⟩ = sat s0 ((fixed_sound (⟨a, false⟩ : Num)).F || (fixed_sound (⟨b, false⟩ : Num)).F) := e1
      have : (plane_Len ⟨⟨a, false⟩, ⟨b, false⟩⟩).V ≠ -9223372036854775808 := by
        rw [e2]
        unfold sat
        split
        · decide
        · split
          · decide
          · simp only []; have := hs0.1; omega
      rw [snd_id this]
      exact hlenF
    unfold mulN
    rw [hfs, snd_id (x := ⟨0, false⟩) (by decide)]
    simp only [Int.zero_mul, Bool.or_self]
    rw [show (0 : Int).tdiv 4294967296 = 0 from rfl, sat_F _ (by decide) (by decide)]
    exact near_true (by omega) (by omega) (by decide) (by decide)
theorem units_true {x y : Int} (hx : I64 x) (hy : I64 y) : P_law02_PlaneUnits x y := by
  obtain ⟨a1, a2, a3⟩ := within_spec (k := 1000) hx hy (by decide)
  obtain ⟨-, -, -, e1, e2⟩ := num_spec (k := 1000) hx (by decide)
  obtain ⟨-, -, -, e3, e4⟩ := num_spec (k := 1000) hy (by decide)
  generalize hA : x.tmod (1000 * 4294967296) = a at *
  generalize hB : y.tmod (1000 * 4294967296) = b at *
  intro r0 h0
  rw [a2] at h0
  subst h0
  refine ⟨a1, ?_⟩
  intro r1 h1
  subst h1
  rw [a2] at a3
  refine ⟨(unit_eq a3).1, ?_⟩
  simp only []
  by_cases hz : a = 0 ∧ b = 0
  · obtain ⟨rfl, rfl⟩ := hz
    rw [if_pos rfl, if_pos rfl, unit_zero.2]
    refine ⟨by decide, fun r2 h2 => ⟨vec_eq (by rw [h2, vec0]), fun r3 h3 => h3⟩⟩
  · have main := units_main (a := a) (b := b) (by omega) (by omega) (by omega)
    simp only [] at main
    obtain ⟨m1, m2, m3, m4, m5, m6⟩ := main
    by_cases ha0 : a = 0
    · rw [if_pos ha0, if_neg (fun h => hz ⟨ha0, h⟩)]
      refine ⟨m1, fun r2 h2 => ⟨m2, fun r3 h3 r4 h4 => ⟨by rw [h4, h2, h3]; exact m3, fun r5 h5 => ⟨m4, fun r6 h6 => ⟨by rw [h5]; exact m5, ?_⟩⟩⟩⟩⟩
      split
      · trivial
      · rename_i hd
        obtain ⟨n1, n2⟩ := m6 hd
        exact ⟨n1, fun r7 h7 => ⟨by rw [h7, h6, h5]; exact n2, fun r8 h8 => h8⟩⟩
    · rw [if_neg ha0]
      refine ⟨m1, fun r2 h2 => ⟨m2, fun r3 h3 r4 h4 => ⟨by rw [h4, h2, h3]; exact m3, fun r5 h5 => ⟨m4, fun r6 h6 => ⟨by rw [h5]; exact m5, ?_⟩⟩⟩⟩⟩
      split
      · trivial
      · rename_i hd
        obtain ⟨n1, n2⟩ := m6 hd
        exact ⟨n1, fun r7 h7 => ⟨by rw [h7, h6, h5]; exact n2, fun r8 h8 => h8⟩⟩
end Go.Bag

