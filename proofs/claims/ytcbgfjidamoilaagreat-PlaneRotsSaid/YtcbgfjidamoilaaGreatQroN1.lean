/- Rotations: the program's and the reference's are one. -/
import Derived.Test.YtcbgfjidamoilaaGreatQroM16
set_option linter.unusedVariables false
namespace Go.Bag
open Go Go.AbsK

theorem int2 {n : Int} (h : I64 n) : ref01_Int n = fixed_Int n := by rw [int_eq h, ref_int_eq h]
theorem wrap_same {x : Num} (h : I64 x.V) : ref01_Wrap x = fixed_Wrap x ∧ (fixed_Wrap x).V ≤ 13493037704 := by
  obtain ⟨⟨h1, h2⟩, h3⟩ := snd_I64 h
  have t1 := Int.tmod_lt_of_pos (fixed_sound x).V (show (0 : Int) < 26986075409 by decide)
  have t2 : -26986075409 < (fixed_sound x).V.tmod 26986075409 := by
    have := Int.tmod_lt_of_pos (-(fixed_sound x).V) (show (0 : Int) < 26986075409 by decide)
    rw [Int.neg_tmod] at this
    omega
  unfold ref01_Wrap fixed_Wrap
  rw [whole_eq]
  simp only []
  by_cases c1 : (fixed_sound x).V.tmod 26986075409 > 13493037704
  · rw [if_pos c1, if_pos c1]
    have w := i64_id (n := (fixed_sound x).V.tmod 26986075409 - 26986075409) ⟨by omega, by omega⟩
    rw [w, if_neg (by omega)]
    exact ⟨rfl, by simp only []; omega⟩
  · rw [if_neg c1, if_neg c1]
    by_cases c2 : (fixed_sound x).V.tmod 26986075409 < -13493037704
    · rw [if_pos c2]
      have w := i64_id (n := (fixed_sound x).V.tmod 26986075409 + 26986075409) ⟨by omega, by omega⟩
      rw [w]
      exact ⟨rfl, by simp only []; omega⟩
    · rw [if_neg c2]
      exact ⟨rfl, by simp only []; omega⟩
theorem refmax2 (x y : Num) : P_ref01_Max [x, y] ∧ ref01_Max [x, y] = ⟨max (fixed_sound x).V (fixed_sound y).V, (fixed_sound x).F || (fixed_sound y).F⟩ := by
  obtain ⟨f1, f2⟩ := flagged_spec [x, y] (by simp)
  have n0 : nth [x, y] 0 = x := rfl
  have n1 : nth [x, y] 1 = y := rfl
  have s2 : ∀ c, ref01_Max_L0_step [x, y] (c, 2) = some (.inr c) := by
    intro c
    unfold ref01_Max_L0_step
    rw [if_neg (show ¬ ((c, (2 : Int)).2 < (([x, y].length : Nat) : Int)) from (by decide : ¬ ((2 : Int) < ((2 : Nat) : Int))))]
  have s1 : ref01_Max_L0_step [x, y] ((fixed_sound x).V, 1) = some (.inl (max (fixed_sound x).V (fixed_sound y).V, 2)) := by
    unfold ref01_Max_L0_step
    simp only []
    rw [n1, whole_eq, if_pos (show (1 : Int) < (([x, y].length : Nat) : Int) from (by decide : (1 : Int) < ((2 : Nat) : Int))), if_pos (show (0 : Int) ≤ 1 ∧ (1 : Int) < (([x, y].length : Nat) : Int) from (by decide : (0 : Int) ≤ 1 ∧ (1 : Int) < ((2 : Nat) : Int)))]
    have w : IntKind.i64.wrap (1 + 1) = 2 := i64_id ⟨by decide, by decide⟩
    simp only []
    rw [w]
    by_cases h : (fixed_sound y).V > (fixed_sound x).V
    · rw [if_pos h, Int.max_eq_right (by omega)]
    · rw [if_neg h, Int.max_eq_left (by omega)]
  have key : iterO (ref01_Max_L0_step [x, y]) NN ((ref01_whole (nth [x, y] 0)).1, 1) = some (max (fixed_sound x).V (fixed_sound y).V) := by
    rw [n0, whole_eq, show NN = 999998 + 1 + 1 from rfl, iterO_inl s1, iterO_inr (s2 _)]
  unfold P_ref01_Max ref01_Max
  rw [if_neg (by simp), if_neg (by simp)]
  simp only []
  rw [key, f2]
  refine ⟨⟨by simp, rfl, f1, trivial⟩, ?_⟩
  simp [sumF]
theorem refmin2 (x y : Num) : P_ref01_Min [x, y] ∧ ref01_Min [x, y] = ⟨min (fixed_sound x).V (fixed_sound y).V, (fixed_sound x).F || (fixed_sound y).F⟩ := by
  obtain ⟨f1, f2⟩ := flagged_spec [x, y] (by simp)
  have n0 : nth [x, y] 0 = x := rfl
  have n1 : nth [x, y] 1 = y := rfl
  have s2 : ∀ c, ref01_Min_L0_step [x, y] (c, 2) = some (.inr c) := by
    intro c
    unfold ref01_Min_L0_step
    rw [if_neg (show ¬ ((c, (2 : Int)).2 < (([x, y].length : Nat) : Int)) from (by decide : ¬ ((2 : Int) < ((2 : Nat) : Int))))]
  have s1 : ref01_Min_L0_step [x, y] ((fixed_sound x).V, 1) = some (.inl (min (fixed_sound x).V (fixed_sound y).V, 2)) := by
    unfold ref01_Min_L0_step
    simp only []
    rw [n1, whole_eq, if_pos (show (1 : Int) < (([x, y].length : Nat) : Int) from (by decide : (1 : Int) < ((2 : Nat) : Int))), if_pos (show (0 : Int) ≤ 1 ∧ (1 : Int) < (([x, y].length : Nat) : Int) from (by decide : (0 : Int) ≤ 1 ∧ (1 : Int) < ((2 : Nat) : Int)))]
    have w : IntKind.i64.wrap (1 + 1) = 2 := i64_id ⟨by decide, by decide⟩
    simp only []
    rw [w]
    by_cases h : (fixed_sound y).V < (fixed_sound x).V
    · rw [if_pos h, Int.min_eq_right (by omega)]
    · rw [if_neg h, Int.min_eq_left (by omega)]
  have key : iterO (ref01_Min_L0_step [x, y]) NN ((ref01_whole (nth [x, y] 0)).1, 1) = some (min (fixed_sound x).V (fixed_sound y).V) := by
    rw [n0, whole_eq, show NN = 999998 + 1 + 1 from rfl, iterO_inl s1, iterO_inr (s2 _)]
  unfold P_ref01_Min ref01_Min
  rw [if_neg (by simp), if_neg (by simp)]
  simp only []
  rw [key, f2]
  refine ⟨⟨by simp, rfl, f1, trivial⟩, ?_⟩
  simp [sumF]
theorem clamp2 (x y z : Num) : P_ref01_Clamp x y z ∧ ref01_Clamp x y z = fixed_Clamp x y z := by
  obtain ⟨a1, a2⟩ := refmin2 x z
  obtain ⟨b1, b2⟩ := refmax2 y (ref01_Min [x, z])
  obtain ⟨m1, m2⟩ := most2 (o := 1) (x := x) (y := z) (.inl rfl)
  obtain ⟨n1, n2⟩ := most2 (o := -1) (x := y) (y := fixed_most 1 [x, z]) (.inr rfl)
  refine ⟨⟨a1, b1, trivial⟩, ?_⟩
  show ref01_Max [y, ref01_Min [x, z]] = fixed_most (-1) [y, fixed_most 1 [x, z]]
  rw [b2, n2, m2, a2]
  rfl
theorem step2 {t y : Num} {n : Int} (ht : I64 t.V) (hy : I64 y.V) (hn : I64 n) : P_ref01_Div (ref01_Mul (ref01_Mul t y) y) (ref01_Int n) ∧ ref01_Neg (ref01_Div (ref01_Mul (ref01_Mul t y) y) (ref01_Int n)) = stepT t y n := by
  obtain ⟨-, a2, a3⟩ := mul2 ht hy
  obtain ⟨-, b2, b3⟩ := mul2 a3 hy
  obtain ⟨-, c2, c3, c4⟩ := div2 b3 (int_I64 hn)
  rw [a2, b2, int2 hn]
  exact ⟨c2, by rw [c3, (neg2 c4).1]; rfl⟩
theorem add2 {x y : Num} (hx : I64 x.V) (hy : I64 y.V) : P_ref01_Add x y ∧ ref01_Add x y = fixed_Add x y := by
  obtain ⟨a, b, c, d⟩ := sum2 [x, y] (by simp) (all2 hx hy)
  exact ⟨⟨b, trivial⟩, c⟩
/-- A round of the reference's loop. -/
def rsinStep (y : Num) (s : Int × Bool × Int × Bool × Int) : Option ((Int × Bool × Int × Bool × Int) ⊕ (Int × Bool)) := ref01_Sin_L0_3_step y s
theorem rsinStep_in {t y s : Num} {k n : Int} (hn : IntKind.i64.wrap (IntKind.i64.wrap (2 * k) * IntKind.i64.wrap (IntKind.i64.wrap (2 * k) + 1)) = n) (hk : k ≤ 8) (hi : I64 n) (ht : I64 t.V) (hy : I64 y.V) (hs : I64 s.V) :
    rsinStep y (t.V, t.F, s.V, s.F, k) = some (.inl ((stepT t y n).V, (stepT t y n).F, (fixed_Add s (stepT t y n)).V, (fixed_Add s (stepT t y n)).F, IntKind.i64.wrap (k + 1))) := by
  obtain ⟨a, b⟩ := step2 ht hy hi
  obtain ⟨-, -, -, h4⟩ := stepP ht hy hi
  obtain ⟨c, d⟩ := add2 hs h4
  rw [← b] at c d ⊢
  rw [← d]
  unfold rsinStep ref01_Sin_L0_3_step
  simp only []
  rw [hn, if_pos hk, if_pos a]
  exact if_pos c
theorem rserP {y : Num} (hy : I64 y.V) : iterO (rsinStep y) NN (y.V, y.F, y.V, y.F, 1) = some ((sinSum y).V, (sinSum y).F) ∧ I64 (sinSum y).V := by
  have h0 := hy
  have q0 := hy
  obtain ⟨-, -, -, h1⟩ := stepP (t := y) (y := y) (n := 6) h0 hy ⟨by decide, by decide⟩
  obtain ⟨-, q1⟩ := addP (x := y) (y := ser1 y) q0 h1
  obtain ⟨-, -, -, h2⟩ := stepP (t := ser1 y) (y := y) (n := 20) h1 hy ⟨by decide, by decide⟩
  obtain ⟨-, q2⟩ := addP (y := ser2 y) q1 h2
  obtain ⟨-, -, -, h3⟩ := stepP (t := ser2 y) (y := y) (n := 42) h2 hy ⟨by decide, by decide⟩
  obtain ⟨-, q3⟩ := addP (y := ser3 y) q2 h3
  obtain ⟨-, -, -, h4⟩ := stepP (t := ser3 y) (y := y) (n := 72) h3 hy ⟨by decide, by decide⟩
  obtain ⟨-, q4⟩ := addP (y := ser4 y) q3 h4
  obtain ⟨-, -, -, h5⟩ := stepP (t := ser4 y) (y := y) (n := 110) h4 hy ⟨by decide, by decide⟩
  obtain ⟨-, q5⟩ := addP (y := ser5 y) q4 h5
  obtain ⟨-, -, -, h6⟩ := stepP (t := ser5 y) (y := y) (n := 156) h5 hy ⟨by decide, by decide⟩
  obtain ⟨-, q6⟩ := addP (y := ser6 y) q5 h6
  obtain ⟨-, -, -, h7⟩ := stepP (t := ser6 y) (y := y) (n := 210) h6 hy ⟨by decide, by decide⟩
  obtain ⟨-, q7⟩ := addP (y := ser7 y) q6 h7
  obtain ⟨-, -, -, h8⟩ := stepP (t := ser7 y) (y := y) (n := 272) h7 hy ⟨by decide, by decide⟩
  obtain ⟨-, q8⟩ := addP (y := ser8 y) q7 h8
  have s0 := rsinStep_in (t := y) (y := y) (s := y) (k := 1) (n := 6) rfl (by decide) ⟨by decide, by decide⟩ h0 hy q0
  have s1 := rsinStep_in (t := ser1 y) (y := y) (k := 2) (n := 20) rfl (by decide) ⟨by decide, by decide⟩ h1 hy q1
  have s2 := rsinStep_in (t := ser2 y) (y := y) (k := 3) (n := 42) rfl (by decide) ⟨by decide, by decide⟩ h2 hy q2
  have s3 := rsinStep_in (t := ser3 y) (y := y) (k := 4) (n := 72) rfl (by decide) ⟨by decide, by decide⟩ h3 hy q3
  have s4 := rsinStep_in (t := ser4 y) (y := y) (k := 5) (n := 110) rfl (by decide) ⟨by decide, by decide⟩ h4 hy q4
  have s5 := rsinStep_in (t := ser5 y) (y := y) (k := 6) (n := 156) rfl (by decide) ⟨by decide, by decide⟩ h5 hy q5
  have s6 := rsinStep_in (t := ser6 y) (y := y) (k := 7) (n := 210) rfl (by decide) ⟨by decide, by decide⟩ h6 hy q6
  have s7 := rsinStep_in (t := ser7 y) (y := y) (k := 8) (n := 272) rfl (by decide) ⟨by decide, by decide⟩ h7 hy q7
  have s8 : rsinStep y ((ser8 y).V, (ser8 y).F, (sinSum y).V, (sinSum y).F, 9) = some (.inr ((sinSum y).V, (sinSum y).F)) := by
    unfold rsinStep ref01_Sin_L0_3_step
    simp only []
    rw [if_neg (by decide)]
  refine ⟨?_, q8⟩
  have w : ∀ k : Int, 1 ≤ k → k ≤ 8 → IntKind.i64.wrap (k + 1) = k + 1 := fun k h1 h2 => i64_id ⟨by omega, by omega⟩
  rw [w 1 (by decide) (by decide)] at s0
  rw [w 2 (by decide) (by decide)] at s1
  rw [w 3 (by decide) (by decide)] at s2
  rw [w 4 (by decide) (by decide)] at s3
  rw [w 5 (by decide) (by decide)] at s4
  rw [w 6 (by decide) (by decide)] at s5
  rw [w 7 (by decide) (by decide)] at s6
  rw [w 8 (by decide) (by decide)] at s7
  rw [show NN = 999991 + 1 + 1 + 1 + 1 + 1 + 1 + 1 + 1 + 1 from rfl, iterO_inl s0]
  refine (iterO_inl s1).trans ?_
  refine (iterO_inl s2).trans ?_
  refine (iterO_inl s3).trans ?_
  refine (iterO_inl s4).trans ?_
  refine (iterO_inl s5).trans ?_
  refine (iterO_inl s6).trans ?_
  refine (iterO_inl s7).trans ?_
  exact iterO_inr s8
theorem rsin_close {S : Num} (hs : I64 S.V) {q : Option (Int × Bool)} (hq : q = some (S.V, S.F)) :
    (q.isSome = true ∧ (P_ref01_Clamp (⟨(q.getD default).1, (q.getD default).2⟩ : Num) (⟨(-4294967296), false⟩ : Num) (⟨4294967296, false⟩ : Num) ∧ True)) ∧ ref01_Clamp (⟨(q.getD default).1, (q.getD default).2⟩ : Num) (⟨(-4294967296), false⟩ : Num) (⟨4294967296, false⟩ : Num) = fixed_Clamp S (fixed_Int (-1)) (fixed_Int 1) := by
  subst hq
  have i1 : fixed_Int (-1) = ⟨-4294967296, false⟩ := by decide +kernel
  have i2 : fixed_Int 1 = ⟨4294967296, false⟩ := by decide +kernel
  rw [i1, i2]
  obtain ⟨a, b⟩ := clamp2 (⟨S.V, S.F⟩ : Num) (⟨(-4294967296), false⟩ : Num) (⟨4294967296, false⟩ : Num)
  exact ⟨⟨rfl, a, trivial⟩, b⟩
theorem rsin_eq {x : Num} (h : I64 x.V) : P_ref01_Sin x ∧ ref01_Sin x = fixed_Sin x := by
  obtain ⟨w1, w2⟩ := wrap_same h
  have hw := wrap_I64 h
  rw [(sin_eq h).2]
  unfold P_ref01_Sin ref01_Sin foldA
  simp only []
  rw [w1]
  by_cases h1 : (fixed_Wrap x).V > 6746518852
  · have wr : IntKind.i64.wrap (13493037704 - (fixed_Wrap x).V) = 13493037704 - (fixed_Wrap x).V := i64_id ⟨by omega, by omega⟩
    rw [if_pos h1, if_pos h1, if_pos h1, if_neg (by rw [wr]; omega), if_neg (by rw [wr]; omega), sinC_def]
    obtain ⟨e, k⟩ := rserP (y := ⟨IntKind.i64.wrap (13493037704 - (fixed_Wrap x).V), (fixed_Wrap x).F⟩) (i64_wrap _)
    exact rsin_close k e
  · rw [if_neg h1, if_neg h1, if_neg h1]
    by_cases h2 : (fixed_Wrap x).V < -6746518852
    · rw [if_pos h2, if_pos h2, if_pos h2, sinC_def]
      obtain ⟨e, k⟩ := rserP (y := ⟨IntKind.i64.wrap (-13493037704 - (fixed_Wrap x).V), (fixed_Wrap x).F⟩) (i64_wrap _)
      exact rsin_close k e
    · rw [if_neg h2, if_neg h2, if_neg h2, sinC_def]
      obtain ⟨e, k⟩ := rserP (y := fixed_Wrap x) (wrap_I64 h)
      exact rsin_close k e
theorem rcos_eq {x : Num} (h : I64 x.V) : P_ref01_Cos x ∧ ref01_Cos x = fixed_Cos x := by
  obtain ⟨w1, w2⟩ := wrap_same h
  have hof : fixed_Of 6746518852 = ⟨6746518852, false⟩ := by decide +kernel
  have hq : I64 (⟨6746518852, false⟩ : Num).V := ⟨by decide, by decide⟩
  obtain ⟨a1, a2⟩ := add2 (x := fixed_Wrap x) (y := ⟨6746518852, false⟩) (wrap_I64 h) hq
  obtain ⟨-, a4⟩ := addP (x := fixed_Wrap x) (y := ⟨6746518852, false⟩) (wrap_I64 h) hq
  obtain ⟨b1, b2⟩ := rsin_eq a4
  unfold P_ref01_Cos ref01_Cos fixed_Cos
  simp only []
  rw [w1, hof, a2]
  exact ⟨⟨a1, b1, trivial⟩, b2⟩
theorem angle_eq {x : Num} (h : I64 x.V) : P_ref02_Angle x ∧ ref02_Angle x = plane_Angle x := by
  obtain ⟨a1, a2⟩ := rcos_eq h
  obtain ⟨b1, b2⟩ := rsin_eq h
  refine ⟨⟨a1, b1, trivial⟩, ?_⟩
  unfold ref02_Angle plane_Angle
  simp only []
  rw [a2, b2]
theorem hypot2 {x y : Num} (hx : I64 x.V) (hy : I64 y.V) : P_fixed_Hypot x y ∧ P_ref01_Hypot x y ∧ ref01_Hypot x y = fixed_Hypot x y ∧ I64 (fixed_Hypot x y).V := by
  obtain ⟨s, -, p1, p2, e1, e2⟩ := hypot_eq hx hy
  exact ⟨p1, p2, by rw [e1, e2], by rw [e1]; exact sat_I64 _ _⟩
theorem compose_eq {x y : Rot} (h1 : I64 x.C.V) (h2 : I64 x.S.V) (h3 : I64 y.C.V) (h4 : I64 y.S.V) : P_plane_Compose x y ∧ P_ref02_Compose x y ∧ ref02_Compose x y = plane_Compose x y := by
  obtain ⟨n1, n2⟩ := neg2 h2
  obtain ⟨d1, d2, d3, d4⟩ := dot2 h1 h3 n2 h4
  obtain ⟨e1, e2, e3, e4⟩ := dot2 h2 h3 h1 h4
  obtain ⟨f1, f2, f3, f4⟩ := hypot2 d4 e4
  obtain ⟨p1, p2, p3, p4⟩ := div2 d4 f4
  obtain ⟨q1, q2, q3, q4⟩ := div2 e4 f4
  unfold P_plane_Compose P_ref02_Compose plane_Compose ref02_Compose
  simp only [n1, d3, e3, f3, p3, q3]
  refine ⟨⟨d1, e1, f1, ?_⟩, ⟨d2, e2, f2, ?_⟩, trivial⟩
  · split
    · trivial
    · exact ⟨p1, q1, trivial⟩
  · split
    · trivial
    · exact ⟨p2, q2, trivial⟩
theorem tdiv_nn {a n : Int} (h : 0 ≤ a) (hn : 0 ≤ n) : 0 ≤ a.tdiv n := by
  rw [Int.tdiv_eq_ediv_of_nonneg h]
  exact Int.ediv_nonneg h hn
theorem checkrot_eq {x : Rot} (h1 : I64 x.C.V) (h2 : I64 x.S.V) : P_plane_CheckRot x ∧ P_ref02_CheckRot x ∧ ref02_CheckRot x = plane_CheckRot x := by
  obtain ⟨f1, f2⟩ := fault_eq [(⟨x.C, x.S⟩ : Vec)] (by simp)
  obtain ⟨a1, a2⟩ := flagged_eq h1
  obtain ⟨b1, b2⟩ := flagged_eq h2
  obtain ⟨d1, d2, d3, d4⟩ := dot2 h1 h1 h2 h2
  have hf : plane_Fault [(⟨x.C, x.S⟩ : Vec)] = ((fixed_sound x.C).F || (fixed_sound x.S).F) := by
    rw [f2]
    simp only [List.any_cons, List.any_nil, Bool.or_false]
    rfl
  have hnn : 0 ≤ (fixed_Dot x.C x.C x.S x.S).V := by
    rw [(dot_eq h1 h1 h2 h2).2.2.1]
    unfold dotN sat
    have := tdiv_nn (a := (fixed_sound x.C).V * (fixed_sound x.C).V + (fixed_sound x.S).V * (fixed_sound x.S).V) (n := 4294967296) (by
      have := sq_nonneg (fixed_sound x.C).V
      have := sq_nonneg (fixed_sound x.S).V
      omega) (by decide)
    split
    · decide
    · split
      · omega
      · exact this
  unfold P_plane_CheckRot P_ref02_CheckRot plane_CheckRot ref02_CheckRot
  simp only []
  rw [hf, a2, b2, d3]
  obtain ⟨k1, k2⟩ := d4
  have w1 : IntKind.i64.wrap ((fixed_Dot x.C x.C x.S x.S).V - 4294967296) = (fixed_Dot x.C x.C x.S x.S).V - 4294967296 := i64_id ⟨by omega, by omega⟩
  have w2 : IntKind.i64.wrap (4294967296 - (fixed_Dot x.C x.C x.S x.S).V) = 4294967296 - (fixed_Dot x.C x.C x.S x.S).V := i64_id ⟨by omega, by omega⟩
  rw [w1, w2]
  cases (fixed_sound x.C).F <;> cases (fixed_sound x.S).F <;> simp only [Bool.or_false, Bool.or_true, Bool.false_eq_true, if_false, if_true]
  · refine ⟨⟨f1, d1, trivial⟩, ⟨d2, a1, b1, trivial⟩, ?_⟩
    by_cases c1 : (fixed_Dot x.C x.C x.S x.S).V - 4294967296 > 65536
    · rw [if_pos c1, if_pos c1]
    · rw [if_neg c1, if_neg c1]
      by_cases c2 : (fixed_Dot x.C x.C x.S x.S).V - 4294967296 < -65536
      · rw [if_pos c2, if_pos (by omega)]
      · rw [if_neg c2, if_neg (by omega)]
  · exact ⟨⟨f1, trivial⟩, ⟨d2, a1, b1, trivial⟩, trivial⟩
  · exact ⟨⟨f1, trivial⟩, ⟨d2, a1, trivial⟩, trivial⟩
  · exact ⟨⟨f1, trivial⟩, ⟨d2, a1, trivial⟩, trivial⟩
theorem spin_eq {x : Rot} {y : Num} (h1 : I64 x.C.V) (h2 : I64 x.S.V) (hy : I64 y.V) : P_plane_Spin x y ∧ P_ref02_Spin x y ∧ ref02_Spin x y = plane_Spin x y := by
  obtain ⟨a1, a2, a3⟩ := angleP hy
  obtain ⟨b1, b2⟩ := angle_eq hy
  obtain ⟨c1, c2, c3⟩ := compose_eq a2 a3 h1 h2
  unfold P_plane_Spin P_ref02_Spin plane_Spin ref02_Spin
  simp only [b2]
  exact ⟨⟨a1, c1, trivial⟩, ⟨b1, c2, trivial⟩, c3⟩
theorem rot_eq {a b : Rot} (h : a = b) : ((a.C.V == b.C.V) && ((a.C.F == b.C.F) && ((a.S.V == b.S.V) && ((a.S.F == b.S.F) && true)))) = true := by rw [h]; simp
theorem rots_true {x : Num} {y z : Rot} {u : Vec} (hx : I64 x.V) (h1 : I64 y.C.V) (h2 : I64 y.S.V) (h3 : I64 z.C.V) (h4 : I64 z.S.V) (hu : IV u) : P_law02_PlaneRots x y z u := by
  obtain ⟨a1, -⟩ := angleP hx
  obtain ⟨a2, a3⟩ := angle_eq hx
  obtain ⟨b1, b2, b3⟩ := checkrot_eq h1 h2
  obtain ⟨c1, c2, c3, -⟩ := apply_eq h1 h2 hu
  obtain ⟨d1, d2, d3, -⟩ := back_eq h1 h2 hu
  obtain ⟨e1, e2, e3⟩ := compose_eq h1 h2 h3 h4
  obtain ⟨f1, f2, f3⟩ := spin_eq h1 h2 hx
  exact fun r0 k0 => ⟨a1, fun r1 k1 => ⟨a2, rot_eq (by rw [k0, k1, a3]), fun r2 k2 => ⟨b1, fun r3 k3 => ⟨b2, by rw [k2, k3, b3], fun r4 k4 => ⟨c1, fun r5 k5 => ⟨c2, vec_eq (by rw [k4, k5, c3]), fun r6 k6 => ⟨d1, fun r7 k7 => ⟨d2, vec_eq (by rw [k6, k7, d3]), fun r8 k8 => ⟨e1, fun r9 k9 => ⟨e2, rot_eq (by rw [k8, k9, e3]),
    fun r10 k10 => ⟨f1, fun r11 k11 => ⟨f2, rot_eq (by rw [k10, k11, f3]), fun r12 k12 => k12⟩⟩⟩⟩⟩⟩⟩⟩⟩⟩⟩⟩
end Go.Bag

