/- The sine's series: what the functions under it compute; their conditions hold. -/
import Derived.Test.YtcbgfjidamoilaaGreatQroM14
set_option linter.unusedVariables false
namespace Go.Bag
open Go Go.AbsK

theorem cmpi (x y : Int) : cmp_Compare_int64 x y = if x < y then -1 else if x > y then 1 else 0 := by
  unfold cmp_Compare_int64 cmp_isNaN_int64
  simp only [beq_self_eq_true, Bool.not_true, Bool.false_eq_true, if_false]
/-- The extreme of two values. -/
def ext2 (o a b : Int) : Int := if o = 1 then min a b else max a b
theorem extreme2 {o a b : Int} (ho : o = 1 ∨ o = -1) : P_fixed_extreme_int64 o a [a, b] 1 1 ∧ fixed_extreme_int64 o a [a, b] 1 1 = ext2 o a b := by
  have s1 : ∀ c, fixed_extreme_int64_L0_step o [a, b] 1 1 (c, 1) = some (.inr c) := by
    intro c
    unfold fixed_extreme_int64_L0_step
    rw [if_neg (by simp)]
  have hn : nth [a, b] (((1 : Nat) : Int) + 0) = b := rfl
  have s0 : fixed_extreme_int64_L0_step o [a, b] 1 1 (a, 0) = some (.inl (ext2 o a b, 1)) := by
    unfold fixed_extreme_int64_L0_step
    simp only []
    rw [if_pos (by decide), if_pos (by decide), if_pos (show 1 + (0 : Int).toNat < [a, b].length from Nat.lt_succ_self 1), hn, cmpi]
    have w1 : IntKind.i64.wrap (0 + 1) = 1 := by rw [i64_id ⟨by decide, by decide⟩]; rfl
    rw [w1]
    unfold ext2
    rcases ho with rfl | rfl
    · by_cases h1 : b < a
      · rw [if_pos h1, i64_id ⟨by decide, by decide⟩, if_pos (by decide), if_pos rfl, Int.min_eq_right (Int.le_of_lt h1)]
      · rw [if_neg h1, if_pos rfl, Int.min_eq_left (by omega)]
        by_cases h2 : b > a
        · rw [if_pos h2, i64_id ⟨by decide, by decide⟩, if_neg (by decide)]
        · rw [if_neg h2, i64_id ⟨by decide, by decide⟩, if_neg (by decide)]
    · rw [if_neg (show ¬ ((-1 : Int) = 1) by decide)]
      by_cases h1 : b < a
      · rw [if_pos h1, i64_id ⟨by decide, by decide⟩, if_neg (by decide), Int.max_eq_left (Int.le_of_lt h1)]
      · rw [if_neg h1, Int.max_eq_right (by omega)]
        by_cases h2 : b > a
        · rw [if_pos h2, i64_id ⟨by decide, by decide⟩, if_pos (by decide)]
        · rw [if_neg h2, i64_id ⟨by decide, by decide⟩, if_neg (by decide), show b = a by omega]
  have key : iterO (fixed_extreme_int64_L0_step o [a, b] 1 1) NN (a, 0) = some (ext2 o a b) := by
    rw [show NN = 999998 + 1 + 1 from rfl, iterO_inl s0, iterO_inr (s1 _)]
  unfold P_fixed_extreme_int64 fixed_extreme_int64
  rw [key]
  exact ⟨⟨rfl, trivial⟩, rfl⟩
theorem most2 {o : Int} {x y : Num} (ho : o = 1 ∨ o = -1) : P_fixed_most o [x, y] ∧ fixed_most o [x, y] = ⟨ext2 o (fixed_sound x).V (fixed_sound y).V, (fixed_sound x).F || (fixed_sound y).F⟩ := by
  obtain ⟨v1, v2⟩ := values_spec [x, y] (by simp)
  obtain ⟨e1, e2⟩ := extreme2 (o := o) (a := (fixed_sound x).V) (b := (fixed_sound y).V) ho
  have v2' : fixed_values [x, y] = ([(fixed_sound x).V, (fixed_sound y).V], (fixed_sound x).F || (fixed_sound y).F) := by rw [v2]; simp [sumF]
  unfold P_fixed_most fixed_most
  rw [if_neg (by simp), if_neg (by simp), v2']
  exact ⟨⟨v1, by simp, by simp, e1, trivial⟩, by simp only []; exact congrArg (fun z => (⟨z, _⟩ : Num)) e2⟩
theorem ext_I64 {o a b : Int} (ha : I64 a) (hb : I64 b) : I64 (ext2 o a b) := by
  unfold ext2 I64 at *
  split <;> omega
theorem clamp_eq {x y z : Num} (hx : I64 x.V) (hy : I64 y.V) (hz : I64 z.V) : P_fixed_Clamp x y z ∧ I64 (fixed_Clamp x y z).V ∧
    (x.V ≠ -9223372036854775808 → y.V ≠ -9223372036854775808 → z.V ≠ -9223372036854775808 → fixed_Clamp x y z = ⟨max y.V (min x.V z.V), y.F || (x.F || z.F)⟩) := by
  obtain ⟨m1, m2⟩ := most2 (o := 1) (x := x) (y := z) (.inl rfl)
  have hm : I64 (fixed_most 1 [x, z]).V := by rw [m2]; exact ext_I64 (o := 1) (snd_I64 hx).1 (snd_I64 hz).1
  obtain ⟨n1, n2⟩ := most2 (o := -1) (x := y) (y := fixed_most 1 [x, z]) (.inr rfl)
  refine ⟨⟨⟨m1, trivial⟩, ⟨n1, trivial⟩, trivial⟩, ?_, ?_⟩
  · show I64 (fixed_most (-1) [y, fixed_most 1 [x, z]]).V
    rw [n2]
    exact ext_I64 (o := -1) (snd_I64 hy).1 (snd_I64 hm).1
  · intro nx ny nz
    have e : ∀ u : Num, u.V ≠ -9223372036854775808 → fixed_sound u = u := fun u hu => by unfold fixed_sound; rw [if_neg hu]
    show fixed_most (-1) [y, fixed_most 1 [x, z]] = _
    rw [n2, m2, e x nx, e y ny, e z nz]
    have hne : (⟨ext2 1 x.V z.V, x.F || z.F⟩ : Num).V ≠ -9223372036854775808 := by
      show ext2 1 x.V z.V ≠ _
      unfold ext2
      rw [if_pos rfl]
      omega
    rw [e _ hne]
    rfl
/-- A term of the series out of the one ahead of it. -/
def stepT (t y : Num) (n : Int) : Num := fixed_Neg (fixed_Div (fixed_Mul (fixed_Mul t y) y) (fixed_Int n))
theorem int_I64 {n : Int} (h : I64 n) : I64 (fixed_Int n).V := by rw [int_eq h]; exact sat_I64 _ _
theorem stepP {t y : Num} {n : Int} (ht : I64 t.V) (hy : I64 y.V) (hn : I64 n) :
    P_fixed_Mul t y ∧ P_fixed_Mul (fixed_Mul t y) y ∧ P_fixed_Div (fixed_Mul (fixed_Mul t y) y) (fixed_Int n) ∧ I64 (stepT t y n).V := by
  obtain ⟨a1, a2, a3⟩ := mul2 ht hy
  obtain ⟨b1, b2, b3⟩ := mul2 a3 hy
  obtain ⟨c1, c2, c3, c4⟩ := div2 b3 (int_I64 hn)
  exact ⟨a1, b1, c1, (neg2 c4).2⟩
theorem addP {x y : Num} (hx : I64 x.V) (hy : I64 y.V) : P_fixed_Add x y ∧ I64 (fixed_Add x y).V := by
  obtain ⟨a, b, c, d⟩ := sum2 [x, y] (by simp) (all2 hx hy)
  exact ⟨⟨a, trivial⟩, d⟩
def ser1 (y : Num) : Num := stepT y y 6
def ser2 (y : Num) : Num := stepT (ser1 y) y 20
def ser3 (y : Num) : Num := stepT (ser2 y) y 42
def ser4 (y : Num) : Num := stepT (ser3 y) y 72
def ser5 (y : Num) : Num := stepT (ser4 y) y 110
def ser6 (y : Num) : Num := stepT (ser5 y) y 156
def ser7 (y : Num) : Num := stepT (ser6 y) y 210
def ser8 (y : Num) : Num := stepT (ser7 y) y 272
def sinSum (y : Num) : Num := fixed_Add (fixed_Add (fixed_Add (fixed_Add (fixed_Add (fixed_Add (fixed_Add (fixed_Add y (ser1 y)) (ser2 y)) (ser3 y)) (ser4 y)) (ser5 y)) (ser6 y)) (ser7 y)) (ser8 y)
def sinC (y : Num) : Num := fixed_Clamp (sinSum y) (fixed_Int (-1)) (fixed_Int 1)
/-- The angle that the series is taken at. -/
def foldA (x : Num) : Num :=
  let r0 := fixed_Wrap x
  if r0.V > 6746518852 then ⟨IntKind.i64.wrap (13493037704 - r0.V), r0.F⟩ else if r0.V < -6746518852 then ⟨IntKind.i64.wrap (-13493037704 - r0.V), r0.F⟩ else r0
theorem i64_wrap (n : Int) : I64 (IntKind.i64.wrap n) := by
  rw [IntKind.wrap_i64]
  unfold I64
  omega
theorem wrap_I64 {x : Num} (h : I64 x.V) : I64 (fixed_Wrap x).V := by
  obtain ⟨⟨h1, h2⟩, h3⟩ := snd_I64 h
  unfold fixed_Wrap
  simp only []
  split
  · exact i64_wrap _
  · split
    · exact i64_wrap _
    · simp only []
      exact ⟨by omega, by omega⟩
theorem foldA_I64 {x : Num} (h : I64 x.V) : I64 (foldA x).V := by
  unfold foldA
  simp only []
  split
  · exact i64_wrap _
  · split
    · exact i64_wrap _
    · exact wrap_I64 h
/-- A round of the series' loop. -/
def sinStep (y : Num) (s : Int × Bool × Int × Bool × Int) : Option ((Int × Bool × Int × Bool × Int) ⊕ (Int × Bool)) := fixed_Sin_L0_3_step y s
theorem sinStep_in {t y s : Num} {k n : Int} (hn : IntKind.i64.wrap (IntKind.i64.wrap (2 * IntKind.i64.wrap (k + 1)) * IntKind.i64.wrap (IntKind.i64.wrap (2 * IntKind.i64.wrap (k + 1)) + 1)) = n) (hk : k < 8)
    (a : P_fixed_Mul t y) (b : P_fixed_Mul (fixed_Mul t y) y) (c : P_fixed_Div (fixed_Mul (fixed_Mul t y) y) (fixed_Int n)) (d : P_fixed_Add s (stepT t y n)) :
    sinStep y (t.V, t.F, s.V, s.F, k) = some (.inl ((stepT t y n).V, (stepT t y n).F, (fixed_Add s (stepT t y n)).V, (fixed_Add s (stepT t y n)).F, IntKind.i64.wrap (k + 1))) := by
  unfold sinStep fixed_Sin_L0_3_step
  simp only []
  rw [hn, if_pos hk, if_pos a, if_pos b, if_pos c]
  exact if_pos d
theorem serP {y : Num} (hy : I64 y.V) : iterO (sinStep y) NN (y.V, y.F, y.V, y.F, 0) = some ((sinSum y).V, (sinSum y).F) ∧ I64 (sinSum y).V := by
  have h0 := hy
  have q0 := hy
  obtain ⟨a0, b0, c0, h1⟩ := stepP (t := y) (y := y) (n := 6) h0 hy ⟨by decide, by decide⟩
  obtain ⟨d0, q1⟩ := addP (x := y) (y := (ser1 y)) q0 h1
  obtain ⟨a1, b1, c1, h2⟩ := stepP (t := (ser1 y)) (y := y) (n := 20) h1 hy ⟨by decide, by decide⟩
  obtain ⟨d1, q2⟩ := addP (x := (fixed_Add y (ser1 y))) (y := (ser2 y)) q1 h2
  obtain ⟨a2, b2, c2, h3⟩ := stepP (t := (ser2 y)) (y := y) (n := 42) h2 hy ⟨by decide, by decide⟩
  obtain ⟨d2, q3⟩ := addP (x := (fixed_Add (fixed_Add y (ser1 y)) (ser2 y))) (y := (ser3 y)) q2 h3
  obtain ⟨a3, b3, c3, h4⟩ := stepP (t := (ser3 y)) (y := y) (n := 72) h3 hy ⟨by decide, by decide⟩
  obtain ⟨d3, q4⟩ := addP (x := (fixed_Add (fixed_Add (fixed_Add y (ser1 y)) (ser2 y)) (ser3 y))) (y := (ser4 y)) q3 h4
  obtain ⟨a4, b4, c4, h5⟩ := stepP (t := (ser4 y)) (y := y) (n := 110) h4 hy ⟨by decide, by decide⟩
  obtain ⟨d4, q5⟩ := addP (x := (fixed_Add (fixed_Add (fixed_Add (fixed_Add y (ser1 y)) (ser2 y)) (ser3 y)) (ser4 y))) (y := (ser5 y)) q4 h5
  obtain ⟨a5, b5, c5, h6⟩ := stepP (t := (ser5 y)) (y := y) (n := 156) h5 hy ⟨by decide, by decide⟩
  obtain ⟨d5, q6⟩ := addP (x := (fixed_Add (fixed_Add (fixed_Add (fixed_Add (fixed_Add y (ser1 y)) (ser2 y)) (ser3 y)) (ser4 y)) (ser5 y))) (y := (ser6 y)) q5 h6
  obtain ⟨a6, b6, c6, h7⟩ := stepP (t := (ser6 y)) (y := y) (n := 210) h6 hy ⟨by decide, by decide⟩
  obtain ⟨d6, q7⟩ := addP (x := (fixed_Add (fixed_Add (fixed_Add (fixed_Add (fixed_Add (fixed_Add y (ser1 y)) (ser2 y)) (ser3 y)) (ser4 y)) (ser5 y)) (ser6 y))) (y := (ser7 y)) q6 h7
  obtain ⟨a7, b7, c7, h8⟩ := stepP (t := (ser7 y)) (y := y) (n := 272) h7 hy ⟨by decide, by decide⟩
  obtain ⟨d7, q8⟩ := addP (x := (fixed_Add (fixed_Add (fixed_Add (fixed_Add (fixed_Add (fixed_Add (fixed_Add y (ser1 y)) (ser2 y)) (ser3 y)) (ser4 y)) (ser5 y)) (ser6 y)) (ser7 y))) (y := (ser8 y)) q7 h8
  have s0 : sinStep y (y.V, y.F, y.V, y.F, 0) = some (.inl ((ser1 y).V, (ser1 y).F, (fixed_Add y (ser1 y)).V, (fixed_Add y (ser1 y)).F, 1)) := sinStep_in (t := y) (s := y) (k := 0) (n := 6) rfl (by decide) a0 b0 c0 d0
  have s1 : sinStep y ((ser1 y).V, (ser1 y).F, (fixed_Add y (ser1 y)).V, (fixed_Add y (ser1 y)).F, 1) = some (.inl ((ser2 y).V, (ser2 y).F, (fixed_Add (fixed_Add y (ser1 y)) (ser2 y)).V, (fixed_Add (fixed_Add y (ser1 y)) (ser2 y)).F, 2)) := sinStep_in (t := (ser1 y)) (s := (fixed_Add y (ser1 y))) (k := 1) (n := 20) rfl (by decide) a1 b1 c1 d1
  have s2 : sinStep y ((ser2 y).V, (ser2 y).F, (fixed_Add (fixed_Add y (ser1 y)) (ser2 y)).V, (fixed_Add (fixed_Add y (ser1 y)) (ser2 y)).F, 2) = some (.inl ((ser3 y).V, (ser3 y).F, (fixed_Add (fixed_Add (fixed_Add y (ser1 y)) (ser2 y)) (ser3 y)).V, (fixed_Add (fixed_Add (fixed_Add y (ser1 y)) (ser2 y)) (ser3 y)).F, 3)) := sinStep_in (t := (ser2 y)) (s := (fixed_Add (fixed_Add y (ser1 y)) (ser2 y))) (k := 2) (n := 42) rfl (by decide) a2 b2 c2 d2
  have s3 : sinStep y ((ser3 y).V, (ser3 y).F, (fixed_Add (fixed_Add (fixed_Add y (ser1 y)) (ser2 y)) (ser3 y)).V, (fixed_Add (fixed_Add (fixed_Add y (ser1 y)) (ser2 y)) (ser3 y)).F, 3) = some (.inl ((ser4 y).V, (ser4 y).F, (fixed_Add (fixed_Add (fixed_Add (fixed_Add y (ser1 y)) (ser2 y)) (ser3 y)) (ser4 y)).V, (fixed_Add (fixed_Add (fixed_Add (fixed_Add y (ser1 y)) (ser2 y)) (ser3 y)) (ser4 y)).F, 4)) := sinStep_in (t := (ser3 y)) (s := (fixed_Add (fixed_Add (fixed_Add y (ser1 y)) (ser2 y)) (ser3 y))) (k := 3) (n := 72) rfl (by decide) a3 b3 c3 d3
  have s4 : sinStep y ((ser4 y).V, (ser4 y).F, (fixed_Add (fixed_Add (fixed_Add (fixed_Add y (ser1 y)) (ser2 y)) (ser3 y)) (ser4 y)).V, (fixed_Add (fixed_Add (fixed_Add (fixed_Add y (ser1 y)) (ser2 y)) (ser3 y)) (ser4 y)).F, 4) = some (.inl ((ser5 y).V, (ser5 y).F, (fixed_Add (fixed_Add (fixed_Add (fixed_Add (fixed_Add y (ser1 y)) (ser2 y)) (ser3 y)) (ser4 y)) (ser5 y)).V, (fixed_Add (fixed_Add (fixed_Add (fixed_Add (fixed_Add y (ser1 y)) (ser2 y)) (ser3 y)) (ser4 y)) (ser5 y)).F, 5)) := sinStep_in (t := (ser4 y)) (s := (fixed_Add (fixed_Add (fixed_Add (fixed_Add y (ser1 y)) (ser2 y)) (ser3 y)) (ser4 y))) (k := 4) (n := 110) rfl (by decide) a4 b4 c4 d4
  have s5 : sinStep y ((ser5 y).V, (ser5 y).F, (fixed_Add (fixed_Add (fixed_Add (fixed_Add (fixed_Add y (ser1 y)) (ser2 y)) (ser3 y)) (ser4 y)) (ser5 y)).V, (fixed_Add (fixed_Add (fixed_Add (fixed_Add (fixed_Add y (ser1 y)) (ser2 y)) (ser3 y)) (ser4 y)) (ser5 y)).F, 5) = some (.inl ((ser6 y).V, (ser6 y).F, (fixed_Add (fixed_Add (fixed_Add (fixed_Add (fixed_Add (fixed_Add y (ser1 y)) (ser2 y)) (ser3 y)) (ser4 y)) (ser5 y)) (ser6 y)).V, (fixed_Add (fixed_Add (fixed_Add (fixed_Add (fixed_Add (fixed_Add y (ser1 y)) (ser2 y)) (ser3 y)) (ser4 y)) (ser5 y)) (ser6 y)).F, 6)) := sinStep_in (t := (ser5 y)) (s := (fixed_Add (fixed_Add (fixed_Add (fixed_Add (fixed_Add y (ser1 y)) (ser2 y)) (ser3 y)) (ser4 y)) (ser5 y))) (k := 5) (n := 156) rfl (by decide) a5 b5 c5 d5
  have s6 : sinStep y ((ser6 y).V, (ser6 y).F, (fixed_Add (fixed_Add (fixed_Add (fixed_Add (fixed_Add (fixed_Add y (ser1 y)) (ser2 y)) (ser3 y)) (ser4 y)) (ser5 y)) (ser6 y)).V, (fixed_Add (fixed_Add (fixed_Add (fixed_Add (fixed_Add (fixed_Add y (ser1 y)) (ser2 y)) (ser3 y)) (ser4 y)) (ser5 y)) (ser6 y)).F, 6) = some (.inl ((ser7 y).V, (ser7 y).F, (fixed_Add (fixed_Add (fixed_Add (fixed_Add (fixed_Add (fixed_Add (fixed_Add y (ser1 y)) (ser2 y)) (ser3 y)) (ser4 y)) (ser5 y)) (ser6 y)) (ser7 y)).V, (fixed_Add (fixed_Add (fixed_Add (fixed_Add (fixed_Add (fixed_Add (fixed_Add y (ser1 y)) (ser2 y)) (ser3 y)) (ser4 y)) (ser5 y)) (ser6 y)) (ser7 y)).F, 7)) := sinStep_in (t := (ser6 y)) (s := (fixed_Add (fixed_Add (fixed_Add (fixed_Add (fixed_Add (fixed_Add y (ser1 y)) (ser2 y)) (ser3 y)) (ser4 y)) (ser5 y)) (ser6 y))) (k := 6) (n := 210) rfl (by decide) a6 b6 c6 d6
  have s7 : sinStep y ((ser7 y).V, (ser7 y).F, (fixed_Add (fixed_Add (fixed_Add (fixed_Add (fixed_Add (fixed_Add (fixed_Add y (ser1 y)) (ser2 y)) (ser3 y)) (ser4 y)) (ser5 y)) (ser6 y)) (ser7 y)).V, (fixed_Add (fixed_Add (fixed_Add (fixed_Add (fixed_Add (fixed_Add (fixed_Add y (ser1 y)) (ser2 y)) (ser3 y)) (ser4 y)) (ser5 y)) (ser6 y)) (ser7 y)).F, 7) = some (.inl ((ser8 y).V, (ser8 y).F, (fixed_Add (fixed_Add (fixed_Add (fixed_Add (fixed_Add (fixed_Add (fixed_Add (fixed_Add y (ser1 y)) (ser2 y)) (ser3 y)) (ser4 y)) (ser5 y)) (ser6 y)) (ser7 y)) (ser8 y)).V, (fixed_Add (fixed_Add (fixed_Add (fixed_Add (fixed_Add (fixed_Add (fixed_Add (fixed_Add y (ser1 y)) (ser2 y)) (ser3 y)) (ser4 y)) (ser5 y)) (ser6 y)) (ser7 y)) (ser8 y)).F, 8)) := sinStep_in (t := (ser7 y)) (s := (fixed_Add (fixed_Add (fixed_Add (fixed_Add (fixed_Add (fixed_Add (fixed_Add y (ser1 y)) (ser2 y)) (ser3 y)) (ser4 y)) (ser5 y)) (ser6 y)) (ser7 y))) (k := 7) (n := 272) rfl (by decide) a7 b7 c7 d7
  have s8 : sinStep y ((ser8 y).V, (ser8 y).F, (sinSum y).V, (sinSum y).F, 8) = some (.inr ((sinSum y).V, (sinSum y).F)) := by
    unfold sinStep fixed_Sin_L0_3_step
    simp only []
    rw [if_neg (by decide)]
  refine ⟨?_, q8⟩
  rw [show NN = 999991 + 1 + 1 + 1 + 1 + 1 + 1 + 1 + 1 + 1 from rfl, iterO_inl s0, iterO_inl s1, iterO_inl s2, iterO_inl s3, iterO_inl s4, iterO_inl s5, iterO_inl s6, iterO_inl s7]
  exact iterO_inr s8
theorem sinC_I64 {y : Num} (hy : I64 y.V) : I64 (sinC y).V :=
  (clamp_eq (x := sinSum y) (y := fixed_Int (-1)) (z := fixed_Int 1) (serP hy).2 (int_I64 ⟨by decide, by decide⟩) (int_I64 ⟨by decide, by decide⟩)).2.1
theorem sin_close {S : Num} (hs : I64 S.V) {q : Option (Int × Bool)} (hq : q = some (S.V, S.F)) :
    (q.isSome = true ∧ (P_fixed_Clamp (⟨(q.getD default).1, (q.getD default).2⟩ : Num) (fixed_Int (-1)) (fixed_Int 1) ∧ True)) ∧ fixed_Clamp (⟨(q.getD default).1, (q.getD default).2⟩ : Num) (fixed_Int (-1)) (fixed_Int 1) = fixed_Clamp S (fixed_Int (-1)) (fixed_Int 1) := by
  subst hq
  have hm : I64 (fixed_Int (-1)).V := int_I64 ⟨by decide, by decide⟩
  have h1 : I64 (fixed_Int 1).V := int_I64 ⟨by decide, by decide⟩
  exact ⟨⟨rfl, (clamp_eq (x := ⟨S.V, S.F⟩) hs hm h1).1, trivial⟩, rfl⟩
theorem sinC_def (y : Num) : sinC y = fixed_Clamp (sinSum y) (fixed_Int (-1)) (fixed_Int 1) := rfl
theorem sin_eq {x : Num} (h : I64 x.V) : P_fixed_Sin x ∧ fixed_Sin x = sinC (foldA x) := by
  unfold P_fixed_Sin fixed_Sin foldA
  simp only []
  by_cases h1 : (fixed_Wrap x).V > 6746518852
  · rw [if_pos h1, if_pos h1, if_pos h1, sinC_def]
    obtain ⟨e, k⟩ := serP (y := ⟨IntKind.i64.wrap (13493037704 - (fixed_Wrap x).V), (fixed_Wrap x).F⟩) (i64_wrap _)
    exact sin_close k e
  · rw [if_neg h1, if_neg h1, if_neg h1]
    by_cases h2 : (fixed_Wrap x).V < -6746518852
    · rw [if_pos h2, if_pos h2, if_pos h2, sinC_def]
      obtain ⟨e, k⟩ := serP (y := ⟨IntKind.i64.wrap (-13493037704 - (fixed_Wrap x).V), (fixed_Wrap x).F⟩) (i64_wrap _)
      exact sin_close k e
    · rw [if_neg h2, if_neg h2, if_neg h2, sinC_def]
      obtain ⟨e, k⟩ := serP (y := fixed_Wrap x) (wrap_I64 h)
      exact sin_close k e
theorem sinP {x : Num} (h : I64 x.V) : P_fixed_Sin x ∧ I64 (fixed_Sin x).V := by
  obtain ⟨a, b⟩ := sin_eq h
  exact ⟨a, by rw [b]; exact sinC_I64 (foldA_I64 h)⟩
theorem of_I64 {n : Int} (h : I64 n) : I64 (fixed_Of n).V := (snd_I64 (x := ⟨n, false⟩) h).1
theorem cosP {x : Num} (h : I64 x.V) : P_fixed_Cos x ∧ I64 (fixed_Cos x).V := by
  obtain ⟨a, b⟩ := addP (x := fixed_Wrap x) (y := fixed_Of 6746518852) (wrap_I64 h) (of_I64 ⟨by decide, by decide⟩)
  obtain ⟨c, d⟩ := sinP b
  exact ⟨⟨a, c, trivial⟩, d⟩
theorem angleP {x : Num} (h : I64 x.V) : P_plane_Angle x ∧ I64 (plane_Angle x).C.V ∧ I64 (plane_Angle x).S.V := by
  obtain ⟨a, b⟩ := cosP h
  obtain ⟨c, d⟩ := sinP h
  exact ⟨⟨a, c, trivial⟩, b, d⟩
end Go.Bag

