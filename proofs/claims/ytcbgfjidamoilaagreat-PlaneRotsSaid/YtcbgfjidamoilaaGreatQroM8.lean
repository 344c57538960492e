/- The reference's sums; flags; products of numbers. -/
import Derived.Test.YtcbgfjidamoilaaGreatQroM7
set_option linter.unusedVariables false
namespace Go.Bag
open Go Go.AbsK

theorem refplus_spec {x y : Wide} (hx : okW x) (hy : okW y) (h : valW x + valW y < 340282366920938463463374607431768211456) :
    P_ref01_plus x y ∧ okW (ref01_plus x y) ∧ svW (ref01_plus x y) = svW x + svW y ∧ valW (ref01_plus x y) ≤ valW x + valW y := by
  have hx0 : 0 ≤ valW x := by obtain ⟨⟨a0, a1⟩, b0, b1⟩ := hx; unfold valW; omega
  have hy0 : 0 ≤ valW y := by obtain ⟨⟨a0, a1⟩, b0, b1⟩ := hy; unfold valW; omega
  unfold P_ref01_plus ref01_plus
  by_cases hn : x.neg = y.neg
  · rw [if_pos hn, if_pos hn]
    obtain ⟨p1, p2, p3, p4⟩ := words_add hx.1 hx.2 hy.1 hy.2 h
    have hv : valW (⟨x.neg, (bits_Add64 x.hi y.hi (bits_Add64 x.lo y.lo 0).2).1, (bits_Add64 x.lo y.lo 0).1⟩ : Wide) = valW x + valW y := p4
    refine ⟨⟨p1, trivial⟩, ⟨p2, p3⟩, ?_, Int.le_of_eq hv⟩
    unfold svW
    simp only [hv, ← hn]
    cases x.neg <;> simp only [sg_false, sg_true] <;> omega
  · rw [if_neg hn, if_neg hn]
    refine ⟨trivial, ?_⟩
    have hsum : svW x + svW y = sg x.neg (valW x - valW y) := by
      unfold svW
      cases hxn : x.neg <;> cases hyn : y.neg <;> simp only [hxn, hyn, sg_false, sg_true] at hn ⊢ <;> first | omega | exact absurd trivial hn | exact absurd rfl hn
    have hny : y.neg = !x.neg := by cases hxn : x.neg <;> cases hyn : y.neg <;> simp_all
    -- a word with a sign that is dropped at nought
    have key : ∀ (n : Bool) (hi lo : Int), U64 lo → U64 hi →
        okW (if n = true then (if hi = 0 then (⟨(!(lo == 0)), hi, lo⟩ : Wide) else ⟨true, hi, lo⟩) else ⟨false, hi, lo⟩) ∧
        svW (if n = true then (if hi = 0 then (⟨(!(lo == 0)), hi, lo⟩ : Wide) else ⟨true, hi, lo⟩) else ⟨false, hi, lo⟩) = sg n (hi * 18446744073709551616 + lo) ∧
        valW (if n = true then (if hi = 0 then (⟨(!(lo == 0)), hi, lo⟩ : Wide) else ⟨true, hi, lo⟩) else ⟨false, hi, lo⟩) = hi * 18446744073709551616 + lo := by
      intro n hi lo h1 h2
      cases n with
      | false => exact ⟨⟨h1, h2⟩, rfl, rfl⟩
      | true =>
        rw [if_pos rfl]
        by_cases h0 : hi = 0
        · rw [if_pos h0]
          refine ⟨⟨h1, h2⟩, ?_, rfl⟩
          by_cases hl : lo = 0
          · subst h0 hl; rfl
          · have : (!(lo == 0)) = true := by simp [hl]
            rw [this]; rfl
        · rw [if_neg h0]
          exact ⟨⟨h1, h2⟩, rfl, rfl⟩
    simp only []
    by_cases hc : ref01_less x y = true
    · rw [if_pos hc]
      have hlt : valW x < valW y := (less_spec hx.1 hy.1).1 hc
      obtain ⟨p2, p3, p4⟩ := words_sub hy.1 hy.2 hx.1 hx.2 (Int.le_of_lt hlt)
      obtain ⟨k1, k2, k3⟩ := key y.neg _ _ p2 p3
      refine ⟨k1, ?_, ?_⟩
      · rw [k2, p4, hsum]
        show sg y.neg (valW y - valW x) = _
        rw [hny]
        cases x.neg <;> simp only [Bool.not_false, Bool.not_true, sg_false, sg_true] <;> omega
      · rw [k3, p4]
        show valW y - valW x ≤ _
        omega
    · rw [if_neg hc]
      have hle : valW y ≤ valW x := by
        have := mt (less_spec hx.1 hy.1).2 hc
        omega
      obtain ⟨p2, p3, p4⟩ := words_sub hx.1 hx.2 hy.1 hy.2 hle
      obtain ⟨k1, k2, k3⟩ := key x.neg _ _ p2 p3
      refine ⟨k1, ?_, ?_⟩
      · rw [k2, p4, hsum]
        rfl
      · rw [k3, p4]
        show valW x - valW y ≤ _
        omega
theorem nth_eq {α : Type} [Inhabited α] (l : List α) (i : Nat) (h : i < l.length) : nth l (i : Int) = l[i] := by
  unfold nth
  rw [Int.toNat_natCast, List.getD_eq_getElem?_getD, List.getElem?_eq_getElem h]
  rfl
theorem drop_cons {α : Type} (l : List α) (i : Nat) (h : i < l.length) : l.drop i = l[i] :: l.drop (i + 1) := (List.getElem_cons_drop (h := h)).symm
theorem flags_iter (l : List Num) (hl : l.length < 1000000) : ∀ (m k i : Nat), i + m = l.length →
    iterO (fixed_flags_L0_step l) (m + 1 + k) (i : Int) = some (if (l.drop i).any (·.F) = true then (0, (), default) else (1, default, ()))
  | 0, k, i, h => by
    have hd : l.drop i = [] := List.drop_eq_nil_of_le (by omega)
    rw [show 0 + 1 + k = k + 1 from by omega, hd]
    refine iterO_inr ?_
    unfold fixed_flags_L0_step
    rw [if_neg (by omega)]
    rfl
  | m + 1, k, i, h => by
    have hi : i < l.length := by omega
    rw [show m + 1 + 1 + k = (m + 1 + k) + 1 from by omega, drop_cons l i hi, List.any_cons]
    have hst : fixed_flags_L0_step l (i : Int) = if (l[i]).F = true then some (.inr (0, (), default)) else some (.inl ((i + 1 : Nat) : Int)) := by
      unfold fixed_flags_L0_step
      rw [if_pos (by omega), if_pos ⟨by omega, by omega⟩, nth_eq l i hi, i64_id ⟨by omega, by omega⟩]
      rfl
    by_cases hf : (l[i]).F = true
    · rw [if_pos hf] at hst
      rw [iterO_inr hst, hf]
      rfl
    · rw [if_neg hf] at hst
      rw [iterO_inl hst, flags_iter l hl m k (i + 1) (by omega)]
      have : (l[i]).F = false := by simpa using hf
      rw [this, Bool.false_or]
theorem flags_spec (l : List Num) (hl : l.length < 999999) : P_fixed_flags l ∧ fixed_flags l = l.any (·.F) := by
  have h := flags_iter l (by omega) l.length (999999 - l.length) 0 (by omega)
  rw [show l.length + 1 + (999999 - l.length) = NN from by unfold NN; omega, List.drop_zero] at h
  replace h : iterO (fixed_flags_L0_step l) NN 0 = _ := h
  unfold P_fixed_flags fixed_flags
  rw [h]
  refine ⟨⟨rfl, trivial⟩, ?_⟩
  cases l.any (·.F) <;> rfl
theorem snd_I64 {x : Num} (h : I64 x.V) : I64 (fixed_sound x).V ∧ -9223372036854775807 ≤ (fixed_sound x).V := by
  unfold I64 at *
  unfold fixed_sound
  split
  · exact ⟨⟨by decide, by decide⟩, by decide⟩
  · omega
theorem whole_eq (x : Num) : ref01_whole x = ((fixed_sound x).V, (fixed_sound x).F) := by
  unfold ref01_whole fixed_sound
  split <;> rfl
theorem neg_eq {x : Num} (h : I64 x.V) : fixed_Neg x = ⟨-(fixed_sound x).V, (fixed_sound x).F⟩ ∧ ref01_Neg x = ⟨-(fixed_sound x).V, (fixed_sound x).F⟩ := by
  obtain ⟨⟨h1, h2⟩, h3⟩ := snd_I64 h
  unfold fixed_Neg ref01_Neg
  rw [whole_eq]
  simp only []
  rw [i64_id ⟨by omega, by omega⟩, Int.zero_sub]
  exact ⟨rfl, rfl⟩
/-- The product of two numbers. -/
def mulN (x y : Num) : Num := sat (((fixed_sound x).V * (fixed_sound y).V).tdiv 4294967296) ((fixed_sound x).F || (fixed_sound y).F)
theorem mul_eq {x y : Num} (hx : I64 x.V) (hy : I64 y.V) : P_fixed_Mul x y ∧ fixed_Mul x y = mulN x y ∧ ref01_Mul x y = mulN x y := by
  have sx := (snd_I64 hx).1
  have sy := (snd_I64 hy).1
  obtain ⟨f1, f2⟩ := flags_spec [fixed_sound x, fixed_sound y] (by simp)
  obtain ⟨p1, p2, p3⟩ := product_spec sx sy
  obtain ⟨d1, d2, d3⟩ := down_spec p1
  obtain ⟨q1, q2, q3⟩ := times_spec sx sy
  obtain ⟨e1, e2, e3⟩ := downW_spec q1
  refine ⟨⟨f1, trivial⟩, ?_, ?_⟩
  · unfold fixed_Mul mulN
    simp only []
    rw [f2, fit_spec d1]
    show sat (svE _) _ = _
    rw [d3, p3]
    simp
  · unfold ref01_Mul mulN
    rw [whole_eq, whole_eq]
    simp only []
    rw [fitW_spec e1, fitW_spec e1]
    show (if _ then sat (svW _) true else sat (svW _) _) = _
    rw [e3, q3]
    cases (fixed_sound x).F <;> simp
/-- The sum of two products. -/
def dotN (x y z u : Num) : Num := sat (((fixed_sound x).V * (fixed_sound y).V + (fixed_sound z).V * (fixed_sound u).V).tdiv 4294967296) ((fixed_sound x).F || (fixed_sound y).F || (fixed_sound z).F || (fixed_sound u).F)
theorem dot_eq {x y z u : Num} (hx : I64 x.V) (hy : I64 y.V) (hz : I64 z.V) (hu : I64 u.V) :
    P_fixed_Dot x y z u ∧ P_ref01_Dot x y z u ∧ fixed_Dot x y z u = dotN x y z u ∧ ref01_Dot x y z u = dotN x y z u := by
  have sx := (snd_I64 hx).1
  have sy := (snd_I64 hy).1
  have sz := (snd_I64 hz).1
  have su := (snd_I64 hu).1
  obtain ⟨f1, f2⟩ := flags_spec [fixed_sound x, fixed_sound y, fixed_sound z, fixed_sound u] (by simp)
  obtain ⟨p1, p2, p3⟩ := product_spec sx sy
  obtain ⟨r1, r2, r3⟩ := product_spec sz su
  obtain ⟨b1, b2⟩ := abs_mul_bound sx sy
  obtain ⟨b3, b4⟩ := abs_mul_bound sz su
  obtain ⟨s0, s1, s2, s3⟩ := plus_spec p1 r1 (by rw [p2, r2]; omega)
  obtain ⟨d1, d2, d3⟩ := down_spec s1
  obtain ⟨q1, q2, q3⟩ := times_spec sx sy
  obtain ⟨t1, t2, t3⟩ := times_spec sz su
  obtain ⟨v0, v1, v2, v3⟩ := refplus_spec q1 t1 (by rw [q2, t2]; omega)
  obtain ⟨e1, e2, e3⟩ := downW_spec v1
  refine ⟨⟨s0, f1, trivial⟩, ?_, ?_, ?_⟩
  · unfold P_ref01_Dot
    rw [whole_eq, whole_eq, whole_eq, whole_eq]
    exact ⟨v0, trivial⟩
  · unfold fixed_Dot dotN
    simp only []
    rw [f2, fit_spec d1]
    show sat (svE _) _ = _
    rw [d3, s2, p3, r3]
    simp [Bool.or_assoc]
  · unfold ref01_Dot dotN
    rw [whole_eq, whole_eq, whole_eq, whole_eq]
    simp only []
    rw [fitW_spec e1, fitW_spec e1]
    show (if _ then sat (svW _) true else if _ then sat (svW _) true else if _ then sat (svW _) true else sat (svW _) _) = _
    rw [e3, v2, q3, t3]
    cases (fixed_sound x).F <;> cases (fixed_sound y).F <;> cases (fixed_sound z).F <;> simp
/-- The quotient of two numbers. -/
def divN (x y : Num) : Num := ⟨(rat (fixed_sound x).V (fixed_sound y).V).V, (rat (fixed_sound x).V (fixed_sound y).V).F || (fixed_sound x).F || (fixed_sound y).F⟩
theorem div_eq {x y : Num} (hx : I64 x.V) (hy : I64 y.V) : P_fixed_Div x y ∧ P_ref01_Div x y ∧ fixed_Div x y = divN x y ∧ ref01_Div x y = divN x y := by
  have sx := (snd_I64 hx).1
  have sy := (snd_I64 hy).1
  obtain ⟨f1, f2⟩ := flags_spec [fixed_sound x, fixed_sound y] (by simp)
  obtain ⟨a1, a2⟩ := ratio_eq sx sy
  obtain ⟨b1, b2⟩ := ref_ratio_eq sx sy
  refine ⟨⟨a1, ?_⟩, ?_, ?_, ?_⟩
  · split
    · trivial
    · exact ⟨f1, trivial⟩
  · unfold P_ref01_Div
    rw [whole_eq, whole_eq]
    simp only []
    split
    · trivial
    · exact ⟨b1, trivial⟩
  · unfold fixed_Div divN
    simp only []
    rw [a2, f2]
    split
    · rename_i h
      rw [h]
      simp
    · rename_i h
      have : (rat (fixed_sound x).V (fixed_sound y).V).F = false := by simpa using h
      rw [this]
      simp
  · unfold ref01_Div divN
    rw [whole_eq, whole_eq]
    simp only []
    split
    · rename_i h0
      rw [h0]
      unfold rat ref01_none
      rw [if_pos rfl]
      split
      · simp
      · split <;> simp
    · rw [b2]
      cases (rat (fixed_sound x).V (fixed_sound y).V).F <;> cases (fixed_sound x).F <;> simp
end Go.Bag

