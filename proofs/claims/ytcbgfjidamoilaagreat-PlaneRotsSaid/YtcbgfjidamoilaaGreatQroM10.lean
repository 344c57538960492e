/- Lengths and faults. -/
import Derived.Test.YtcbgfjidamoilaaGreatQroM9
set_option linter.unusedVariables false
namespace Go.Bag
open Go Go.AbsK

theorem U64_zero : U64 0 := ⟨by decide, by decide⟩
theorem val_of_sv {x : Exact} {n : Int} (hx : okE x) (h : svE x = n) (hn : 0 ≤ n) : valE x = n := by
  have h0 : 0 ≤ valE x := by obtain ⟨⟨a0, a1⟩, b0, b1⟩ := hx; unfold valE; omega
  unfold svE sg at h
  split at h <;> omega
theorem val_of_svW {x : Wide} {n : Int} (hx : okW x) (h : svW x = n) (hn : 0 ≤ n) : valW x = n := by
  have h0 : 0 ≤ valW x := by obtain ⟨⟨a0, a1⟩, b0, b1⟩ := hx; unfold valW; omega
  unfold svW sg at h
  split at h <;> omega
theorem sq_nonneg (a : Int) : 0 ≤ a * a := by
  by_cases h : 0 ≤ a
  · exact Int.mul_nonneg h h
  · have := Int.mul_nonneg (show 0 ≤ -a from by omega) (show 0 ≤ -a from by omega)
    rwa [Int.neg_mul_neg] at this
theorem hypot_eq {x y : Num} (hx : I64 x.V) (hy : I64 y.V) : ∃ s, Rt s ((fixed_sound x).V * (fixed_sound x).V + (fixed_sound y).V * (fixed_sound y).V) ∧ P_fixed_Hypot x y ∧ P_ref01_Hypot x y ∧
    fixed_Hypot x y = sat s ((fixed_sound x).F || (fixed_sound y).F) ∧ ref01_Hypot x y = sat s ((fixed_sound x).F || (fixed_sound y).F) := by
  have sx := (snd_I64 hx).1
  have sy := (snd_I64 hy).1
  obtain ⟨f1, f2⟩ := flags_spec [fixed_sound x, fixed_sound y] (by simp)
  obtain ⟨p1, p2, p3⟩ := product_spec sx sx
  obtain ⟨r1, r2, r3⟩ := product_spec sy sy
  obtain ⟨b1, b2⟩ := abs_mul_bound sx sx
  obtain ⟨b3, b4⟩ := abs_mul_bound sy sy
  obtain ⟨s0, s1, s2, s3⟩ := plus_spec p1 r1 (by rw [p2, r2]; omega)
  obtain ⟨q1, q2, q3⟩ := times_spec sx sx
  obtain ⟨t1, t2, t3⟩ := times_spec sy sy
  obtain ⟨v0, v1, v2, v3⟩ := refplus_spec q1 t1 (by rw [q2, t2]; omega)
  have hN : 0 ≤ (fixed_sound x).V * (fixed_sound x).V + (fixed_sound y).V * (fixed_sound y).V := by
    have := sq_nonneg (fixed_sound x).V
    have := sq_nonneg (fixed_sound y).V
    omega
  rw [p3, r3] at s2
  rw [q3, t3] at v2
  have hv := val_of_sv s1 s2 hN
  have hw := val_of_svW v1 v2 hN
  obtain ⟨s, hs⟩ := rt_exists ((fixed_sound x).V * (fixed_sound x).V + (fixed_sound y).V * (fixed_sound y).V).toNat
  rw [Int.toNat_of_nonneg hN] at hs
  obtain ⟨g1, g2, g3⟩ := root_spec (x := (fixed_exact_plus (fixed_product (fixed_sound x).V (fixed_sound x).V) (fixed_product (fixed_sound y).V (fixed_sound y).V)).w) s1.1 s1.2 (s := s) (by rw [show valX _ = valE _ from rfl, hv]; exact hs)
  obtain ⟨k1, k2⟩ := refroot_spec v1 (s := s) (by rw [hw]; exact hs)
  refine ⟨s, hs, ⟨s0, g1, f1, trivial⟩, ?_, ?_, ?_⟩
  · unfold P_ref01_Hypot
    rw [whole_eq, whole_eq]
    exact ⟨v0, k1, trivial⟩
  · unfold fixed_Hypot
    simp only []
    rw [g2, f2, fit_spec ⟨⟨hs.1, g3⟩, U64_zero⟩]
    simp [sg, valE]
  · unfold ref01_Hypot
    rw [whole_eq, whole_eq]
    simp only []
    rw [k2, fitW_spec ⟨⟨hs.1, g3⟩, U64_zero⟩, fitW_spec ⟨⟨hs.1, g3⟩, U64_zero⟩]
    cases (fixed_sound x).F <;> simp [sg, valW]
end Go.Bag

