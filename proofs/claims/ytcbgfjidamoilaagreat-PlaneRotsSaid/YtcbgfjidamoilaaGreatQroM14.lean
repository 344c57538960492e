/- Vectors, turns, solutions: the program's and the reference's are one. -/
import Derived.Test.YtcbgfjidamoilaaGreatQroM13
set_option linter.unusedVariables false
namespace Go.Bag
open Go Go.AbsK

theorem neg2 {x : Num} (h : I64 x.V) : ref01_Neg x = fixed_Neg x ∧ I64 (fixed_Neg x).V := by
  obtain ⟨e1, e2⟩ := neg_eq h
  obtain ⟨⟨h1, h2⟩, h3⟩ := snd_I64 h
  rw [e1, e2]
  exact ⟨rfl, by show _ ≤ -(fixed_sound x).V; omega, by show -(fixed_sound x).V ≤ _; omega⟩
theorem dot2 {x y z u : Num} (hx : I64 x.V) (hy : I64 y.V) (hz : I64 z.V) (hu : I64 u.V) : P_fixed_Dot x y z u ∧ P_ref01_Dot x y z u ∧ ref01_Dot x y z u = fixed_Dot x y z u ∧ I64 (fixed_Dot x y z u).V := by
  obtain ⟨a, b, c, d⟩ := dot_eq hx hy hz hu
  rw [c, d]
  exact ⟨a, b, rfl, sat_I64 _ _⟩
theorem div2 {x y : Num} (hx : I64 x.V) (hy : I64 y.V) : P_fixed_Div x y ∧ P_ref01_Div x y ∧ ref01_Div x y = fixed_Div x y ∧ I64 (fixed_Div x y).V := by
  obtain ⟨a, b, c, d⟩ := div_eq hx hy
  rw [c, d]
  exact ⟨a, b, rfl, rat_I64 _ _⟩
theorem mul2 {x y : Num} (hx : I64 x.V) (hy : I64 y.V) : P_fixed_Mul x y ∧ ref01_Mul x y = fixed_Mul x y ∧ I64 (fixed_Mul x y).V := by
  obtain ⟨a, c, d⟩ := mul_eq hx hy
  rw [c, d]
  exact ⟨a, rfl, sat_I64 _ _⟩
theorem sum2 (l : List Num) (hl : l.length < 999999) (hv : ∀ x ∈ l, I64 x.V) : P_fixed_Sum l ∧ P_ref01_Sum l ∧ ref01_Sum l = fixed_Sum l ∧ I64 (fixed_Sum l).V := by
  obtain ⟨a, b, c, d⟩ := sum_eq l hl hv
  rw [c, d]
  exact ⟨a, b, rfl, sat_I64 _ _⟩
theorem all2 {x z : Num} (h : I64 x.V) (h' : I64 z.V) : ∀ y ∈ [x, z], I64 y.V := by
  intro y hy
  rcases List.mem_cons.1 hy with rfl | hy
  · exact h
  · rw [List.mem_singleton.1 hy]; exact h'
theorem apply_eq {x : Rot} {y : Vec} (hc : I64 x.C.V) (hs : I64 x.S.V) (hy : IV y) : P_plane_Apply x y ∧ P_ref02_Apply x y ∧ ref02_Apply x y = plane_Apply x y ∧ IV (plane_Apply x y) := by
  obtain ⟨n1, n2⟩ := neg2 hs
  obtain ⟨d1, d2, d3, d4⟩ := dot2 hc hy.1 n2 hy.2
  obtain ⟨e1, e2, e3, e4⟩ := dot2 hs hy.1 hc hy.2
  refine ⟨⟨d1, e1, trivial⟩, ?_, ?_, d4, e4⟩
  · unfold P_ref02_Apply
    simp only [n1]
    exact ⟨d2, e2, trivial⟩
  · unfold ref02_Apply plane_Apply
    simp only [n1, d3, e3]
theorem back_eq {x : Rot} {y : Vec} (hc : I64 x.C.V) (hs : I64 x.S.V) (hy : IV y) : P_plane_Back x y ∧ P_ref02_Back x y ∧ ref02_Back x y = plane_Back x y ∧ IV (plane_Back x y) := by
  obtain ⟨n1, n2⟩ := neg2 hs
  obtain ⟨d1, d2, d3, d4⟩ := dot2 hc hy.1 hs hy.2
  obtain ⟨e1, e2, e3, e4⟩ := dot2 n2 hy.1 hc hy.2
  refine ⟨⟨d1, e1, trivial⟩, ?_, ?_, d4, e4⟩
  · unfold P_ref02_Back
    simp only [n1]
    exact ⟨d2, e2, trivial⟩
  · unfold ref02_Back plane_Back
    simp only [n1, d3, e3]
end Go.Bag

