/- Vectors, turns, solutions: the program's and the reference's are one. -/
import Derived.Test.YtcbgfjidamoilaaQcoM13
set_option linter.unusedVariables false
namespace Go.Bag
open Go Go.AbsK

theorem neg2 {x : Num} (h : I64 x.V) : ref01_Neg x = fixed_Neg x ∧ I64 (fixed_Neg x).V := by
  obtain ⟨e1, e2⟩ := neg_eq h
  obtain ⟨⟨h1, h2⟩, h3⟩ := snd_I64 h
  rw [e1, e2]
  exact ⟨rfl, by show _ ≤ -(fixed_sound x).V; omega, by show -(fixed_sound x).V ≤ _; omega⟩
theorem div2 {x y : Num} (hx : I64 x.V) (hy : I64 y.V) : P_fixed_Div x y ∧ P_ref01_Div x y ∧ ref01_Div x y = fixed_Div x y ∧ I64 (fixed_Div x y).V := by
  obtain ⟨a, b, c, d⟩ := div_eq hx hy
  rw [c, d]
  exact ⟨a, b, rfl, rat_I64 _ _⟩
theorem mul2 {x y : Num} (hx : I64 x.V) (hy : I64 y.V) : P_fixed_Mul x y ∧ ref01_Mul x y = fixed_Mul x y ∧ I64 (fixed_Mul x y).V := by
  obtain ⟨a, c, d⟩ := mul_eq hx hy
  rw [c, d]
  exact ⟨a, rfl, sat_I64 _ _⟩
theorem sum2 (l : List Num) (hl : l.length < 999999) (hv : ∀ x ∈ l, I64 x.V) : P_fixed_Sum l ∧ P_ref01_Sum l ∧ ref01_Sum l = fixed_Sum l ∧ I64 (fixed_Sum l).V := by
  obtain ⟨a, b, c, d⟩ := sum_eq l hl hv
  rw [c, d]
  exact ⟨a, b, rfl, sat_I64 _ _⟩
theorem all2 {x z : Num} (h : I64 x.V) (h' : I64 z.V) : ∀ y ∈ [x, z], I64 y.V := by
  intro y hy
  rcases List.mem_cons.1 hy with rfl | hy
  · exact h
  · rw [List.mem_singleton.1 hy]; exact h'
end Go.Bag

