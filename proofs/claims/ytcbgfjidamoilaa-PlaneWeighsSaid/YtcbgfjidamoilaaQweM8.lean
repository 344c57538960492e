/- The reference's sums; flags; products of numbers. -/
import Derived.Test.YtcbgfjidamoilaaQweM6
set_option linter.unusedVariables false
namespace Go.Bag
open Go Go.AbsK

theorem nth_eq {α : Type} [Inhabited α] (l : List α) (i : Nat) (h : i < l.length) : nth l (i : Int) = l[i] := by
  unfold nth
  rw [Int.toNat_natCast, List.getD_eq_getElem?_getD, List.getElem?_eq_getElem h]
  rfl
theorem drop_cons {α : Type} (l : List α) (i : Nat) (h : i < l.length) : l.drop i = l[i] :: l.drop (i + 1) := (List.getElem_cons_drop (h := h)).symm
theorem flags_iter (l : List Num) (hl : l.length < 1000000) : ∀ (m k i : Nat), i + m = l.length →
    iterO (fixed_flags_L0_step l) (m + 1 + k) (i : Int) = some (if (l.drop i).any (·.F) = true then (0, (), default) else (1, default, ()))
  | 0, k, i, h => by
    have hd : l.drop i = [] := List.drop_eq_nil_of_le (by omega)
    rw [show 0 + 1 + k = k + 1 from by omega, hd]
    refine iterO_inr ?_
    unfold fixed_flags_L0_step
    rw [if_neg (by omega)]
    rfl
  | m + 1, k, i, h => by
    have hi : i < l.length := by omega
    rw [show m + 1 + 1 + k = (m + 1 + k) + 1 from by omega, drop_cons l i hi, List.any_cons]
    have hst : fixed_flags_L0_step l (i : Int) = if (l[i]).F = true then some (.inr (0, (), default)) else some (.inl ((i + 1 : Nat) : Int)) := by
      unfold fixed_flags_L0_step
      rw [if_pos (by omega), if_pos ⟨by omega, by omega⟩, nth_eq l i hi, i64_id ⟨by omega, by omega⟩]
      rfl
    by_cases hf : (l[i]).F = true
    · rw [if_pos hf] at hst
      rw [iterO_inr hst, hf]
      rfl
    · rw [if_neg hf] at hst
      rw [iterO_inl hst, flags_iter l hl m k (i + 1) (by omega)]
      have : (l[i]).F = false := by simpa using hf
      rw [this, Bool.false_or]
theorem flags_spec (l : List Num) (hl : l.length < 999999) : P_fixed_flags l ∧ fixed_flags l = l.any (·.F) := by
  have h := flags_iter l (by omega) l.length (999999 - l.length) 0 (by omega)
  rw [show l.length + 1 + (999999 - l.length) = NN from by unfold NN; omega, List.drop_zero] at h
  replace h : iterO (fixed_flags_L0_step l) NN 0 = _ := h
  unfold P_fixed_flags fixed_flags
  rw [h]
  refine ⟨⟨rfl, trivial⟩, ?_⟩
  cases l.any (·.F) <;> rfl
theorem snd_I64 {x : Num} (h : I64 x.V) : I64 (fixed_sound x).V ∧ -9223372036854775807 ≤ (fixed_sound x).V := by
  unfold I64 at *
  unfold fixed_sound
  split
  · exact ⟨⟨by decide, by decide⟩, by decide⟩
  · omega
theorem whole_eq (x : Num) : ref01_whole x = ((fixed_sound x).V, (fixed_sound x).F) := by
  unfold ref01_whole fixed_sound
  split <;> rfl
/-- The quotient of two numbers. -/
def divN (x y : Num) : Num := ⟨(rat (fixed_sound x).V (fixed_sound y).V).V, (rat (fixed_sound x).V (fixed_sound y).V).F || (fixed_sound x).F || (fixed_sound y).F⟩
theorem div_eq {x y : Num} (hx : I64 x.V) (hy : I64 y.V) : P_fixed_Div x y ∧ P_ref01_Div x y ∧ fixed_Div x y = divN x y ∧ ref01_Div x y = divN x y := by
  have sx := (snd_I64 hx).1
  have sy := (snd_I64 hy).1
  obtain ⟨f1, f2⟩ := flags_spec [fixed_sound x, fixed_sound y] (by simp)
  obtain ⟨a1, a2⟩ := ratio_eq sx sy
  obtain ⟨b1, b2⟩ := ref_ratio_eq sx sy
  refine ⟨⟨a1, ?_⟩, ?_, ?_, ?_⟩
  · split
    · trivial
    · exact ⟨f1, trivial⟩
  · unfold P_ref01_Div
    rw [whole_eq, whole_eq]
    simp only []
    split
    · trivial
    · exact ⟨b1, trivial⟩
  · unfold fixed_Div divN
    simp only []
    rw [a2, f2]
    split
    · rename_i h
      rw [h]
      simp
    · rename_i h
      have : (rat (fixed_sound x).V (fixed_sound y).V).F = false := by simpa using h
      rw [this]
      simp
  · unfold ref01_Div divN
    rw [whole_eq, whole_eq]
    simp only []
    split
    · rename_i h0
      rw [h0]
      unfold rat ref01_none
      rw [if_pos rfl]
      split
      · simp
      · split <;> simp
    · rw [b2]
      cases (rat (fixed_sound x).V (fixed_sound y).V).F <;> cases (fixed_sound x).F <;> simp
end Go.Bag

