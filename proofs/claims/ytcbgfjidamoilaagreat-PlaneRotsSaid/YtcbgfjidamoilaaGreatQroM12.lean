/- Faults, lengths, units: the program's and the reference's are one. -/
import Derived.Test.YtcbgfjidamoilaaGreatQroM11
set_option linter.unusedVariables false
namespace Go.Bag
open Go Go.AbsK

def IV (v : Vec) : Prop := I64 v.X.V ∧ I64 v.Y.V
/-- A vector with a flag. -/
def fl (v : Vec) : Bool := (fixed_sound v.X).F || (fixed_sound v.Y).F
theorem sat_F {n : Int} (f : Bool) (h1 : -9223372036854775807 ≤ n) (h2 : n ≤ 9223372036854775807) : sat n f = ⟨n, f⟩ := by
  unfold sat
  rw [if_neg (by omega), if_neg (by omega)]
theorem flagged_eq {x : Num} (h : I64 x.V) : P_ref02_flagged x ∧ ref02_flagged x = (fixed_sound x).F := by
  obtain ⟨a, b, c, d⟩ := sum_eq [x] (by simp) (by intro y hy; rw [List.mem_singleton.1 hy]; exact h)
  obtain ⟨⟨h1, h2⟩, h3⟩ := snd_I64 h
  refine ⟨⟨b, trivial⟩, ?_⟩
  show (ref01_Sum [x]).F = _
  rw [d]
  have e : sumV [x] = (fixed_sound x).V := by simp [sumV]
  unfold sumN
  rw [e, sat_F _ h3 h2]
  simp [sumF]
theorem fault1_eq (v : Vec) : plane_Fault_in1 v = fl v := by
  unfold plane_Fault_in1 fl fixed_Neg
  simp only []
  cases (fixed_sound v.X).F <;> simp
theorem index_iter (l : List Vec) (hl : l.length < 1000000) : ∀ (m k i : Nat), i + m = l.length →
    ∃ r, iterO (slices_IndexFunc_L0_step l) (m + 1 + k) (i : Int) = some r ∧ (if r.1 = 0 then decide (r.2.1 ≥ 0) else decide ((-1 : Int) ≥ 0)) = (l.drop i).any fl := by
  intro m
  induction m with
  | zero =>
    intro k i h
    have hd : l.drop i = [] := List.drop_eq_nil_of_le (by omega)
    refine ⟨(1, default, ()), ?_, by rw [hd]; rfl⟩
    rw [show 0 + 1 + k = k + 1 from by omega]
    refine iterO_inr ?_
    unfold slices_IndexFunc_L0_step
    rw [if_neg (by omega)]
  | succ m ih =>
    intro k i h
    have hi : i < l.length := by omega
    rw [show m + 1 + 1 + k = (m + 1 + k) + 1 from by omega, drop_cons l i hi, List.any_cons]
    have hst : slices_IndexFunc_L0_step l (i : Int) = if fl l[i] = true then some (.inr (0, (i : Int), default)) else some (.inl ((i + 1 : Nat) : Int)) := by
      unfold slices_IndexFunc_L0_step
      rw [if_pos (by omega), if_pos ⟨by omega, by omega⟩, nth_eq l i hi, i64_id ⟨by omega, by omega⟩, fault1_eq]
      rfl
    by_cases hf : fl l[i] = true
    · rw [if_pos hf] at hst
      refine ⟨_, iterO_inr hst, ?_⟩
      rw [hf]
      simp
    · rw [if_neg hf] at hst
      have hf' : fl l[i] = false := by simpa using hf
      rw [iterO_inl hst, hf', Bool.false_or]
      exact ih k (i + 1) (by omega)
theorem fault_eq (l : List Vec) (hl : l.length < 999999) : P_plane_Fault l ∧ plane_Fault l = l.any fl := by
  obtain ⟨r, h, h2⟩ := index_iter l (by omega) l.length (999999 - l.length) 0 (by omega)
  rw [show l.length + 1 + (999999 - l.length) = NN from by unfold NN; omega] at h
  replace h : iterO (slices_IndexFunc_L0_step l) NN 0 = some r := h
  rw [List.drop_zero] at h2
  refine ⟨⟨⟨⟨by rw [h]; rfl, trivial⟩, trivial⟩, trivial⟩, ?_⟩
  show decide (slices_IndexFunc l ≥ 0) = _
  unfold slices_IndexFunc
  rw [h, ← h2]
  simp only [Option.getD_some]
  split <;> rfl
end Go.Bag

