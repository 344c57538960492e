/- Units: the program's and the reference's are one. -/
import Derived.Test.YtcbgfjidamoilaaQunM12
set_option linter.unusedVariables false
namespace Go.Bag
open Go Go.AbsK

theorem sat_I64 (n : Int) (f : Bool) : I64 (sat n f).V := by
  unfold sat I64
  split
  · exact ⟨by decide, by decide⟩
  · split
    · exact ⟨by decide, by decide⟩
    · simp only []
      omega
theorem len_eq {v : Vec} (h : IV v) : P_plane_Len v ∧ P_ref02_Len v ∧ plane_Len v = ref02_Len v ∧ I64 (plane_Len v).V := by
  obtain ⟨s, hs, p1, p2, e1, e2⟩ := hypot_eq h.1 h.2
  refine ⟨⟨p1, trivial⟩, ⟨p2, trivial⟩, ?_, ?_⟩
  · show fixed_Hypot v.X v.Y = ref01_Hypot v.X v.Y
    rw [e1, e2]
  · show I64 (fixed_Hypot v.X v.Y).V
    rw [e1]
    exact sat_I64 _ _
theorem sound_of {x : Num} (h : (fixed_sound x).F = false) : fixed_sound x = x ∧ x.F = false ∧ x.V ≠ -9223372036854775808 := by
  unfold fixed_sound at *
  split at h
  · cases h
  · rename_i hne
    rw [if_neg hne]
    exact ⟨rfl, h, hne⟩
/-- What stands behind the length. -/
theorem unit_tail {v : Vec} (h : IV v) :
    (P_plane_Len v ∧ (if (plane_Len v).F = true then True else if (plane_Len v).V = 0 then True else P_fixed_Div v.X (plane_Len v) ∧ P_fixed_Div v.Y (plane_Len v) ∧ True)) ∧
    (P_ref02_Len v ∧ (if (ref02_Len v).F = true then True else if (ref02_Len v).V = 0 then True else P_ref01_Div v.X (ref02_Len v) ∧ P_ref01_Div v.Y (ref02_Len v) ∧ True)) ∧
    (if (plane_Len v).F = true then ((⟨⟨0, false⟩, ⟨0, false⟩⟩ : Vec), false) else if (plane_Len v).V = 0 then ((⟨⟨0, false⟩, ⟨0, false⟩⟩ : Vec), false) else ((⟨fixed_Div v.X (plane_Len v), fixed_Div v.Y (plane_Len v)⟩ : Vec), true)) =
    (if (ref02_Len v).F = true then ((⟨⟨0, false⟩, ⟨0, false⟩⟩ : Vec), false) else if (ref02_Len v).V = 0 then ((⟨⟨0, false⟩, ⟨0, false⟩⟩ : Vec), false) else ((⟨ref01_Div v.X (ref02_Len v), ref01_Div v.Y (ref02_Len v)⟩ : Vec), true)) := by
  obtain ⟨l1, l2, l3, l4⟩ := len_eq h
  rw [← l3]
  obtain ⟨a1, a2, a3, a4⟩ := div_eq h.1 l4
  obtain ⟨b1, b2, b3, b4⟩ := div_eq h.2 l4
  refine ⟨⟨l1, ?_⟩, ⟨l2, ?_⟩, ?_⟩
  · split
    · trivial
    · split
      · trivial
      · exact ⟨a1, b1, trivial⟩
  · split
    · trivial
    · split
      · trivial
      · exact ⟨a2, b2, trivial⟩
  · rw [a3, a4, b3, b4]
theorem unit_eq {x : Vec} (h : IV x) : P_plane_Unit x ∧ P_ref02_Unit x ∧ plane_Unit x = ref02_Unit x := by
  obtain ⟨f1, f2⟩ := fault_eq [x] (by simp)
  obtain ⟨g1, g2⟩ := reffault_eq [x] (by simp) (by intro v hv; rw [List.mem_singleton.1 hv]; exact h)
  have e : [x].any fl = fl x := by simp
  rw [e] at f2 g2
  by_cases hf : fl x = true
  · rw [hf] at f2 g2
    unfold P_plane_Unit P_ref02_Unit plane_Unit ref02_Unit
    simp only []
    rw [f2, g2]
    simp only [if_true]
    exact ⟨⟨f1, trivial⟩, ⟨g1, trivial⟩, trivial⟩
  · have hf' : fl x = false := by simpa using hf
    have hx : (fixed_sound x.X).F = false ∧ (fixed_sound x.Y).F = false := by
      unfold fl at hf'
      exact Bool.or_eq_false_iff.1 hf'
    obtain ⟨x1, x2, x3⟩ := sound_of hx.1
    obtain ⟨y1, y2, y3⟩ := sound_of hx.2
    obtain ⟨⟨hx1, hx2⟩, ⟨hy1, hy2⟩⟩ := id h
    rw [hf'] at f2 g2
    have wx : IntKind.i64.wrap (0 - x.X.V) = 0 - x.X.V := i64_id ⟨by omega, by omega⟩
    have wy : IntKind.i64.wrap (0 - x.Y.V) = 0 - x.Y.V := i64_id ⟨by omega, by omega⟩
    have ax : (ref01_Abs x.X).V = if x.X.V < 0 then 0 - x.X.V else x.X.V := by
      unfold ref01_Abs
      rw [whole_eq, x1]
      simp only []
      split
      · exact wx
      · rfl
    have ay : (ref01_Abs x.Y).V = if x.Y.V < 0 then 0 - x.Y.V else x.Y.V := by
      unfold ref01_Abs
      rw [whole_eq, y1]
      simp only []
      split
      · exact wy
      · rfl
    unfold P_plane_Unit P_ref02_Unit plane_Unit ref02_Unit
    simp only []
    rw [f2, g2, wx, wy, ax, ay]
    simp only [Bool.false_eq_true, if_false]
    by_cases hs : max (max (max x.X.V (0 - x.X.V)) x.Y.V) (0 - x.Y.V) < 16777216
    · have hX : (if x.X.V < 0 then 0 - x.X.V else x.X.V) < 16777216 := by split <;> omega
      have hY : (if x.Y.V < 0 then 0 - x.Y.V else x.Y.V) < 16777216 := by split <;> omega
      have hbx : -16777216 < x.X.V ∧ x.X.V < 16777216 := by omega
      have hby : -16777216 < x.Y.V ∧ x.Y.V < 16777216 := by omega
      have mx : IntKind.i64.wrap (x.X.V * 16777216) = x.X.V * 16777216 := i64_id ⟨by omega, by omega⟩
      have my : IntKind.i64.wrap (x.Y.V * 16777216) = x.Y.V * 16777216 := i64_id ⟨by omega, by omega⟩
      have ox : ref01_Of (x.X.V * 16777216) = ⟨x.X.V * 16777216, false⟩ := by
        unfold ref01_Of ref01_whole
        simp only []
        rw [if_neg (by omega)]
      have oy : ref01_Of (x.Y.V * 16777216) = ⟨x.Y.V * 16777216, false⟩ := by
        unfold ref01_Of ref01_whole
        simp only []
        rw [if_neg (by omega)]
      rw [if_pos hs, if_pos hs, if_pos hX, if_pos hX, if_pos hY, if_pos hY, mx, my, ox, oy, x2, y2]
      obtain ⟨t1, t2, t3⟩ := unit_tail (v := ⟨⟨x.X.V * 16777216, false⟩, ⟨x.Y.V * 16777216, false⟩⟩) ⟨⟨by show _ ≤ x.X.V * 16777216; omega, by show x.X.V * 16777216 ≤ _; omega⟩, ⟨by show _ ≤ x.Y.V * 16777216; omega, by show x.Y.V * 16777216 ≤ _; omega⟩⟩
      exact ⟨⟨f1, t1⟩, ⟨g1, t2⟩, t3⟩
    · obtain ⟨t1, t2, t3⟩ := unit_tail h
      rw [if_neg hs, if_neg hs]
      by_cases hX : (if x.X.V < 0 then 0 - x.X.V else x.X.V) < 16777216
      · have hY : ¬ (if x.Y.V < 0 then 0 - x.Y.V else x.Y.V) < 16777216 := by
          intro hY
          apply hs
          split at hX <;> split at hY <;> omega
        rw [if_pos hX, if_pos hX, if_neg hY, if_neg hY]
        exact ⟨⟨f1, t1⟩, ⟨g1, t2⟩, t3⟩
      · rw [if_neg hX, if_neg hX]
        exact ⟨⟨f1, t1⟩, ⟨g1, t2⟩, t3⟩
end Go.Bag

