/- Sums of vectors; poses. -/
import Derived.Test.YtcbgfjidamoilaaQtuM14
set_option linter.unusedVariables false
namespace Go.Bag
open Go Go.AbsK

theorem set_mid {α : Type} (A : List α) (m : Nat) (z v : α) {i : Nat} (h : A.length = i) : (A ++ List.replicate (m + 1) z).set i v = A ++ [v] ++ List.replicate m z := by
  rw [List.set_append_right _ _ (by rw [h]; omega), h, Nat.sub_self, List.replicate_succ]
  simp
theorem padd_iter (l : List Vec) (hl : l.length < 1000000) : ∀ (m k i : Nat), i + m = l.length →
    iterO (plane_Add_L0_step l) (m + 1 + k) ((l.take i).map (·.X) ++ List.replicate m ⟨0, false⟩, (l.take i).map (·.Y) ++ List.replicate m ⟨0, false⟩, (i : Int)) = some (l.map (·.X), l.map (·.Y)) := by
  intro m
  induction m with
  | zero =>
    intro k i h
    rw [show 0 + 1 + k = k + 1 from by omega, List.take_of_length_le (by omega)]
    refine iterO_inr ?_
    unfold plane_Add_L0_step
    simp only []
    rw [if_neg (by omega)]
    simp
  | succ m ih =>
    intro k i h
    have hi : i < l.length := by omega
    have hx : ((l.take i).map (·.X)).length = i := by rw [List.length_map, List.length_take]; omega
    have hy : ((l.take i).map (·.Y)).length = i := by rw [List.length_map, List.length_take]; omega
    have ih := ih k (i + 1) (by omega)
    rw [List.take_succ_eq_append_getElem hi, List.map_append, List.map_append] at ih
    rw [show m + 1 + 1 + k = (m + 1 + k) + 1 from by omega, ← ih]
    refine iterO_inl ?_
    unfold plane_Add_L0_step
    simp only []
    have hb1 : (0 : Int) ≤ (i : Int) ∧ (i : Int) < ((((l.take i).map (·.X) ++ List.replicate (m + 1) (⟨0, false⟩ : Num)).length : Nat) : Int) := by
      rw [List.length_append, hx, List.length_replicate]
      omega
    have hb2 : (0 : Int) ≤ (i : Int) ∧ (i : Int) < ((((l.take i).map (·.Y) ++ List.replicate (m + 1) (⟨0, false⟩ : Num)).length : Nat) : Int) := by
      rw [List.length_append, hy, List.length_replicate]
      omega
    rw [if_pos (by omega), if_pos ⟨by omega, by omega⟩, if_pos hb1, if_pos hb2, nth_eq l i hi, i64_id ⟨by omega, by omega⟩, Int.toNat_natCast, set_mid _ _ _ _ hx, set_mid _ _ _ _ hy]
    rfl
theorem radd_iter (l : List Vec) (hl : l.length < 1000000) : ∀ (m k i : Nat), i + m = l.length →
    iterO (ref02_Add_L0_step l) (m + 1 + k) ((l.take i).map (·.X), (l.take i).map (·.Y), (i : Int)) = some (l.map (·.X), l.map (·.Y)) := by
  intro m
  induction m with
  | zero =>
    intro k i h
    rw [show 0 + 1 + k = k + 1 from by omega, List.take_of_length_le (by omega)]
    refine iterO_inr ?_
    unfold ref02_Add_L0_step
    simp only []
    rw [if_neg (by omega)]
  | succ m ih =>
    intro k i h
    have hi : i < l.length := by omega
    have hx : ((l.take i).map (·.X)).length = i := by rw [List.length_map, List.length_take]; omega
    have hy : ((l.take i).map (·.Y)).length = i := by rw [List.length_map, List.length_take]; omega
    have ih := ih k (i + 1) (by omega)
    rw [List.take_succ_eq_append_getElem hi, List.map_append, List.map_append] at ih
    rw [show m + 1 + 1 + k = (m + 1 + k) + 1 from by omega, ← ih]
    refine iterO_inl ?_
    unfold ref02_Add_L0_step
    simp only []
    rw [if_pos (by omega), if_pos ⟨by omega, by omega⟩, if_pos (by rw [hx]; omega), if_pos (by rw [hy]; omega), nth_eq l i hi, i64_id ⟨by omega, by omega⟩]
    rfl
theorem vadd_eq (l : List Vec) (hl : l.length < 999999) (hv : ∀ v ∈ l, IV v) : P_plane_Add l ∧ P_ref02_Add l ∧ ref02_Add l = plane_Add l ∧ IV (plane_Add l) ∧ plane_Add l = ⟨sumN (l.map (·.X)), sumN (l.map (·.Y))⟩ := by
  have h := padd_iter l (by omega) l.length (999999 - l.length) 0 (by omega)
  have g := radd_iter l (by omega) l.length (999999 - l.length) 0 (by omega)
  rw [show l.length + 1 + (999999 - l.length) = NN from by unfold NN; omega] at h g
  replace h : iterO (plane_Add_L0_step l) NN (List.replicate l.length ⟨0, false⟩, List.replicate l.length ⟨0, false⟩, 0) = some (l.map (·.X), l.map (·.Y)) := h
  replace g : iterO (ref02_Add_L0_step l) NN ([], [], 0) = some (l.map (·.X), l.map (·.Y)) := g
  obtain ⟨a1, a2, a3, a4⟩ := sum_eq (l.map (·.X)) (by rw [List.length_map]; exact hl) (by intro x hx; obtain ⟨v, hv', rfl⟩ := List.mem_map.1 hx; exact (hv v hv').1)
  obtain ⟨b1, b2, b3, b4⟩ := sum_eq (l.map (·.Y)) (by rw [List.length_map]; exact hl) (by intro x hx; obtain ⟨v, hv', rfl⟩ := List.mem_map.1 hx; exact (hv v hv').2)
  have e1 : plane_Add l = ⟨sumN (l.map (·.X)), sumN (l.map (·.Y))⟩ := by
    unfold plane_Add
    rw [h]
    simp only [Option.getD_some, a3, b3]
  have e2 : ref02_Add l = ⟨sumN (l.map (·.X)), sumN (l.map (·.Y))⟩ := by
    unfold ref02_Add
    rw [g]
    simp only [Option.getD_some, a4, b4]
  refine ⟨⟨by omega, by rw [h]; rfl, ?_⟩, ⟨by rw [g]; rfl, ?_⟩, by rw [e1, e2], ?_, e1⟩
  · rw [h]
    exact ⟨a1, b1, trivial⟩
  · rw [g]
    exact ⟨a2, b2, trivial⟩
  · rw [e1]
    exact ⟨sat_I64 _ _, sat_I64 _ _⟩
theorem allV2 {x z : Vec} (h : IV x) (h' : IV z) : ∀ y ∈ [x, z], IV y := by
  intro y hy
  rcases List.mem_cons.1 hy with rfl | hy
  · exact h
  · rw [List.mem_singleton.1 hy]; exact h'
theorem to_eq {x : Pose} {y : Vec} (ha : IV x.At) (hc : I64 x.Rot.C.V) (hs : I64 x.Rot.S.V) (hy : IV y) : P_plane_To x y ∧ P_ref02_To x y ∧ ref02_To x y = plane_To x y ∧ IV (plane_To x y) := by
  obtain ⟨a1, a2, a3, a4⟩ := apply_eq hc hs hy
  obtain ⟨b1, b2, b3, b4, -⟩ := vadd_eq [x.At, plane_Apply x.Rot y] (by simp) (allV2 ha a4)
  refine ⟨⟨a1, b1, trivial⟩, ?_, ?_, b4⟩
  · unfold P_ref02_To
    simp only [a3]
    exact ⟨a2, b2, trivial⟩
  · unfold ref02_To plane_To
    simp only [a3, b3]
theorem from_eq {x : Pose} {y : Vec} (ha : IV x.At) (hc : I64 x.Rot.C.V) (hs : I64 x.Rot.S.V) (hy : IV y) : P_plane_From x y ∧ P_ref02_From x y ∧ ref02_From x y = plane_From x y := by
  obtain ⟨a1, a2, a3, a4⟩ := sub_eq hy ha
  obtain ⟨b1, b2, b3, b4⟩ := back_eq hc hs a4
  refine ⟨⟨a1, b1, trivial⟩, ?_, ?_⟩
  · unfold P_ref02_From
    simp only [a3]
    exact ⟨a2, b2, trivial⟩
  · unfold ref02_From plane_From
    simp only [a3, b3]
end Go.Bag

