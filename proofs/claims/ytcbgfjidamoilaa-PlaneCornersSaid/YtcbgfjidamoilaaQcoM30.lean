/- PlaneCorners. -/
import Derived.Test.YtcbgfjidamoilaaQcoM29
set_option linter.unusedVariables false
namespace Go.Bag
open Go Go.AbsK

theorem nth_map {α : Type} [Inhabited α] (f : Nat → α) {n j : Nat} (h : j < n) : nth ((List.range n).map f) (j : Int) = f j := by
  rw [nth_eq _ j (by rw [List.length_map, List.length_range]; exact h)]
  simp
/-- Corners that are near: a polygon is refused only for its form. -/
theorem poly_val {l : List Spot} (h3 : 3 ≤ l.length) (h8 : l.length ≤ 8) (hc : ∀ j, j < l.length → Cd (nth l (j : Int)).X ∧ Cd (nth l (j : Int)).Y) :
    P_plane_Poly l ∧ ((∀ i, i < l.length → okAt l i) → plane_Poly l = (⟨3, 0, 0, 0, l⟩, 0) ∧ ShOK ⟨3, 0, 0, 0, l⟩) ∧ ((¬ ∀ i, i < l.length → okAt l i) → (plane_Poly l).2 = 5) := by
  have hcv := (convex_iff (l := l) (by omega) (by omega)).2
  have hck : plane_CheckShape ⟨3, 0, 0, 0, l⟩ = if plane_convex l = true then 0 else 5 := by
    have lp := check_loops ⟨3, 0, 0, 0, l⟩ (by simp only []; omega)
    simp only at lp
    rcases lp with ⟨j, g1, g2, -, -⟩ | ⟨-, g2, -⟩
    · have := hc j g1
      unfold far at g2
      simp [this.1, this.2] at g2
    · unfold plane_CheckShape
      simp only []
      rw [if_neg (by decide), if_neg (by decide), if_pos trivial, if_pos trivial, if_pos trivial, if_pos trivial, if_neg (by omega), if_neg (by omega), g2]
      rfl
  refine ⟨(poly_eq l (by omega)).1, fun h => ?_, fun h => ?_⟩
  · rw [if_pos (hcv.2 h)] at hck
    refine ⟨?_, (check_eq _).2.2.2.1 hck⟩
    unfold plane_Poly V_plane_sound plane_sound
    simp [hck]
  · rw [if_neg (fun g => h (hcv.1 g))] at hck
    unfold plane_Poly V_plane_sound plane_sound
    simp [hck]
theorem okAt_turned {l l' : List Spot} {n : Nat} (hl : l.length = n) (hl' : l'.length = n) (h3 : 3 ≤ n) (ht : ∀ j, j < n → nth l' (j : Int) = nth l (((j + 1) % n : Nat) : Int)) (h : ∀ i, i < n → okAt l i) : ∀ i, i < n → okAt l' i := by
  intro i hi
  have hp : 0 < n := by omega
  have hi' := Nat.mod_lt (i + 1) hp
  have ho := (okAt_ref (l := l) (i := (i + 1) % n) (by omega)).1 (h _ hi')
  have e : ∀ k, nth l' (((i + k) % n : Nat) : Int) = nth l ((((i + 1) % n + k) % n : Nat) : Int) := by
    intro k
    rw [ht _ (Nat.mod_lt _ hp), Nat.mod_add_mod, Nat.mod_add_mod, show i + k + 1 = i + 1 + k by omega]
  have e0 : nth l' (i : Int) = nth l (((i + 1) % n : Nat) : Int) := ht i hi
  have nx' : ∀ k, nx l' i k = nx l ((i + 1) % n) k := by
    intro k
    unfold nx
    rw [hl, hl']
    exact e k
  have ed : edge l' i = edge l ((i + 1) % n) := by unfold edge; rw [nx', e0]
  refine (okAt_ref (l := l') (by omega)).2 ⟨?_, fun k h2 hk => ?_⟩
  · have := ho.1
    unfold sharp at this ⊢
    rw [nx', nx', ed, e0]
    exact this
  · have := ho.2 k h2 (by omega)
    unfold notLeft at this ⊢
    rw [ed, e0, hl', e k]
    rw [hl] at this
    exact this
theorem not_okAt_back {l l' : List Spot} {n : Nat} (hl : l.length = n) (hl' : l'.length = n) (h3 : 3 ≤ n) (hcd : ∀ j, j < n → Cd (nth l (j : Int)).X ∧ Cd (nth l (j : Int)).Y) (ht : ∀ j, j < n → nth l' (j : Int) = nth l ((n - 1 - j : Nat) : Int)) (h : ∀ i, i < n → okAt l i) : ¬ ∀ i, i < n → okAt l' i := by
  intro h'
  have h0 := (h' 0 (by omega)).1
  have h1 := (h (n - 2) (by omega)).1
  unfold sharp at h0 h1
  rw [Bool.or_eq_false_iff, decide_eq_false_iff_not] at h0 h1
  have a := h0.1
  have b := h1.1
  unfold nx at a b
  rw [hl'] at a
  rw [hl] at b
  have m1 : (0 + 1) % n = 1 := Nat.mod_eq_of_lt (by omega)
  have m2 : (n - 2 + 1) % n = n - 1 := by rw [Nat.mod_eq_of_lt (by omega)]; omega
  rw [m1, ht 1 (by omega), ht 0 (by omega), show n - 1 - 0 = n - 1 by omega, show n - 1 - 1 = n - 2 by omega] at a
  rw [m2] at b
  rw [(cross_val (hcd _ (by omega)) (hcd _ (by omega))).1] at a b
  generalize nth l ((n - 1 : Nat) : Int) = A at *
  generalize nth l ((n - 2 : Nat) : Int) = B at *
  have : A.X * B.Y - A.Y * B.X = -(B.X * A.Y - B.Y * A.X) := by grind
  omega
theorem reach_val {l : List Spot} (hl : l.length ≤ 1000) (hc : ∀ j, j < l.length → Cd (nth l (j : Int)).X ∧ Cd (nth l (j : Int)).Y) :
    ∀ n, n ≤ l.length → (0 ≤ (List.range n).foldl (fun s i => plane_Reach_R_step l i s) 0 ∧ (List.range n).foldl (fun s i => plane_Reach_R_step l i s) 0 ≤ 6000) ∧
      (∀ i, i < n → plane_spot_dot (nth l (i : Int)) (nth l (i : Int)) ≤ (List.range n).foldl (fun s i => plane_Reach_R_step l i s) 0 * (List.range n).foldl (fun s i => plane_Reach_R_step l i s) 0) ∧
      ∀ B, 0 ≤ B → (∀ i, i < n → plane_spot_dot (nth l (i : Int)) (nth l (i : Int)) ≤ B * B) → (List.range n).foldl (fun s i => plane_Reach_R_step l i s) 0 ≤ B := by
  intro n
  induction n with
  | zero => exact fun _ => ⟨⟨Int.le_refl _, show (0 : Int) ≤ 6000 by decide⟩, fun i hi => absurd hi (Nat.not_lt_zero _), fun B hB _ => hB⟩
  | succ n ih =>
    intro hn
    obtain ⟨⟨i1, i2⟩, i3, i4⟩ := ih (by omega)
    obtain ⟨m, hm, h6⟩ := up_exists (d := plane_spot_dot (nth l (n : Int)) (nth l (n : Int)))
    have h6' := h6 (dot_small (hc n (by omega)))
    obtain ⟨a1, a2⟩ := above_val hm (by omega)
    have e : (List.range (n + 1)).foldl (fun s i => plane_Reach_R_step l i s) 0 = max ((List.range n).foldl (fun s i => plane_Reach_R_step l i s) 0) m := by
      rw [List.range_succ, List.foldl_append]
      show plane_Reach_R_step l n _ = _
      unfold plane_Reach_R_step
      simp only [cn_eq]
      rw [a2]
    rw [e]
    generalize (List.range n).foldl (fun s i => plane_Reach_R_step l i s) 0 = M at *
    refine ⟨by have := hm.1; omega, fun i hi => ?_, fun B hB hd => ?_⟩
    · by_cases h : i < n
      · exact Int.le_trans (i3 i h) (sq_le i1 (by omega))
      · obtain rfl : i = n := by omega
        exact Int.le_trans hm.2.1 (sq_le hm.1 (by omega))
    · have := i4 B hB (fun i hi => hd i (by omega))
      have := up_le hm hB (hd n (by omega))
      omega
/-- The corner that an angle and a size make. -/
def vtx (size X : Int) : Spot := ⟨((plane_Angle ⟨X, false⟩).C.V * size).fdiv 4294967296, ((plane_Angle ⟨X, false⟩).S.V * size).fdiv 4294967296⟩
theorem vtx_spec {size X : Int} (hX : -9223372036854775807 ≤ X ∧ X ≤ 9223372036854775807) (hs : 40 ≤ size ∧ size ≤ 4000) :
    P_plane_Angle ⟨X, false⟩ ∧ IntKind.i64.wrap ((plane_Angle ⟨X, false⟩).C.V * size) = (plane_Angle ⟨X, false⟩).C.V * size ∧ IntKind.i64.wrap ((plane_Angle ⟨X, false⟩).S.V * size) = (plane_Angle ⟨X, false⟩).S.V * size ∧
      (Cd (vtx size X).X ∧ Cd (vtx size X).Y) ∧ plane_spot_dot (vtx size X) (vtx size X) ≤ (size + 2) * (size + 2) ∧
      ∀ (k : Int) (j : Nat), (-26986110000 ≤ 1680 * X - (2 * (j : Int) + 1) * 26986075409 - 1680 * (k * 26986075409) ∧ 1680 * X - (2 * (j : Int) + 1) * 26986075409 - 1680 * (k * 26986075409) ≤ 26986110000) → 200 ≤ size → Near size (vtx size X) (tP j) := by
  obtain ⟨p1, -⟩ := angleP (x := ⟨X, false⟩) ⟨by simp only []; omega, by simp only []; omega⟩
  have hr := angle_rot hX
  obtain ⟨w, w', k0, k1, e, -⟩ := angle_sv hX
  have hC : -4294967296 ≤ (plane_Angle ⟨X, false⟩).C.V ∧ (plane_Angle ⟨X, false⟩).C.V ≤ 4294967296 := by rw [e]; exact sv_bd _
  have hS : -4294967296 ≤ (plane_Angle ⟨X, false⟩).S.V ∧ (plane_Angle ⟨X, false⟩).S.V ≤ 4294967296 := by rw [e]; exact sv_bd _
  have h2 := hr.hi
  have hnear : ∀ (k : Int) (j : Nat), (-26986110000 ≤ 1680 * X - (2 * (j : Int) + 1) * 26986075409 - 1680 * (k * 26986075409) ∧ 1680 * X - (2 * (j : Int) + 1) * 26986075409 - 1680 * (k * 26986075409) ≤ 26986110000) →
      (-42000000 ≤ (plane_Angle ⟨X, false⟩).C.V - tS (j + 210) ∧ (plane_Angle ⟨X, false⟩).C.V - tS (j + 210) ≤ 42000000) ∧ (-42000000 ≤ (plane_Angle ⟨X, false⟩).S.V - tS j ∧ (plane_Angle ⟨X, false⟩).S.V - tS j ≤ 42000000) := by
    intro k j h
    obtain ⟨C, S, e', -, -, g1, g2⟩ := angle_near hX h
    rw [e']
    exact ⟨g1, g2⟩
  unfold vtx Near
  simp only []
  generalize (plane_Angle ⟨X, false⟩).C.V = C at *
  generalize (plane_Angle ⟨X, false⟩).S.V = S at *
  have m1 := mul_bd (M := 4294967296) (N := 4000) (by decide) hC (show -4000 ≤ size ∧ size ≤ 4000 by omega)
  have m2 := mul_bd (M := 4294967296) (N := 4000) (by decide) hS (show -4000 ≤ size ∧ size ≤ 4000 by omega)
  rw [fdiv_pos _ _ (by decide), fdiv_pos _ _ (by decide)]
  obtain ⟨x, hx⟩ : ∃ x, x = C * size / 4294967296 := ⟨_, rfl⟩
  obtain ⟨y, hy⟩ : ∃ y, y = S * size / 4294967296 := ⟨_, rfl⟩
  rw [← hx, ← hy]
  have x1 : 4294967296 * x ≤ C * size ∧ C * size < 4294967296 * x + 4294967296 := by omega
  have y1 : 4294967296 * y ≤ S * size ∧ S * size < 4294967296 * y + 4294967296 := by omega
  have hcx : Cd x := by unfold Cd; omega
  have hcy : Cd y := by unfold Cd; omega
  refine ⟨p1, i64_id ⟨by omega, by omega⟩, i64_id ⟨by omega, by omega⟩, ⟨hcx, hcy⟩, ?_, fun k j h h200 => ?_⟩
  · rw [(dot_val (a := ⟨x, y⟩) (b := ⟨x, y⟩) ⟨hcx, hcy⟩ ⟨hcx, hcy⟩).1]
    simp only []
    -- the sum of the two numbers' sizes
    have habs : (C.natAbs : Int) + (S.natAbs : Int) ≤ 6074010000 := by
      have hh := sq_lt_of (a := (C.natAbs : Int) + (S.natAbs : Int)) (b := 6074010001) (by decide) (by
        have c1 := sq_nat C
        have c2 := sq_nat S
        have c3 := sq_nonneg ((C.natAbs : Int) - (S.natAbs : Int))
        have i1 : ((C.natAbs : Int) + (S.natAbs : Int)) * ((C.natAbs : Int) + (S.natAbs : Int)) = 2 * ((C.natAbs : Int) * (C.natAbs : Int)) + 2 * ((S.natAbs : Int) * (S.natAbs : Int)) - ((C.natAbs : Int) - (S.natAbs : Int)) * ((C.natAbs : Int) - (S.natAbs : Int)) := by grind
        rw [i1]
        omega) (by omega)
      omega
    have r1 := mul_bd (a := C) (b := C * size - 4294967296 * x) (M := (C.natAbs : Int)) (N := 4294967296) (by omega) (by omega) (by omega)
    have r2 := mul_bd (a := S) (b := S * size - 4294967296 * y) (M := (S.natAbs : Int)) (N := 4294967296) (by omega) (by omega) (by omega)
    have r3 := mul_bd (a := C * size - 4294967296 * x) (b := C * size - 4294967296 * x) (M := 4294967296) (N := 4294967296) (by omega) (by omega) (by omega)
    have r4 := mul_bd (a := S * size - 4294967296 * y) (b := S * size - 4294967296 * y) (M := 4294967296) (N := 4294967296) (by omega) (by omega) (by omega)
    have hT : -(4294967296 * 6074010000) ≤ C * (C * size - 4294967296 * x) + S * (S * size - 4294967296 * y) := by omega
    have hsT := Int.mul_le_mul_of_nonneg_left hT (show 0 ≤ size by omega)
    have hss : size * size ≤ 4000 * size := Int.mul_le_mul_of_nonneg_right hs.2 (by omega)
    have hss0 : 0 ≤ size * size := sq_nonneg size
    have hq : size * size * (C * C + S * S) ≤ size * size * 18446779258081640448 := Int.mul_le_mul_of_nonneg_left h2 hss0
    have i1 : 18446744073709551616 * (x * x + y * y) = size * size * (C * C + S * S) - 2 * (size * (C * (C * size - 4294967296 * x) + S * (S * size - 4294967296 * y))) + (C * size - 4294967296 * x) * (C * size - 4294967296 * x) + (S * size - 4294967296 * y) * (S * size - 4294967296 * y) := by grind
    have i2 : (size + 2) * (size + 2) = size * size + 4 * size + 4 := by grind
    omega
  · obtain ⟨g1, g2⟩ := hnear k j h
    unfold tP
    simp only []
    have q1 := mul_bd (a := C - tS (j + 210)) (b := size) (M := 42000000) (N := size) (by decide) g1 ⟨by omega, Int.le_refl _⟩
    have q2 := mul_bd (a := S - tS j) (b := size) (M := 42000000) (N := size) (by decide) g2 ⟨by omega, Int.le_refl _⟩
    have i1 : (C - tS (j + 210)) * size = C * size - size * tS (j + 210) := by grind
    have i2 : (S - tS j) * size = S * size - size * tS j := by grind
    rw [i1] at q1
    rw [i2] at q2
    omega
end Go.Bag

