/- Vectors in lists: sums in any order, equal functions. -/
import Derived.Test.YtcbgfjidamoilaaQsuM17
set_option linter.unusedVariables false
namespace Go.Bag
open Go Go.AbsK

/-- A loop that goes up and never leaves early. -/
theorem iter_up {σ ρ : Type} {f : σ → Option (σ ⊕ ρ)} {g : Nat → σ} {n : Nat} {r : ρ} (hs : ∀ i, i < n → f (g i) = some (.inl (g (i + 1)))) (he : f (g n) = some (.inr r)) :
    ∀ (m k i : Nat), i + m = n → iterO f (m + 1 + k) (g i) = some r
  | 0, k, i, h => by
    obtain rfl : i = n := by omega
    rw [show 0 + 1 + k = k + 1 from by omega]
    exact iterO_inr he
  | m + 1, k, i, h => by
    rw [show m + 1 + 1 + k = (m + 1 + k) + 1 from by omega, iterO_inl (hs i (by omega))]
    exact iter_up hs he m k (i + 1) (by omega)
theorem iter_upN {σ ρ : Type} {f : σ → Option (σ ⊕ ρ)} {g : Nat → σ} {n : Nat} {r : ρ} (hn : n < 999999) (hs : ∀ i, i < n → f (g i) = some (.inl (g (i + 1)))) (he : f (g n) = some (.inr r)) : iterO f NN (g 0) = some r := by
  have := iter_up hs he n (999999 - n) 0 (by omega)
  rwa [show n + 1 + (999999 - n) = NN from by unfold NN; omega] at this
/-- A vector that was made of integers. -/
def Small (v : Vec) : Prop := v.X.F = false ∧ v.Y.F = false ∧ (-4294967296000000 < v.X.V ∧ v.X.V < 4294967296000000) ∧ (-4294967296000000 < v.Y.V ∧ v.Y.V < 4294967296000000)
theorem Small.iv {v : Vec} (h : Small v) : IV v := by
  obtain ⟨-, -, h1, h2⟩ := h
  unfold IV I64
  omega
theorem snd_id {x : Num} (h : x.V ≠ -9223372036854775808) : fixed_sound x = x := by unfold fixed_sound; rw [if_neg h]
theorem small_within {x y : Int} (hx : I64 x) (hy : I64 y) : P_law02_within x y 1000000 ∧ Small (law02_within x y 1000000) := by
  obtain ⟨a1, a2, a3⟩ := within_spec (k := 1000000) hx hy (by decide)
  obtain ⟨-, -, -, e1, e2⟩ := num_spec (k := 1000000) hx (by decide)
  obtain ⟨-, -, -, e3, e4⟩ := num_spec (k := 1000000) hy (by decide)
  refine ⟨a1, ?_⟩
  rw [a2]
  exact ⟨rfl, rfl, ⟨by simp only []; omega, by simp only []; omega⟩, by simp only []; omega, by simp only []; omega⟩
theorem sums_step {u v : Vec} (hu : Small u) (hv : Small v) :
    (P_plane_Cross v v ∧ (plane_Cross v v).V = 0) ∧ (P_plane_Perp v ∧ P_plane_Dot v (plane_Perp v) ∧ (plane_Dot v (plane_Perp v)).V = 0) ∧
    P_plane_Sub u v ∧ P_plane_Add [u, ⟨⟨IntKind.i64.wrap (0 - v.X.V), false⟩, ⟨IntKind.i64.wrap (0 - v.Y.V), false⟩⟩] ∧
    plane_Sub u v = plane_Add [u, ⟨⟨IntKind.i64.wrap (0 - v.X.V), false⟩, ⟨IntKind.i64.wrap (0 - v.Y.V), false⟩⟩] := by
  have iu := hu.iv
  have iv := hv.iv
  obtain ⟨f1, f2, ⟨x1, x2⟩, ⟨y1, y2⟩⟩ := hv
  have sX : fixed_sound v.X = v.X := snd_id (by omega)
  have sY : fixed_sound v.Y = v.Y := snd_id (by omega)
  have nX : fixed_Neg v.X = ⟨-v.X.V, false⟩ := by rw [(neg_eq iv.1).1, sX, f1]
  have nY : fixed_Neg v.Y = ⟨-v.Y.V, false⟩ := by rw [(neg_eq iv.2).1, sY, f2]
  have snX : fixed_sound (⟨-v.X.V, false⟩ : Num) = ⟨-v.X.V, false⟩ := snd_id (by simp only []; omega)
  have snY : fixed_sound (⟨-v.Y.V, false⟩ : Num) = ⟨-v.Y.V, false⟩ := snd_id (by simp only []; omega)
  have wX : IntKind.i64.wrap (0 - v.X.V) = -v.X.V := by rw [i64_id ⟨by omega, by omega⟩]; omega
  have wY : IntKind.i64.wrap (0 - v.Y.V) = -v.Y.V := by rw [i64_id ⟨by omega, by omega⟩]; omega
  have inX : I64 (⟨-v.X.V, false⟩ : Num).V := ⟨by simp only []; omega, by simp only []; omega⟩
  have inY : I64 (⟨-v.Y.V, false⟩ : Num).V := ⟨by simp only []; omega, by simp only []; omega⟩
  obtain ⟨p1, p2, p3, p4⟩ := perp_eq iv
  have hperp : plane_Perp v = ⟨⟨-v.Y.V, false⟩, ⟨v.X.V, false⟩⟩ := by
    unfold plane_Perp
    obtain ⟨-, -, q3, -⟩ := sum_eq [v.X] (by simp) (all1 iv.1)
    simp only []
    rw [nY, q3]
    unfold sumN
    have : sumV [v.X] = v.X.V := by unfold sumV; simp [sX]
    rw [this, sat_F _ (by omega) (by omega)]
    have : sumF [v.X] = false := by unfold sumF; simp [sX, f1]
    rw [this]
  obtain ⟨c1, -, -⟩ := vcross_eq iv iv
  obtain ⟨d1, -, -⟩ := vdot_eq iv p4
  obtain ⟨s1, -, -, -⟩ := sub_eq iu iv
  obtain ⟨a1, -, -, -, a5⟩ := vadd_eq [u, ⟨⟨IntKind.i64.wrap (0 - v.X.V), false⟩, ⟨IntKind.i64.wrap (0 - v.Y.V), false⟩⟩] (by simp) (allV2 iu ⟨i64_wrap _, i64_wrap _⟩)
  refine ⟨⟨c1, ?_⟩, ⟨p1, d1, ?_⟩, s1, a1, ?_⟩
  · show (fixed_Dot v.X v.Y (fixed_Neg v.Y) v.X).V = 0
    rw [nY, (dot_eq iv.1 iv.2 inY iv.1).2.2.1]
    unfold dotN
    rw [sX, sY, snY]
    simp only []
    rw [show v.X.V * v.Y.V + -v.Y.V * v.X.V = 0 by grind]
    rfl
  · show (fixed_Dot v.X (plane_Perp v).X v.Y (plane_Perp v).Y).V = 0
    have hX : I64 (⟨v.X.V, false⟩ : Num).V := iv.1
    rw [hperp]
    simp only []
    rw [(dot_eq iv.1 inY iv.2 hX).2.2.1]
    unfold dotN
    rw [sX, sY, snY, snd_id (x := ⟨v.X.V, false⟩) (by simp only []; omega)]
    simp only []
    rw [show v.X.V * -v.Y.V + v.Y.V * v.X.V = 0 by grind]
    rfl
  · rw [a5, wX, wY]
    show (⟨fixed_Sum [u.X, fixed_Neg v.X], fixed_Sum [u.Y, fixed_Neg v.Y]⟩ : Vec) = _
    rw [nX, nY, (sum_eq _ (by simp) (all2 iu.1 inX)).2.2.1, (sum_eq _ (by simp) (all2 iu.2 inY)).2.2.1]
    rfl
theorem sum_rev (l : List Int) : l.reverse.sum = l.sum := by
  induction l with
  | nil => rfl
  | cons a l ih => rw [List.reverse_cons, List.sum_append, ih, List.sum_cons]; simp; omega
theorem sumN_rev (l : List Num) : sumN l.reverse = sumN l := by
  unfold sumN sumV sumF
  rw [List.map_reverse, sum_rev, List.any_reverse]
theorem sums_true {x : List Int} (hx : ∀ n ∈ x, I64 n) : P_law02_PlaneSums x := by
  unfold P_law02_PlaneSums
  split
  · intro r0 h0; exact h0
  · rename_i hlen
    have hnth : ∀ i : Nat, i < x.length → I64 (nth x (i : Int)) := fun i hi => by rw [nth_eq x i hi]; exact hx _ (List.getElem_mem hi)
    obtain ⟨a, ha⟩ : ∃ a : Nat → Vec, a = fun j => law02_within (nth x ((2 * j : Nat) : Int)) (nth x ((2 * j + 1 : Nat) : Int)) 1000000 := ⟨_, rfl⟩
    have hsm : ∀ j, 2 * j + 1 < x.length → Small (a j) := fun j hj => by rw [ha]; exact (small_within (hnth _ (by omega)) (hnth _ hj)).2
    have L0 : iterO (law02_PlaneSums_L0_step x) NN (([] : List Vec), 0) = some ((List.range (x.length / 2)).map a) := by
      refine iter_upN (f := law02_PlaneSums_L0_step x) (g := fun i => ((List.range i).map a, ((2 * i : Nat) : Int))) (n := x.length / 2) (by omega) (fun i hi => ?_) ?_
      · unfold law02_PlaneSums_L0_step
        have w1 : IntKind.i64.wrap (((2 * i : Nat) : Int) + 1) = ((2 * i + 1 : Nat) : Int) := by rw [i64_id ⟨by omega, by omega⟩]; omega
        have w2 : IntKind.i64.wrap (((2 * i : Nat) : Int) + 2) = ((2 * (i + 1) : Nat) : Int) := by rw [i64_id ⟨by omega, by omega⟩]; omega
        simp only []
        rw [w1, w2, if_pos (by omega), if_pos ⟨by omega, by omega⟩, if_pos ⟨by omega, by omega⟩, if_pos (small_within (hnth _ (by omega)) (hnth _ (by omega))).1, if_pos (by simp; omega), List.range_succ, List.map_append, ha]
        rfl
      · unfold law02_PlaneSums_L0_step
        simp only []
        rw [i64_id ⟨by omega, by omega⟩, if_neg (by omega)]
    obtain ⟨k, hk⟩ : ∃ k, k = x.length / 2 := ⟨_, rfl⟩
    rw [← hk] at L0
    have hk20 : k ≤ 20 := by omega
    have hmem : ∀ v ∈ (List.range k).map a, Small v := by
      intro v hv
      obtain ⟨j, hj, rfl⟩ := List.mem_map.1 hv
      rw [List.mem_range] at hj
      exact hsm j (by omega)
    generalize hR : (List.range k).map a = R at *
    have hRl : R.length = k := by rw [← hR]; simp
    have L1 : iterO (law02_PlaneSums_L1_step R) NN (([] : List Vec), IntKind.i64.wrap (((R.length : Nat) : Int) - 1)) = some R.reverse := by
      have := iter_upN (f := law02_PlaneSums_L1_step R) (g := fun i => (R.reverse.take i, ((R.length : Nat) : Int) - 1 - ((i : Nat) : Int))) (n := R.length) (r := R.reverse) (by omega) (fun i hi => by
        unfold law02_PlaneSums_L1_step
        have hi2 : R.length - 1 - i < R.length := by omega
        have e1 : (((R.length : Nat) : Int) - 1 - ((i : Nat) : Int)) = ((R.length - 1 - i : Nat) : Int) := by omega
        have e2 : nth R (((R.length : Nat) : Int) - 1 - ((i : Nat) : Int)) = R[R.length - 1 - i] := by rw [e1, nth_eq R _ hi2]
        have e3 : nth R 0 = R[0] := nth_eq R 0 (by omega)
        have hv := hmem _ (List.getElem_mem hi2)
        have hu := hmem _ (List.getElem_mem (show 0 < R.length by omega))
        obtain ⟨⟨c1, c2⟩, ⟨p1, d1, d2⟩, s1, a1, a2⟩ := sums_step hu hv
        simp only [e2, e3]
        rw [if_pos (by omega), if_pos ⟨by omega, by omega⟩, if_pos (by rw [List.length_take, List.length_reverse]; omega), if_pos c1, if_pos c2, if_pos p1, if_pos d1, if_pos d2, if_pos ⟨by omega, by omega⟩, if_pos s1, if_pos a1, if_pos (vec_eq a2),
          List.take_succ_eq_append_getElem (by rw [List.length_reverse]; exact hi), List.getElem_reverse, i64_id ⟨by omega, by omega⟩]
        congr 3
        omega) (by
        unfold law02_PlaneSums_L1_step
        simp only []
        rw [if_neg (by omega), List.take_of_length_le (by simp)])
      rw [i64_id ⟨by omega, by omega⟩]
      simpa using this
    obtain ⟨a1, -, -, -, a5⟩ := vadd_eq R (by omega) (fun v hv => (hmem v hv).iv)
    obtain ⟨b1, -, -, -, b5⟩ := vadd_eq R.reverse (by rw [List.length_reverse]; omega) (fun v hv => (hmem v (List.mem_reverse.1 hv)).iv)
    refine ⟨by rw [L0]; rfl, fun r0 h0 => ?_⟩
    rw [L0] at h0
    obtain rfl := Option.some.inj h0
    refine ⟨by rw [L1]; rfl, fun r1 h1 r2 h2 => ⟨a1, fun r3 h3 => ?_⟩⟩
    rw [L1] at h1
    obtain rfl := Option.some.inj h1
    refine ⟨b1, vec_eq ?_, fun r4 h4 => h4⟩
    rw [h2, h3, a5, b5, List.map_reverse, List.map_reverse, sumN_rev, sumN_rev]
end Go.Bag

