/- PlaneTurns. -/
import Derived.Test.YtcbgfjidamoilaaQtuM26
set_option linter.unusedVariables false
namespace Go.Bag
open Go Go.AbsK

theorem num_bd {x k : Int} (hx : I64 x) (hk : 0 < k ∧ k ≤ 1000000) : ∃ n, kit_Num x k = ⟨n, false⟩ ∧ P_kit_Num x k ∧ -(k * 4294967296) < n ∧ n < k * 4294967296 := by
  obtain ⟨a, b, c, d, e⟩ := num_spec hx hk
  exact ⟨_, b, a, d, e⟩
/-- A vector turned, moved, and taken back. -/
theorem moved {r : Rot} (hr : RotOK r) {X Y P Q : Int} (hX : -274877906944 ≤ X ∧ X ≤ 274877906944) (hY : -274877906944 ≤ Y ∧ Y ≤ 274877906944) (hP : -274877906944 ≤ P ∧ P ≤ 274877906944) (hQ : -274877906944 ≤ Q ∧ Q ≤ 274877906944) :
    plane_From ⟨⟨⟨P, false⟩, ⟨Q, false⟩⟩, r⟩ (plane_To ⟨⟨⟨P, false⟩, ⟨Q, false⟩⟩, r⟩ ⟨⟨X, false⟩, ⟨Y, false⟩⟩) = plane_Back r (plane_Apply r ⟨⟨X, false⟩, ⟨Y, false⟩⟩) := by
  obtain ⟨ax, ay, wx, wy, h1, h2, h3, h4, -, -⟩ := undone hr hX hY
  have iv : ∀ {a b : Int}, (-9223372036854775807 ≤ a ∧ a ≤ 9223372036854775807) → (-9223372036854775807 ≤ b ∧ b ≤ 9223372036854775807) → IV (⟨⟨a, false⟩, ⟨b, false⟩⟩ : Vec) := fun h h' => ⟨⟨by simp only []; omega, by simp only []; omega⟩, ⟨by simp only []; omega, by simp only []; omega⟩⟩
  have sum2v : ∀ {a b : Int}, (-1099511627777 < a ∧ a < 1099511627777) → (-1099511627777 < b ∧ b < 1099511627777) → sumN [⟨a, false⟩, ⟨b, false⟩] = ⟨a + b, false⟩ := by
    intro a b ha hb
    unfold sumN sumV sumF
    simp only [List.map_cons, List.map_nil, List.sum_cons, List.sum_nil, List.any_cons, List.any_nil, snd_val (show a ≠ -9223372036854775808 by omega), snd_val (show b ≠ -9223372036854775808 by omega), Bool.or_self, Int.add_zero]
    exact sat_val (by omega)
  have hTo : plane_To ⟨⟨⟨P, false⟩, ⟨Q, false⟩⟩, r⟩ ⟨⟨X, false⟩, ⟨Y, false⟩⟩ = ⟨⟨P + ax, false⟩, ⟨Q + ay, false⟩⟩ := by
    show plane_Add [(⟨⟨P, false⟩, ⟨Q, false⟩⟩ : Vec), plane_Apply r ⟨⟨X, false⟩, ⟨Y, false⟩⟩] = _
    rw [h1, (vadd_eq _ (by simp) (allV2 (iv (a := P) (b := Q) (by omega) (by omega)) (iv (a := ax) (b := ay) (by omega) (by omega)))).2.2.2.2]
    simp only [List.map_cons, List.map_nil]
    rw [sum2v (by omega) (by omega), sum2v (by omega) (by omega)]
  have sub1 : ∀ {a b : Int}, (-2199023255552 < a ∧ a < 2199023255552) → (-1099511627777 < b ∧ b < 1099511627777) → fixed_Sub ⟨a, false⟩ ⟨b, false⟩ = ⟨a - b, false⟩ := by
    intro a b ha hb
    show fixed_Sum [⟨a, false⟩, fixed_Neg ⟨b, false⟩] = _
    rw [neg_val (by omega), (sum_eq _ (by simp) (all2 (x := ⟨a, false⟩) (z := ⟨-b, false⟩) ⟨by simp only []; omega, by simp only []; omega⟩ ⟨by simp only []; omega, by simp only []; omega⟩)).2.2.1]
    unfold sumN sumV sumF
    simp only [List.map_cons, List.map_nil, List.sum_cons, List.sum_nil, List.any_cons, List.any_nil, snd_val (show a ≠ -9223372036854775808 by omega), snd_val (show -b ≠ -9223372036854775808 by omega), Bool.or_self, Int.add_zero]
    rw [sat_val (by omega), ← Int.sub_eq_add_neg]
  have hsub : plane_Sub ⟨⟨P + ax, false⟩, ⟨Q + ay, false⟩⟩ ⟨⟨P, false⟩, ⟨Q, false⟩⟩ = ⟨⟨ax, false⟩, ⟨ay, false⟩⟩ := by
    show (⟨fixed_Sub ⟨P + ax, false⟩ ⟨P, false⟩, fixed_Sub ⟨Q + ay, false⟩ ⟨Q, false⟩⟩ : Vec) = _
    rw [sub1 (by omega) (by omega), sub1 (by omega) (by omega), show P + ax - P = ax by omega, show Q + ay - Q = ay by omega]
  rw [hTo, h1]
  show plane_Back r (plane_Sub ⟨⟨P + ax, false⟩, ⟨Q + ay, false⟩⟩ ⟨⟨P, false⟩, ⟨Q, false⟩⟩) = _
  rw [hsub]
theorem turns_true {x : Int} {y : List Int} {z u : Int} (hx : I64 x) (hy : ∀ n ∈ y, I64 n) (hz : I64 z) (hu : I64 u) : P_law02_PlaneTurns x y z u := by
  unfold P_law02_PlaneTurns
  split
  · intro r0 h0; exact h0
  · rename_i hlen
    obtain ⟨n0, e0, p0, b0, b0'⟩ := num_bd (k := 100) hx (by decide)
    intro r0 h0
    rw [e0] at h0
    subst h0
    refine ⟨p0, fun r1 h1 => ?_⟩
    have hr1 : RotOK r1 := by rw [h1]; exact angle_rot (by omega)
    obtain ⟨ap, -⟩ := angleP (x := ⟨n0, false⟩) ⟨by simp only []; omega, by simp only []; omega⟩
    refine ⟨ap, fun r2 h2 => ⟨(check_rot hr1).1, by rw [h2]; exact (check_rot hr1).2, ?_⟩⟩
    let rot : Nat → Rot := fun i => (y.take i).foldl (fun r a => plane_Spin r (kit_Num a 100)) r1
    have hstep : ∀ i, i < y.length → rot (i + 1) = plane_Spin (rot i) (kit_Num (nth y (i : Int)) 100) := by
      intro i hi
      show (y.take (i + 1)).foldl _ r1 = _
      rw [List.take_succ_eq_append_getElem hi, List.foldl_append, nth_eq y i hi]
      rfl
    have hnum : ∀ i, i < y.length → ∃ n, kit_Num (nth y (i : Int)) 100 = ⟨n, false⟩ ∧ P_kit_Num (nth y (i : Int)) 100 ∧ (-9223372036854775807 ≤ n ∧ n ≤ 9223372036854775807) := by
      intro i hi
      obtain ⟨n, g1, g2, g3, g4⟩ := num_bd (x := nth y (i : Int)) (k := 100) (by rw [nth_eq y i hi]; exact hy _ (List.getElem_mem hi)) (by decide)
      exact ⟨n, g1, g2, by omega, by omega⟩
    have hrot : ∀ i, i ≤ y.length → RotOK (rot i) := by
      intro i
      induction i with
      | zero => intro _; exact hr1
      | succ i ih =>
        intro hi
        obtain ⟨n, g1, -, g2⟩ := hnum i (by omega)
        rw [hstep i (by omega), g1]
        exact (spin_rot (ih (by omega)) g2).2
    have loop : iterO (law02_PlaneTurns_L0_step y) NN (r1.C.V, r1.C.F, r1.S.V, r1.S.F, 0) = some ((rot y.length).C.V, (rot y.length).C.F, (rot y.length).S.V, (rot y.length).S.F) := by
      refine iter_upN (f := law02_PlaneTurns_L0_step y) (g := fun i => ((rot i).C.V, (rot i).C.F, (rot i).S.V, (rot i).S.F, ((i : Nat) : Int))) (n := y.length) (by omega) (fun i hi => ?_) ?_
      · obtain ⟨n, g1, g2, g3⟩ := hnum i hi
        obtain ⟨s1, s2⟩ := spin_rot (hrot i (by omega)) g3
        obtain ⟨c1, c2⟩ := check_rot s2
        unfold law02_PlaneTurns_L0_step
        simp only []
        rw [if_pos (by omega), if_pos ⟨by omega, by omega⟩, if_pos g2, g1, if_pos s1, if_pos c1, if_pos c2, i64_id (n := (i : Int) + 1) ⟨by omega, by omega⟩, hstep i hi, g1]
        rfl
      · unfold law02_PlaneTurns_L0_step
        simp only []
        rw [if_neg (by omega)]
    have hR := hrot y.length (Nat.le_refl _)
    generalize rot y.length = R at *
    rw [loop]
    refine ⟨rfl, fun r3 h3 => ?_⟩
    obtain rfl := Option.some.inj h3
    have eR : (⟨⟨R.C.V, R.C.F⟩, ⟨R.S.V, R.S.F⟩⟩ : Rot) = R := rfl
    simp only []
    rw [eR]
    obtain ⟨v1, v2, v3⟩ := within_spec (k := 64) hz hu (by decide)
    obtain ⟨w1, w2, w3⟩ := within_spec (k := 64) hu hz (by decide)
    obtain ⟨-, -, -, e1, e2⟩ := num_spec (k := 64) hz (by decide)
    obtain ⟨-, -, -, e3, e4⟩ := num_spec (k := 64) hu (by decide)
    generalize hX : z.tmod (64 * 4294967296) = X at *
    generalize hY : u.tmod (64 * 4294967296) = Y at *
    rw [v2] at v3
    rw [w2] at w3
    have bX : -274877906944 ≤ X ∧ X ≤ 274877906944 := by omega
    have bY : -274877906944 ≤ Y ∧ Y ≤ 274877906944 := by omega
    obtain ⟨ax, ay, wx, wy, u1, u2, u3, u4, u5, u6⟩ := undone hR bX bY
    have hm := moved hR bX bY bY bX
    obtain ⟨i1, i2⟩ := hR.ic
    intro r4 h4
    rw [v2] at h4
    subst h4
    obtain ⟨a1, -, -, a4⟩ := apply_eq (y := ⟨⟨X, false⟩, ⟨Y, false⟩⟩) i1 i2 v3
    obtain ⟨k1, -, -, k4⟩ := back_eq (y := plane_Apply R ⟨⟨X, false⟩, ⟨Y, false⟩⟩) i1 i2 a4
    refine ⟨v1, fun r5 h5 => ⟨a1, fun r6 h6 => ?_⟩⟩
    subst h5
    refine ⟨k1, fun r7 h7 => ?_⟩
    rw [w2] at h7
    subst h7
    refine ⟨w1, fun r8 h8 => ?_⟩
    obtain ⟨t1, -, -, t4⟩ := to_eq (x := ⟨⟨⟨Y, false⟩, ⟨X, false⟩⟩, R⟩) (y := ⟨⟨X, false⟩, ⟨Y, false⟩⟩) w3 i1 i2 v3
    refine ⟨t1, fun r9 h9 => ?_⟩
    subst h8
    obtain ⟨f1, -, -⟩ := from_eq (x := ⟨⟨⟨Y, false⟩, ⟨X, false⟩⟩, R⟩) (y := plane_To ⟨⟨⟨Y, false⟩, ⟨X, false⟩⟩, R⟩ ⟨⟨X, false⟩, ⟨Y, false⟩⟩) w3 i1 i2 t4
    rw [hm] at h9
    subst h6 h9
    rw [u1, u4]
    refine ⟨f1, fun r10 h10 => ⟨?_, fun r11 h11 => ⟨?_, fun r12 h12 => ⟨?_, fun r13 h13 => ⟨?_, fun r14 h14 => h14⟩⟩⟩⟩⟩
    · rw [h10]; exact near_true (by omega) (by omega) (by decide) (by decide)
    · rw [h11]; exact near_true (by omega) (by omega) (by decide) (by decide)
    · rw [h12]; exact near_true (by omega) (by omega) (by decide) (by decide)
    · rw [h13]; exact near_true (by omega) (by omega) (by decide) (by decide)
end Go.Bag

