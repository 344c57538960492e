/- PlaneCorners: the statement's condition. -/
import Derived.Test.YtcbgfjidamoilaaQcoM30
set_option linter.unusedVariables false
namespace Go.Bag
open Go Go.AbsK

/-- Each corner is near the table's, the steps counted from the first one's. -/
theorem steps {f : Int} {n : Nat} (h3 : 3 ≤ n) (h8 : n ≤ 8) : ∃ (g : Nat) (k : Int), ∀ i, i < n →
    -26986110000 ≤ 1680 * (f + (i : Int) * (26986075409 / (n : Int))) - (2 * ((g + i * (840 / n) : Nat) : Int) + 1) * 26986075409 - 1680 * (k * 26986075409) ∧
    1680 * (f + (i : Int) * (26986075409 / (n : Int))) - (2 * ((g + i * (840 / n) : Nat) : Int) + 1) * 26986075409 - 1680 * (k * 26986075409) ≤ 26986110000 := by
  obtain ⟨k, hk⟩ : ∃ k, k = f / 26986075409 := ⟨_, rfl⟩
  obtain ⟨p, hp⟩ : ∃ p, p = f % 26986075409 := ⟨_, rfl⟩
  have hf : f = 26986075409 * k + p := by omega
  have hp0 : 0 ≤ p ∧ p < 26986075409 := by omega
  obtain ⟨g, hg⟩ := Int.eq_ofNat_of_zero_le (show 0 ≤ 840 * p / 26986075409 by omega)
  refine ⟨g, k, fun i hi => ?_⟩
  have hgp : (g : Int) * 26986075409 ≤ 840 * p ∧ 840 * p < (g : Int) * 26986075409 + 26986075409 := by omega
  have : n = 3 ∨ n = 4 ∨ n = 5 ∨ n = 6 ∨ n = 7 ∨ n = 8 := by omega
  rcases this with rfl | rfl | rfl | rfl | rfl | rfl
  · rw [show (26986075409 : Int) / ((3 : Nat) : Int) = 8995358469 from rfl, show 840 / 3 = 280 from rfl]; omega
  · rw [show (26986075409 : Int) / ((4 : Nat) : Int) = 6746518852 from rfl, show 840 / 4 = 210 from rfl]; omega
  · rw [show (26986075409 : Int) / ((5 : Nat) : Int) = 5397215081 from rfl, show 840 / 5 = 168 from rfl]; omega
  · rw [show (26986075409 : Int) / ((6 : Nat) : Int) = 4497679234 from rfl, show 840 / 6 = 140 from rfl]; omega
  · rw [show (26986075409 : Int) / ((7 : Nat) : Int) = 3855153629 from rfl, show 840 / 7 = 120 from rfl]; omega
  · rw [show (26986075409 : Int) / ((8 : Nat) : Int) = 3373259426 from rfl, show 840 / 8 = 105 from rfl]; omega
theorem corners_true {x y z : Int} (hx : I64 x) (hy : I64 y) (hz : I64 z) : P_law02_PlaneCorners x y z := by
  obtain ⟨a1, a2, a3⟩ := mod_spec (k := 6) hx (by decide)
  obtain ⟨b1, b2, b3⟩ := mod_spec (k := 3961) hy (by decide)
  obtain ⟨f, c1, c2, c3, c4⟩ := num_bd (k := 6) hz (by decide)
  intro r0 h0
  refine ⟨a1, fun r1 h1 => ⟨b1, ?_⟩⟩
  subst h0 h1
  generalize kit_Mod x 6 = r0 at *
  generalize kit_Mod y 3961 = r1 at *
  obtain ⟨n, hn⟩ := Int.eq_ofNat_of_zero_le (show 0 ≤ 3 + r0 by omega)
  obtain ⟨size, hsz⟩ : ∃ s, s = 40 + r1 := ⟨_, rfl⟩
  have h3 : 3 ≤ n := by omega
  have h8 : n ≤ 8 := by omega
  have wn : IntKind.i64.wrap (3 + r0) = (n : Int) := by rw [hn, i64_id ⟨by omega, by omega⟩]
  have ws : IntKind.i64.wrap (40 + r1) = size := by rw [hsz, i64_id ⟨by omega, by omega⟩]
  have hsize : 40 ≤ size ∧ size ≤ 4000 := by omega
  -- the angles
  obtain ⟨dl, hdl⟩ : ∃ dl, dl = 26986075409 / (n : Int) := ⟨_, rfl⟩
  have hdl0 : 0 ≤ dl ∧ dl ≤ 8995358470 := by
    have : n = 3 ∨ n = 4 ∨ n = 5 ∨ n = 6 ∨ n = 7 ∨ n = 8 := by omega
    rcases this with rfl | rfl | rfl | rfl | rfl | rfl <;> rw [hdl] <;> decide
  have wdl : IntKind.i64.wrap ((26986075409 : Int).tdiv (n : Int)) = dl := by
    rw [Int.tdiv_eq_ediv_of_nonneg (by decide), ← hdl, i64_id ⟨by omega, by omega⟩]
  have hth : ∀ i : Nat, i < n → (-9223372036854775807 ≤ f + (i : Int) * dl ∧ f + (i : Int) * dl ≤ 9223372036854775807) ∧ IntKind.i64.wrap (f + IntKind.i64.wrap ((i : Int) * dl)) = f + (i : Int) * dl := by
    intro i hi
    have m := mul_bd (a := (i : Int)) (b := dl) (M := 8) (N := 8995358470) (by decide) (by omega) (by omega)
    rw [i64_id (n := (i : Int) * dl) ⟨by omega, by omega⟩, i64_id (n := f + (i : Int) * dl) ⟨by omega, by omega⟩]
    exact ⟨by omega, rfl⟩
  let vt : Nat → Spot := fun i => vtx size (f + (i : Int) * dl)
  obtain ⟨L, hL⟩ : ∃ L, L = (List.range n).map vt := ⟨_, rfl⟩
  have loop0 : iterO (law02_PlaneCorners_L0_step r0 r1 z) NN (([] : List Spot), 0) = some L := by
    rw [hL]
    refine iter_upN (f := law02_PlaneCorners_L0_step r0 r1 z) (g := fun i => ((List.range i).map vt, ((i : Nat) : Int))) (n := n) (by omega) (fun i hi => ?_) ?_
    · obtain ⟨t1, t2⟩ := hth i hi
      obtain ⟨v1, v2, v3, -, -, -⟩ := vtx_spec t1 hsize
      unfold law02_PlaneCorners_L0_step
      simp only []
      rw [wn, if_pos (by omega), if_pos c2, if_pos (by omega), wdl, c1, ws]
      simp only []
      rw [t2, if_pos v1, if_pos (by simp; omega), v2, v3, i64_id (n := (i : Int) + 1) ⟨by omega, by omega⟩, List.range_succ, List.map_append]
      rfl
    · unfold law02_PlaneCorners_L0_step
      simp only []
      rw [wn, if_neg (by omega)]
  have hLl : L.length = n := by rw [hL]; simp
  have hLn : ∀ j, j < n → nth L (j : Int) = vt j := fun j hj => by rw [hL]; exact nth_map vt hj
  have hcd : ∀ j, j < n → Cd (nth L (j : Int)).X ∧ Cd (nth L (j : Int)).Y := by
    intro j hj
    rw [hLn j hj]
    exact (vtx_spec (hth j hj).1 hsize).2.2.2.1
  have hdot : ∀ j, j < n → plane_spot_dot (nth L (j : Int)) (nth L (j : Int)) ≤ (size + 2) * (size + 2) := by
    intro j hj
    rw [hLn j hj]
    exact (vtx_spec (hth j hj).1 hsize).2.2.2.2.1
  have hbig : 200 ≤ size → ∀ i, i < n → okAt L i := by
    intro h200
    obtain ⟨g, k, hst⟩ := steps (f := f) h3 h8
    refine near_okAt (g := g) (s := size) hLl h3 h8 h200 hcd (fun i hi => ?_)
    rw [hLn i hi]
    have := hst i hi
    rw [← hdl] at this
    exact (vtx_spec (hth i hi).1 hsize).2.2.2.2.2 k _ this h200
  obtain ⟨p1, p2, p3⟩ := poly_val (l := L) (by omega) (by omega) (by rw [hLl]; exact hcd)
  rw [hLl] at p2 p3
  clear_value vt
  rw [loop0]
  refine ⟨rfl, fun r2 h2 => ?_⟩
  obtain rfl := Option.some.inj h2
  intro r3 e3
  refine ⟨p1, ?_⟩
  by_cases hconv : ∀ i, i < n → okAt L i
  · obtain ⟨v1, v2⟩ := p2 hconv
    rw [v1] at e3
    subst e3
    rw [if_pos rfl]
    simp only []
    let tf : Nat → Spot := fun i => nth L (((i + 1) % n : Nat) : Int)
    let bf : Nat → Spot := fun i => nth L ((n - 1 - i : Nat) : Int)
    have loop1 : iterO (law02_PlaneCorners_L1_step r0 L) NN (([] : List Spot), ([] : List Spot), 0) = some ((List.range n).map tf, (List.range n).map bf) := by
      refine iter_upN (f := law02_PlaneCorners_L1_step r0 L) (g := fun i => ((List.range i).map tf, (List.range i).map bf, ((i : Nat) : Int))) (n := n) (by omega) (fun i hi => ?_) ?_
      · have t1 := tmod_nat (i := i) (k := 1) (n := n) (by omega) (by omega)
        rw [show (((1 : Nat) : Int)) = 1 from rfl] at t1
        have m1 := Nat.mod_lt (i + 1) (show 0 < n by omega)
        have w2 : IntKind.i64.wrap (IntKind.i64.wrap ((n : Int) - 1) - (i : Int)) = ((n - 1 - i : Nat) : Int) := by
          rw [i64_id (n := (n : Int) - 1) ⟨by omega, by omega⟩, i64_id ⟨by omega, by omega⟩]; omega
        unfold law02_PlaneCorners_L1_step
        simp only []
        rw [wn, if_pos (by omega), if_pos (by omega), t1, w2, if_pos ⟨by omega, by rw [hLl]; omega⟩, if_pos (by simp; omega), if_pos ⟨by omega, by rw [hLl]; omega⟩, if_pos (by simp; omega), i64_id (n := (i : Int) + 1) ⟨by omega, by omega⟩, List.range_succ, List.map_append, List.map_append]
        rfl
      · unfold law02_PlaneCorners_L1_step
        simp only []
        rw [wn, if_neg (by omega)]
    obtain ⟨TT, hT⟩ : ∃ l, l = (List.range n).map tf := ⟨_, rfl⟩
    obtain ⟨BB, hB⟩ : ∃ l, l = (List.range n).map bf := ⟨_, rfl⟩
    rw [← hT, ← hB] at loop1
    have hTl : TT.length = n := by rw [hT]; simp
    have hBl : BB.length = n := by rw [hB]; simp
    have hTn : ∀ j, j < n → nth TT (j : Int) = nth L (((j + 1) % n : Nat) : Int) := fun j hj => by rw [hT]; exact nth_map tf hj
    have hBn : ∀ j, j < n → nth BB (j : Int) = nth L ((n - 1 - j : Nat) : Int) := fun j hj => by rw [hB]; exact nth_map bf hj
    obtain ⟨t1, t2, -⟩ := poly_val (l := TT) (by omega) (by omega) (by intro j hj; rw [hTl] at hj; rw [hTn j hj]; exact hcd _ (Nat.mod_lt _ (by omega)))
    obtain ⟨u1, -, u3⟩ := poly_val (l := BB) (by omega) (by omega) (by intro j hj; rw [hBl] at hj; rw [hBn j hj]; exact hcd _ (by omega))
    rw [hTl] at t2
    rw [hBl] at u3
    have tval := (t2 (okAt_turned hLl hTl h3 hTn hconv)).1
    have bval := u3 (not_okAt_back hLl hBl h3 hcd hBn hconv)
    obtain ⟨q1, -, -⟩ := reach_eq ⟨3, 0, 0, 0, L⟩ (by simp only []; omega)
    obtain ⟨⟨m0, m1⟩, m2, m3⟩ := reach_val (l := L) (by omega) (by rw [hLl]; exact hcd) n (by omega)
    have hreach : plane_Reach ⟨3, 0, 0, 0, L⟩ = (List.range n).foldl (fun s i => plane_Reach_R_step L i s) 0 := by
      have hck := (check_eq ⟨3, 0, 0, 0, L⟩).2.2.2.2 v2
      have hco : plane_Corners ⟨3, 0, 0, 0, L⟩ = L := by
        unfold plane_Corners
        simp [hck]
      unfold plane_Reach
      simp only []
      rw [hck, if_pos rfl, hco, hLl]
    rw [← hreach] at m0 m1 m2 m3
    generalize plane_Reach ⟨3, 0, 0, 0, L⟩ = M at *
    have hM : M ≤ size + 2 := m3 (size + 2) (by omega) hdot
    have hMM := sq_le (a := M) (b := 6000) m0 m1
    have hMM0 := sq_nonneg M
    have loop2 : iterO (law02_PlaneCorners_L2_step r0 L M) NN 0 = some () := by
      have := iter_upN (f := law02_PlaneCorners_L2_step r0 L M) (g := fun i => ((i : Nat) : Int)) (n := n) (r := ()) (by omega) (fun i hi => by
        have hd := m2 i hi
        have hd' : ¬ (IntKind.i64.wrap (IntKind.i64.wrap ((nth L (i : Int)).X * (nth L (i : Int)).X) + IntKind.i64.wrap ((nth L (i : Int)).Y * (nth L (i : Int)).Y)) > IntKind.i64.wrap (M * M)) := by
          rw [i64_id (n := M * M) ⟨by omega, by omega⟩]
          exact Int.not_lt.2 hd
        unfold law02_PlaneCorners_L2_step
        rw [wn, if_pos (by omega), if_pos ⟨by omega, by rw [hLl]; omega⟩, if_pos hd', i64_id (n := (i : Int) + 1) ⟨by omega, by omega⟩]
        rfl) (by
        unfold law02_PlaneCorners_L2_step
        rw [wn, if_neg (by omega)])
      exact this
    rw [loop1]
    refine ⟨rfl, fun r4 h4 => ?_⟩
    obtain rfl := Option.some.inj h4
    intro r5 h5
    refine ⟨t1, fun r6 h6 => ⟨u1, fun r7 h7 => ?_⟩⟩
    subst h7
    refine ⟨q1, ?_⟩
    rw [loop2]
    refine ⟨rfl, fun r8 h8 => ⟨by rw [h5, tval], by rw [h6]; exact bval, ?_, fun r9 h9 => h9⟩⟩
    rw [ws, i64_id ⟨by omega, by omega⟩]
    exact hM
  · have v := p3 hconv
    rw [← e3] at v
    rw [if_neg (by omega)]
    refine ⟨v, ?_, fun r4 h4 => h4⟩
    rw [ws]
    by_cases h : size < 200
    · exact h
    · exact absurd (hbig (by omega)) hconv
end Go.Bag

