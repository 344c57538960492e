/- Equal shapes; shapes that are made. -/
import Derived.Test.YtcbgfjidamoilaaQmaM21
set_option linter.unusedVariables false
namespace Go.Bag
open Go Go.AbsK

theorem spot_beq (a b : Spot) : ((a.X == b.X) && ((a.Y == b.Y) && true)) = true ↔ a = b := by
  obtain ⟨a1, a2⟩ := a
  obtain ⟨b1, b2⟩ := b
  simp
theorem list_ext {x y : List Spot} (hl : x.length = y.length) (h : ∀ j, j < x.length → nth x (j : Int) = nth y (j : Int)) : x = y := by
  apply List.ext_getElem hl
  intro i h1 h2
  have := h i h1
  rwa [nth_eq x i h1, nth_eq y i h2] at this
/-- Loops that compare two lists of one length. -/
theorem eq_loop {f : Int → Option (Int ⊕ (Nat × Unit × Unit))} {x y : List Spot} (hl : x.length = y.length) (hn : x.length < 999999)
    (hf : ∀ s, f s = if s < ((x.length : Nat) : Int) then
      if ((0 : Int) ≤ s ∧ s < ((x.length : Nat) : Int)) then
      if ((0 : Int) ≤ s ∧ s < ((y.length : Nat) : Int)) then
      if (((nth x s).X == (nth y s).X) && (((nth x s).Y == (nth y s).Y) && true)) = true then some (.inl (IntKind.i64.wrap (s + 1))) else some (.inr (0, (), default))
      else none else none else some (.inr (1, default, ()))) :
    (iterO f NN 0).isSome = true ∧ (if ((iterO f NN 0).getD default).1 = 0 then false else true) = decide (x = y) := by
  have A := iter_findN (f := f) (bad := fun j => decide (nth x (j : Int) ≠ nth y (j : Int))) (n := x.length) (i0 := 0) (r0 := fun _ => ((0 : Nat), (), default)) (r1 := (1, default, ())) hn (Nat.zero_le _) (fun i _ hi => by
    have w1 : IntKind.i64.wrap ((i : Int) + 1) = ((i + 1 : Nat) : Int) := by rw [i64_id ⟨by omega, by omega⟩]; omega
    rw [hf, if_pos (by omega), if_pos ⟨by omega, by omega⟩, if_pos ⟨by omega, by omega⟩, w1]
    by_cases h : nth x (i : Int) = nth y (i : Int)
    · rw [if_pos ((spot_beq _ _).2 h), if_neg (by simp [h])]
    · rw [if_neg (fun g => h ((spot_beq _ _).1 g)), if_pos (decide_eq_true h)]) (by
    rw [hf, if_neg (by omega)])
  rcases A with ⟨j, -, g2, g3, g4⟩ | ⟨g1, g2⟩
  · replace g4 : iterO f NN 0 = _ := g4
    rw [g4]
    refine ⟨rfl, ?_⟩
    have : ¬ x = y := fun e => by subst e; simp at g3
    rw [decide_eq_false this]
    rfl
  · replace g2 : iterO f NN 0 = _ := g2
    rw [g2]
    refine ⟨rfl, ?_⟩
    have : x = y := list_ext hl (fun j hj => by have := g1 j (Nat.zero_le _) hj; simpa using this)
    rw [decide_eq_true this]
    rfl
theorem spots_same (x y : List Spot) (hn : x.length < 999999) : P_law02_sameSpots x y ∧ law02_sameSpots x y = decide (x = y) := by
  unfold P_law02_sameSpots law02_sameSpots
  by_cases hl : x.length = y.length
  · obtain ⟨a, b⟩ := eq_loop (f := law02_sameSpots_L0_step x y) hl hn (fun s => rfl)
    rw [if_pos (by omega), if_pos (by omega)]
    exact ⟨⟨a, trivial⟩, b⟩
  · rw [if_neg (by omega), if_neg (by omega), decide_eq_false (fun e => hl (by rw [e]))]
    exact ⟨trivial, rfl⟩
theorem sameRef (x y : Shape) (hn : x.Pts.length < 999999) : P_ref02_SameShape x y ∧ ref02_SameShape x y = decide (x = y) := by
  have hne : ∀ {p : Prop}, (x = y → p) → ¬ p → decide (x = y) = false := fun h1 h2 => decide_eq_false (fun e => h2 (h1 e))
  unfold P_ref02_SameShape ref02_SameShape
  by_cases h1 : x.Kind = y.Kind
  · rw [if_pos h1, if_pos h1]
    by_cases h2 : x.R = y.R
    · rw [if_pos h2, if_pos h2]
      by_cases h3 : x.W = y.W
      · rw [if_pos h3, if_pos h3]
        by_cases h4 : x.H = y.H
        · rw [if_pos h4, if_pos h4]
          have hd : decide (x = y) = decide (x.Pts = y.Pts) := by
            obtain ⟨a1, a2, a3, a4, a5⟩ := x
            obtain ⟨b1, b2, b3, b4, b5⟩ := y
            simp only at h1 h2 h3 h4
            subst h1 h2 h3 h4
            simp
          by_cases hl : x.Pts.length = y.Pts.length
          · obtain ⟨a, b⟩ := eq_loop (f := ref02_SameShape_L0_step x y) hl hn (fun s => rfl)
            rw [if_pos (by omega), if_pos (by omega), hd]
            exact ⟨⟨a, trivial⟩, b⟩
          · rw [if_neg (by omega), if_neg (by omega), hd, decide_eq_false (fun e => hl (by rw [e]))]
            exact ⟨trivial, rfl⟩
        · rw [if_neg h4, if_neg h4, hne (fun e => by rw [e]) h4]; exact ⟨trivial, rfl⟩
      · rw [if_neg h3, if_neg h3, hne (fun e => by rw [e]) h3]; exact ⟨trivial, rfl⟩
    · rw [if_neg h2, if_neg h2, hne (fun e => by rw [e]) h2]; exact ⟨trivial, rfl⟩
  · rw [if_neg h1, if_neg h1, hne (fun e => by rw [e]) h1]; exact ⟨trivial, rfl⟩
theorem sound_eq (x : Shape) : P_plane_sound x ∧ P_ref02_checked x ∧ ref02_checked x = plane_sound x ∧ V_ref02_checked x = V_plane_sound x := by
  obtain ⟨a, b, c, d⟩ := check_eq x
  refine ⟨⟨a, trivial⟩, ⟨b, trivial⟩, ?_, ?_⟩
  · unfold ref02_checked plane_sound
    simp only [c]
  · unfold V_ref02_checked V_plane_sound
    simp only [c]
theorem disc_eq (r : Int) : P_plane_Disc r ∧ P_ref02_Disc r ∧ ref02_Disc r = plane_Disc r := by
  obtain ⟨a, b, c, d⟩ := sound_eq ⟨1, r, 0, 0, []⟩
  unfold P_plane_Disc P_ref02_Disc ref02_Disc plane_Disc
  rw [c, d]
  refine ⟨?_, ?_, rfl⟩ <;> split <;> first | exact ⟨a, trivial⟩ | exact ⟨b, trivial⟩
theorem square_eq (w h : Int) : P_plane_Square w h ∧ P_ref02_Square w h ∧ ref02_Square w h = plane_Square w h := by
  obtain ⟨a, b, c, d⟩ := sound_eq ⟨2, 0, w, h, []⟩
  unfold P_plane_Square P_ref02_Square ref02_Square plane_Square
  rw [c, d]
  refine ⟨?_, ?_, rfl⟩ <;> split <;> first | exact ⟨a, trivial⟩ | exact ⟨b, trivial⟩
theorem poly_eq (l : List Spot) (hl : l.length ≤ 1000) : P_plane_Poly l ∧ P_ref02_Poly l ∧ ref02_Poly l = plane_Poly l := by
  obtain ⟨a, b, c, d⟩ := sound_eq ⟨3, 0, 0, 0, l⟩
  unfold P_plane_Poly P_ref02_Poly ref02_Poly plane_Poly
  rw [c, d]
  refine ⟨⟨by omega, ?_⟩, ⟨by omega, ?_⟩, rfl⟩ <;> split <;> first | exact ⟨a, trivial⟩ | exact ⟨b, trivial⟩
theorem pts_le {l : List Spot} {n : Nat} (hl : l.length ≤ n) : (plane_Poly l).1.Pts.length ≤ n := by
  unfold plane_Poly plane_sound
  simp only []
  split
  · exact hl
  · split
    · exact hl
    · exact Nat.zero_le _
theorem pts_disc (r : Int) : (plane_Disc r).1.Pts.length < 999999 := by
  unfold plane_Disc plane_sound
  simp only []
  split <;> split <;> exact Nat.zero_lt_succ _
theorem pts_square (w h : Int) : (plane_Square w h).1.Pts.length < 999999 := by
  unfold plane_Square plane_sound
  simp only []
  split <;> split <;> exact Nat.zero_lt_succ _
theorem makes_loop : ∀ (u : List Spot), u.length < 999999 → iterO law02_PlaneMakes_L0_step NN (u, 0) = some () := by
  intro u hu
  let step : List Spot → Nat → List Spot := fun l i => l.set i ⟨(nth l (i : Int)).X, IntKind.i64.wrap ((nth l (i : Int)).Y - 1)⟩
  let g : Nat → List Spot := fun i => (List.range i).foldl step u
  have glen : ∀ i, (g i).length = u.length := by
    intro i
    induction i with
    | zero => rfl
    | succ i ih =>
      show ((List.range (i + 1)).foldl step u).length = _
      rw [List.range_succ, List.foldl_append]
      show (step (g i) i).length = _
      rw [List.length_set]
      exact ih
  have := iter_upN (f := law02_PlaneMakes_L0_step) (g := fun i => (g i, ((i : Nat) : Int))) (n := u.length) (r := ()) hu (fun i hi => by
    have hg := glen i
    unfold law02_PlaneMakes_L0_step
    simp only []
    rw [hg, if_pos (by omega), if_pos ⟨by omega, by omega⟩, i64_id (n := (i : Int) + 1) ⟨by omega, by omega⟩]
    have e : g (i + 1) = step (g i) i := by
      show (List.range (i + 1)).foldl step u = _
      rw [List.range_succ, List.foldl_append]
      rfl
    rw [e]
    rfl) (by
    have hg := glen u.length
    unfold law02_PlaneMakes_L0_step
    simp only []
    rw [hg, if_neg (by omega)])
  exact this
theorem makes_true {x y z : Int} {u : List Spot} : P_law02_PlaneMakes x y z u := by
  unfold P_law02_PlaneMakes
  split
  · intro r0 h0; exact h0
  · rename_i hlen
    have hl : u.length ≤ 1000 := by omega
    obtain ⟨a1, a2, a3⟩ := disc_eq x
    obtain ⟨b1, b2, b3⟩ := square_eq y z
    obtain ⟨c1, c2, c3⟩ := poly_eq u hl
    have d1 := sameRef (plane_Disc x).1 (plane_Disc x).1 (pts_disc x)
    have d2 := sameRef (plane_Square y z).1 (plane_Square y z).1 (pts_square y z)
    have d3 := sameRef (plane_Poly u).1 (plane_Poly u).1 (by have := pts_le (l := u) hl; omega)
    have e1 := spots_same u u (by omega)
    have hloop := makes_loop u (by omega)
    rw [decide_eq_true (show (plane_Disc x).1 = (plane_Disc x).1 from rfl)] at d1
    rw [decide_eq_true (show (plane_Square y z).1 = (plane_Square y z).1 from rfl)] at d2
    rw [decide_eq_true (show (plane_Poly u).1 = (plane_Poly u).1 from rfl)] at d3
    rw [decide_eq_true (show u = u from rfl)] at e1
    refine ⟨by omega, fun r0 h0 => ⟨a1, fun r1 h1 => ⟨a2, by rw [h0, h1, a3], fun r2 h2 => ?_⟩⟩⟩
    rw [a3] at h1
    subst h0 h1
    refine ⟨d1.1, by rw [h2]; exact d1.2, fun r3 h3 => ⟨b1, fun r4 h4 => ⟨b2, by rw [h3, h4, b3], fun r5 h5 => ?_⟩⟩⟩
    rw [b3] at h4
    subst h3 h4
    refine ⟨d2.1, by rw [h5]; exact d2.2, fun r6 h6 => ⟨c1, fun r7 h7 => ⟨c2, by rw [h6, h7, c3], fun r8 h8 => ⟨e1.1, by rw [h8]; exact e1.2, by rw [hloop]; rfl, fun r9 h9 r10 h10 => ?_⟩⟩⟩⟩
    rw [c3] at h7
    subst h6 h7
    exact ⟨d3.1, by rw [h10]; exact d3.2, fun r11 h11 => h11⟩
end Go.Bag

