/- Equal shapes; shapes that are made. -/
import Derived.Test.YtcbgfjidamoilaaQshM21
set_option linter.unusedVariables false
namespace Go.Bag
open Go Go.AbsK

theorem spot_beq (a b : Spot) : ((a.X == b.X) && ((a.Y == b.Y) && true)) = true ↔ a = b := by
  obtain ⟨a1, a2⟩ := a
  obtain ⟨b1, b2⟩ := b
  simp
theorem list_ext {x y : List Spot} (hl : x.length = y.length) (h : ∀ j, j < x.length → nth x (j : Int) = nth y (j : Int)) : x = y := by
  apply List.ext_getElem hl
  intro i h1 h2
  have := h i h1
  rwa [nth_eq x i h1, nth_eq y i h2] at this
/-- Loops that compare two lists of one length. -/
theorem eq_loop {f : Int → Option (Int ⊕ (Nat × Unit × Unit))} {x y : List Spot} (hl : x.length = y.length) (hn : x.length < 999999)
    (hf : ∀ s, f s = if s < ((x.length : Nat) : Int) then
      if ((0 : Int) ≤ s ∧ s < ((x.length : Nat) : Int)) then
      if ((0 : Int) ≤ s ∧ s < ((y.length : Nat) : Int)) then
      if (((nth x s).X == (nth y s).X) && (((nth x s).Y == (nth y s).Y) && true)) = true then some (.inl (IntKind.i64.wrap (s + 1))) else some (.inr (0, (), default))
      else none else none else some (.inr (1, default, ()))) :
    (iterO f NN 0).isSome = true ∧ (if ((iterO f NN 0).getD default).1 = 0 then false else true) = decide (x = y) := by
  have A := iter_findN (f := f) (bad := fun j => decide (nth x (j : Int) ≠ nth y (j : Int))) (n := x.length) (i0 := 0) (r0 := fun _ => ((0 : Nat), (), default)) (r1 := (1, default, ())) hn (Nat.zero_le _) (fun i _ hi => by
    have w1 : IntKind.i64.wrap ((i : Int) + 1) = ((i + 1 : Nat) : Int) := by rw [i64_id ⟨by omega, by omega⟩]; omega
    rw [hf, if_pos (by omega), if_pos ⟨by omega, by omega⟩, if_pos ⟨by omega, by omega⟩, w1]
    by_cases h : nth x (i : Int) = nth y (i : Int)
    · rw [if_pos ((spot_beq _ _).2 h), if_neg (by simp [h])]
    · rw [if_neg (fun g => h ((spot_beq _ _).1 g)), if_pos (decide_eq_true h)]) (by
    rw [hf, if_neg (by omega)])
  rcases A with ⟨j, -, g2, g3, g4⟩ | ⟨g1, g2⟩
  · replace g4 : iterO f NN 0 = _ := g4
    rw [g4]
    refine ⟨rfl, ?_⟩
    have : ¬ x = y := fun e => by subst e; simp at g3
    rw [decide_eq_false this]
    rfl
  · replace g2 : iterO f NN 0 = _ := g2
    rw [g2]
    refine ⟨rfl, ?_⟩
    have : x = y := list_ext hl (fun j hj => by have := g1 j (Nat.zero_le _) hj; simpa using this)
    rw [decide_eq_true this]
    rfl
theorem spots_same (x y : List Spot) (hn : x.length < 999999) : P_law02_sameSpots x y ∧ law02_sameSpots x y = decide (x = y) := by
  unfold P_law02_sameSpots law02_sameSpots
  by_cases hl : x.length = y.length
  · obtain ⟨a, b⟩ := eq_loop (f := law02_sameSpots_L0_step x y) hl hn (fun s => rfl)
    rw [if_pos (by omega), if_pos (by omega)]
    exact ⟨⟨a, trivial⟩, b⟩
  · rw [if_neg (by omega), if_neg (by omega), decide_eq_false (fun e => hl (by rw [e]))]
    exact ⟨trivial, rfl⟩
theorem slices_same (x y : List Spot) (hn : x.length < 999999) : P_slices_Equal x y ∧ slices_Equal x y = decide (x = y) := by
  unfold P_slices_Equal slices_Equal
  by_cases hl : x.length = y.length
  · obtain ⟨a, b⟩ := eq_loop (f := slices_Equal_L0_step x y) hl hn (fun s => rfl)
    rw [if_pos (by omega), if_pos (by omega)]
    exact ⟨⟨a, trivial⟩, b⟩
  · rw [if_neg (by omega), if_neg (by omega), decide_eq_false (fun e => hl (by rw [e]))]
    exact ⟨trivial, rfl⟩
theorem sameRef (x y : Shape) (hn : x.Pts.length < 999999) : P_ref02_SameShape x y ∧ ref02_SameShape x y = decide (x = y) := by
  have hne : ∀ {p : Prop}, (x = y → p) → ¬ p → decide (x = y) = false := fun h1 h2 => decide_eq_false (fun e => h2 (h1 e))
  unfold P_ref02_SameShape ref02_SameShape
  by_cases h1 : x.Kind = y.Kind
  · rw [if_pos h1, if_pos h1]
    by_cases h2 : x.R = y.R
    · rw [if_pos h2, if_pos h2]
      by_cases h3 : x.W = y.W
      · rw [if_pos h3, if_pos h3]
        by_cases h4 : x.H = y.H
        · rw [if_pos h4, if_pos h4]
          have hd : decide (x = y) = decide (x.Pts = y.Pts) := by
            obtain ⟨a1, a2, a3, a4, a5⟩ := x
            obtain ⟨b1, b2, b3, b4, b5⟩ := y
            simp only at h1 h2 h3 h4
            subst h1 h2 h3 h4
            simp
          by_cases hl : x.Pts.length = y.Pts.length
          · obtain ⟨a, b⟩ := eq_loop (f := ref02_SameShape_L0_step x y) hl hn (fun s => rfl)
            rw [if_pos (by omega), if_pos (by omega), hd]
            exact ⟨⟨a, trivial⟩, b⟩
          · rw [if_neg (by omega), if_neg (by omega), hd, decide_eq_false (fun e => hl (by rw [e]))]
            exact ⟨trivial, rfl⟩
        · rw [if_neg h4, if_neg h4, hne (fun e => by rw [e]) h4]; exact ⟨trivial, rfl⟩
      · rw [if_neg h3, if_neg h3, hne (fun e => by rw [e]) h3]; exact ⟨trivial, rfl⟩
    · rw [if_neg h2, if_neg h2, hne (fun e => by rw [e]) h2]; exact ⟨trivial, rfl⟩
  · rw [if_neg h1, if_neg h1, hne (fun e => by rw [e]) h1]; exact ⟨trivial, rfl⟩
theorem samePlane (x y : Shape) (hn : x.Pts.length < 999999) : P_plane_SameShape x y ∧ plane_SameShape x y = decide (x = y) := by
  obtain ⟨a, b⟩ := slices_same x.Pts y.Pts hn
  unfold P_plane_SameShape plane_SameShape
  obtain ⟨a1, a2, a3, a4, a5⟩ := x
  obtain ⟨b1, b2, b3, b4, b5⟩ := y
  simp only at *
  by_cases h : ((a1 == b1) && ((a2 == b2) && ((a3 == b3) && ((a4 == b4) && true)))) = true
  · rw [if_pos h, if_pos h, b]
    simp only [Bool.and_eq_true, beq_iff_eq] at h
    obtain ⟨rfl, rfl, rfl, rfl, -⟩ := h
    refine ⟨⟨a, trivial⟩, ?_⟩
    simp
  · rw [if_neg h, if_neg h]
    refine ⟨trivial, (decide_eq_false (fun e => h ?_)).symm⟩
    simp only [Shape.mk.injEq] at e
    obtain ⟨rfl, rfl, rfl, rfl, rfl⟩ := e
    simp
end Go.Bag

