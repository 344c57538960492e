/- Weights and reaches: the program's and the reference's are one. -/
import Derived.Test.YtcbgfjidamoilaaQweM22
set_option linter.unusedVariables false
namespace Go.Bag
open Go Go.AbsK

theorem weigh_loop (l : List Spot) (hl : l.length ≤ 1000) : iterO (ref02_Weigh_L0_step l) NN (0, 0, 0) = some ((List.range l.length).foldl (fun s i => plane_Weigh_R_step l i s) (0, 0)) := by
  let g : Nat → Int × Int := fun i => (List.range i).foldl (fun s i => plane_Weigh_R_step l i s) (0, 0)
  have := iter_upN (f := ref02_Weigh_L0_step l) (g := fun i => ((g i).1, (g i).2, ((i : Nat) : Int))) (n := l.length) (r := g l.length) (by omega) (fun i hi => by
    have hn : 0 < l.length := by omega
    have t1 := tmod_nat (i := i) (k := 1) hn (by omega)
    rw [show (((1 : Nat) : Int)) = 1 from rfl] at t1
    have m1 := Nat.mod_lt (i + 1) hn
    have w1 : IntKind.i64.wrap ((i : Int) + 1) = ((i + 1 : Nat) : Int) := by rw [i64_id ⟨by omega, by omega⟩]; omega
    have e : g (i + 1) = plane_Weigh_R_step l i (g i) := by
      show (List.range (i + 1)).foldl _ _ = _
      rw [List.range_succ, List.foldl_append]
      rfl
    unfold ref02_Weigh_L0_step
    simp only []
    rw [if_pos (by omega), if_pos ⟨by omega, by omega⟩, if_pos (by omega), t1, if_pos ⟨by omega, by omega⟩, w1, e]
    unfold plane_Weigh_R_step
    simp only [cn_eq, cross_same, dot_same]) (by
    unfold ref02_Weigh_L0_step
    simp only []
    rw [if_neg (by omega)])
  exact this
theorem r4_wrap {r : Int} (hr : 16 ≤ r ∧ r ≤ 4096) : IntKind.i64.wrap (IntKind.i64.wrap (IntKind.i64.wrap (r * r) * r) * r) = IntKind.i64.wrap (IntKind.i64.wrap (r * r) * IntKind.i64.wrap (r * r)) := by
  have r2 : 256 ≤ r * r ∧ r * r ≤ 16777216 := by
    have h1 := sq_le (a := 16) (b := r) (by decide) hr.1
    have h2 := sq_le (a := r) (b := 4096) (by omega) hr.2
    omega
  have r3 : 4096 ≤ r * r * r ∧ r * r * r ≤ 68719476736 := by
    have h1 := Int.mul_le_mul (show (256 : Int) ≤ r * r from r2.1) (show (16 : Int) ≤ r from hr.1) (by decide) (by omega)
    have h2 := Int.mul_le_mul (show r * r ≤ (16777216 : Int) from r2.2) (show r ≤ (4096 : Int) from hr.2) (by omega) (by omega)
    omega
  rw [i64_id (n := r * r) ⟨by omega, by omega⟩, i64_id (n := r * r * r) ⟨by omega, by omega⟩]
  congr 1
  grind
theorem corners_len {x : Shape} (h : ShOK x) (hk : x.Kind ≠ 1) : plane_Corners x = (if x.Kind = 2 then [⟨-x.W, -x.H⟩, ⟨x.W, -x.H⟩, ⟨x.W, x.H⟩, ⟨-x.W, x.H⟩] else x.Pts) ∧ 3 ≤ (plane_Corners x).length ∧ (plane_Corners x).length ≤ 8 := by
  have hc := (check_eq x).2.2.2.2 h
  unfold plane_Corners
  simp only []
  rw [hc, if_pos rfl]
  rcases h with ⟨g, -⟩ | ⟨g1, g2, g3, g4, g5⟩ | ⟨g1, g2, g3, g4, g5, g6, -⟩
  · exact absurd g hk
  · rw [if_pos g1, if_pos g1, i64_id (n := 0 - x.W) ⟨by omega, by omega⟩, i64_id (n := 0 - x.H) ⟨by omega, by omega⟩, Int.zero_sub, Int.zero_sub]
    exact ⟨rfl, show 3 ≤ 4 by decide, show 4 ≤ 8 by decide⟩
  · rw [if_neg (by omega), if_neg (by omega)]
    exact ⟨rfl, g5, g6⟩
theorem int2 {n : Int} (h : I64 n) : ref01_Int n = fixed_Int n := by rw [int_eq h, ref_int_eq h]
theorem ratio2 {a b : Int} (ha : I64 a) (hb : I64 b) : P_fixed_Ratio a b ∧ P_ref01_Ratio a b ∧ ref01_Ratio a b = fixed_Ratio a b ∧ I64 (fixed_Ratio a b).V := by
  obtain ⟨p, q⟩ := ratio_eq ha hb
  obtain ⟨r, s⟩ := ref_ratio_eq ha hb
  rw [q, s]
  exact ⟨p, r, rfl, rat_I64 _ _⟩
theorem foldl_I64 (l : List Spot) (n : Nat) : I64 ((List.range n).foldl (fun s i => plane_Weigh_R_step l i s) (0, 0)).1 ∧ I64 ((List.range n).foldl (fun s i => plane_Weigh_R_step l i s) (0, 0)).2 := by
  cases n with
  | zero => exact ⟨show I64 0 from ⟨by decide, by decide⟩, show I64 0 from ⟨by decide, by decide⟩⟩
  | succ n =>
    rw [List.range_succ, List.foldl_append]
    exact ⟨i64_wrap _, i64_wrap _⟩
theorem weigh_eq (x : Shape) (d : Int) (hl : x.Pts.length ≤ 1000) : P_plane_Weigh x d ∧ P_ref02_Weigh x d ∧ ref02_Weigh x d = plane_Weigh x d := by
  obtain ⟨a, b, c, e⟩ := check_eq x
  obtain ⟨k1, k2, k3⟩ := corners_eq x hl
  unfold P_plane_Weigh P_ref02_Weigh plane_Weigh ref02_Weigh
  simp only [c, k3]
  by_cases h0 : plane_CheckShape x = 0
  · rw [if_pos h0, if_pos h0, if_pos h0, if_pos h0]
    have hs := e.1 h0
    by_cases h1 : d < 1
    · rw [if_pos h1, if_pos h1, if_pos h1, if_pos h1]
      exact ⟨⟨a, trivial⟩, ⟨b, trivial⟩, rfl⟩
    · rw [if_neg h1, if_neg h1, if_neg h1, if_neg h1]
      by_cases h2 : d > 1000
      · rw [if_pos h2, if_pos h2, if_pos h2, if_pos h2]
        exact ⟨⟨a, trivial⟩, ⟨b, trivial⟩, rfl⟩
      · rw [if_neg h2, if_neg h2, if_neg h2, if_neg h2]
        have id' : I64 d := ⟨by omega, by omega⟩
        have hint := int_I64 id'
        rw [int2 id']
        by_cases h3 : x.Kind = 1
        · rw [if_pos h3, if_pos h3, if_pos h3, if_pos h3]
          have hr : 16 ≤ x.R ∧ x.R ≤ 4096 := by
            rcases hs with ⟨-, -, -, -, g⟩ | ⟨g, -⟩ | ⟨g, -⟩
            · exact g
            · omega
            · omega
          have hof : fixed_Of 13493037704 = ⟨13493037704, false⟩ := by decide +kernel
          have ihalf : I64 (⟨13493037704, false⟩ : Num).V := ⟨by decide, by decide⟩
          rw [r4_wrap hr, hof]
          obtain ⟨p1, p2, p3, p4⟩ := ratio2 (a := 65536) (b := IntKind.i64.wrap (x.R * x.R)) ⟨by decide, by decide⟩ (i64_wrap _)
          obtain ⟨q1, q2, q3, q4⟩ := div2 p4 ihalf
          obtain ⟨s1, s2, s3, s4⟩ := div2 q4 hint
          obtain ⟨t1, t2, t3, t4⟩ := ratio2 (a := 8589934592) (b := IntKind.i64.wrap (IntKind.i64.wrap (x.R * x.R) * IntKind.i64.wrap (x.R * x.R))) ⟨by decide, by decide⟩ (i64_wrap _)
          obtain ⟨u1, u2, u3, u4⟩ := div2 t4 ihalf
          obtain ⟨v1, v2, v3, v4⟩ := div2 u4 hint
          rw [p3, q3, s3, t3, u3, v3]
          exact ⟨⟨a, p1, q1, t1, u1, s1, v1, trivial⟩, ⟨b, p2, q2, s2, t2, u2, v2, trivial⟩, rfl⟩
        · rw [if_neg h3, if_neg h3, if_neg h3, if_neg h3]
          obtain ⟨-, l1, l2⟩ := corners_len hs h3
          have hloop := weigh_loop (plane_Corners x) (by omega)
          rw [hloop]
          simp only [Option.getD_some, Option.isSome_some]
          obtain ⟨f1, f2⟩ := foldl_I64 (plane_Corners x) (plane_Corners x).length
          obtain ⟨p1, p2, p3, p4⟩ := ratio2 (a := 131072) ⟨by decide, by decide⟩ f1
          obtain ⟨q1, q2, q3, q4⟩ := div2 p4 hint
          obtain ⟨t1, t2, t3, t4⟩ := ratio2 (a := 51539607552) ⟨by decide, by decide⟩ f2
          obtain ⟨v1, v2, v3, v4⟩ := div2 t4 hint
          rw [p3, q3, t3, v3]
          exact ⟨⟨a, k1, by omega, p1, q1, t1, v1, trivial⟩, ⟨b, k2, trivial, p2, q2, t2, v2, trivial⟩, rfl⟩
  · rw [if_neg h0, if_neg h0, if_neg h0, if_neg h0]
    exact ⟨⟨a, trivial⟩, ⟨b, trivial⟩, rfl⟩
theorem weight_eq {a b : Weight} (h : a = b) : ((a.M.V == b.M.V) && ((a.M.F == b.M.F) && ((a.I.V == b.I.V) && ((a.I.F == b.I.F) && true)))) = true := by rw [h]; simp
theorem weighs_true {x : Shape} {d : Int} : P_law02_PlaneWeighs x d := by
  unfold P_law02_PlaneWeighs
  split
  · intro r0 h0; exact h0
  · rename_i hlen
    obtain ⟨a, b, c⟩ := weigh_eq x d (by omega)
    have e := sameRef x x (by omega)
    rw [decide_eq_true (show x = x from rfl)] at e
    intro r0 h0
    replace h0 : r0 = x := h0
    subst h0
    exact ⟨⟨by omega, trivial⟩, fun r1 h1 => ⟨a, fun r2 h2 => ⟨b, weight_eq (by rw [h1, h2, c]), by rw [h1, h2, c], fun r3 h3 => ⟨e.1, by rw [h3]; exact e.2, fun r4 h4 => h4⟩⟩⟩⟩
end Go.Bag

