/- How far a shape reaches; PlaneShapes. -/
import Derived.Test.YtcbgfjidamoilaaQcoM23
set_option linter.unusedVariables false
namespace Go.Bag
open Go Go.AbsK

/-- m is the least number whose square is at least d. -/
def Up (m d : Int) : Prop := 0 ≤ m ∧ d ≤ m * m ∧ ∀ k, 0 ≤ k → k < m → k * k < d
theorem up_exists {d : Int} : ∃ m, Up m d ∧ (d ≤ 33554432 → m ≤ 6000) := by
  by_cases h : d ≤ 0
  · exact ⟨0, ⟨Int.le_refl _, by omega, fun k h1 h2 => by omega⟩, fun _ => by decide⟩
  · obtain ⟨s, hs⟩ := rt_exists (d - 1).toNat
    rw [Int.toNat_of_nonneg (by omega)] at hs
    obtain ⟨h0, h1, h2⟩ := hs
    refine ⟨s + 1, ⟨by omega, by omega, fun k k1 k2 => ?_⟩, fun hd => ?_⟩
    · have := sq_le (a := k) (b := s) k1 (by omega)
      omega
    · have : s < 6000 := sq_lt_of (by decide) (by omega) h0
      omega
theorem up_le {m d k : Int} (h : Up m d) (hk : 0 ≤ k) (hd : d ≤ k * k) : m ≤ k := by
  by_cases hlt : k < m
  · have := h.2.2 k hk hlt
    omega
  · omega
theorem above_iter {d m : Int} (hm : Up m d) : ∀ (j : Nat) (k : Nat) (lo hi : Int), 0 ≤ lo → hi ≤ 1048576 → lo ≤ m → m ≤ hi → hi - lo < 2 ^ j → iterO (plane_above_L0_step d) (j + 1 + k) (lo, hi) = some m := by
  intro j
  induction j with
  | zero =>
    intro k lo hi h0 h1 h2 h3 h4
    have e : lo = hi := by omega
    rw [show 0 + 1 + k = k + 1 from by omega]
    refine iterO_inr ?_
    unfold plane_above_L0_step
    simp only []
    rw [if_neg (by omega), show lo = m by omega]
  | succ j ih =>
    intro k lo hi h0 h1 h2 h3 h4
    by_cases he : lo < hi
    · have wm : (IntKind.i64.wrap (lo + hi)).tdiv 2 = (lo + hi) / 2 := by rw [i64_id ⟨by omega, by omega⟩, Int.tdiv_eq_ediv_of_nonneg (by omega)]
      obtain ⟨c, hc⟩ : ∃ c, c = (lo + hi) / 2 := ⟨_, rfl⟩
      have hcc : c * c ≤ 1048576 * 1048576 := sq_le (by omega) (by omega)
      have hc0 := sq_nonneg c
      rw [show j + 1 + 1 + k = (j + 1 + k) + 1 from by omega]
      by_cases hlt : c * c < d
      · have hst : plane_above_L0_step d (lo, hi) = some (.inl (c + 1, hi)) := by
          unfold plane_above_L0_step
          simp only []
          rw [if_pos he, wm, ← hc, i64_id (n := c) ⟨by omega, by omega⟩, i64_id (n := c * c) ⟨by omega, by omega⟩, if_pos hlt, i64_id (n := c + 1) ⟨by omega, by omega⟩]
        rw [iterO_inl hst]
        have hcm : c < m := by
          by_cases h : m ≤ c
          · have := sq_le (a := m) (b := c) hm.1 h
            have := hm.2.1
            omega
          · omega
        exact ih k (c + 1) hi (by omega) h1 (by omega) h3 (by rw [Int.pow_succ] at h4; omega)
      · have hst : plane_above_L0_step d (lo, hi) = some (.inl (lo, c)) := by
          unfold plane_above_L0_step
          simp only []
          rw [if_pos he, wm, ← hc, i64_id (n := c) ⟨by omega, by omega⟩, i64_id (n := c * c) ⟨by omega, by omega⟩, if_neg hlt]
        rw [iterO_inl hst]
        have hcm : m ≤ c := up_le hm (by omega) (by omega)
        exact ih k lo c h0 (by omega) h2 hcm (by rw [Int.pow_succ] at h4; omega)
    · rw [show j + 1 + 1 + k = (j + 1 + k) + 1 from by omega]
      refine iterO_inr ?_
      unfold plane_above_L0_step
      simp only []
      rw [if_neg he, show lo = m by omega]
theorem above_val {d m : Int} (hm : Up m d) (h : m ≤ 1048576) : P_plane_above d ∧ plane_above d = m := by
  have := above_iter hm 21 999978 0 1048576 (Int.le_refl _) (Int.le_refl _) hm.1 h (by decide)
  rw [show 21 + 1 + 999978 = NN from rfl] at this
  unfold P_plane_above plane_above
  rw [this]
  exact ⟨⟨rfl, trivial⟩, rfl⟩
/-- The reference's inner loop: it counts up till the square is great enough. -/
theorem reach_inner {l : List Spot} {s : Int × Int} {m : Int} (hs : 0 ≤ s.2 ∧ s.2 < ((l.length : Nat) : Int)) (hm : Up m (plane_spot_dot (nth l s.2) (nth l s.2))) (h6 : m ≤ 100000) :
    ∀ (j k : Nat) (n : Int), 0 ≤ n → n ≤ 100000 → m - n ≤ j → ∃ r, iterO (ref02_Reach_L1_step l s) (j + 1 + k) n = some r ∧ r.1 = max n m := by
  have stop : ∀ (k : Nat) (n : Int), 0 ≤ n → n ≤ 100000 → m ≤ n → ∃ r, iterO (ref02_Reach_L1_step l s) (k + 1) n = some r ∧ r.1 = max n m := by
    intro k n h0 h1 h2
    have h3 := sq_le (a := m) (b := n) hm.1 h2
    have h4 := sq_le (a := n) (b := 100000) h0 h1
    have h5 := sq_nonneg n
    refine ⟨_, iterO_inr (by
      unfold ref02_Reach_L1_step
      simp only []
      rw [if_pos hs, dot_same, i64_id (n := n * n) ⟨by omega, by omega⟩, if_neg (by have := hm.2.1; omega)]), ?_⟩
    simp only []
    omega
  intro j
  induction j with
  | zero =>
    intro k n h0 h1 h2
    rw [show 0 + 1 + k = k + 1 from by omega]
    exact stop k n h0 h1 (by omega)
  | succ j ih =>
    intro k n h0 h1 h2
    by_cases hle : m ≤ n
    · rw [show j + 1 + 1 + k = (j + 1 + k) + 1 from by omega]
      exact stop _ n h0 h1 hle
    · have h3 := hm.2.2 n h0 (by omega)
      have h4 := sq_le (a := n) (b := 100000) h0 h1
      have h5 := sq_nonneg n
      have hst : ref02_Reach_L1_step l s n = some (.inl (n + 1)) := by
        unfold ref02_Reach_L1_step
        simp only []
        rw [if_pos hs, dot_same, i64_id (n := n * n) ⟨by omega, by omega⟩, if_pos h3, i64_id (n := n + 1) ⟨by omega, by omega⟩]
      rw [show j + 1 + 1 + k = (j + 1 + k) + 1 from by omega, iterO_inl hst]
      obtain ⟨r, e1, e2⟩ := ih k (n + 1) (by omega) (by omega) (by omega)
      exact ⟨r, e1, by rw [e2]; omega⟩
theorem dot_small {p : Spot} (h : Cd p.X ∧ Cd p.Y) : plane_spot_dot p p ≤ 33554432 := (dot_val h h).2.2
theorem reach_loops {l : List Spot} {R : Int} (hl : l.length ≤ 1000) (hR : 0 ≤ R ∧ R ≤ 4096) (hc : ∀ j, j < l.length → Cd (nth l (j : Int)).X ∧ Cd (nth l (j : Int)).Y) :
    (∀ i, i < l.length → plane_Reach_R_P l i) ∧ iterO (ref02_Reach_L0_step l) NN (R, 0) = some ((List.range l.length).foldl (fun s i => plane_Reach_R_step l i s) R) := by
  let g : Nat → Int := fun i => (List.range i).foldl (fun s i => plane_Reach_R_step l i s) R
  have step : ∀ i, i < l.length → ∃ m, Up m (plane_spot_dot (nth l (i : Int)) (nth l (i : Int))) ∧ m ≤ 6000 ∧ plane_Reach_R_P l i ∧ ∀ s, plane_Reach_R_step l i s = max s m := by
    intro i hi
    obtain ⟨m, hm, h6⟩ := up_exists (d := plane_spot_dot (nth l (i : Int)) (nth l (i : Int)))
    have h6' := h6 (dot_small (hc i hi))
    obtain ⟨a1, a2⟩ := above_val hm (by omega)
    refine ⟨m, hm, h6', ?_, fun s => ?_⟩
    · unfold plane_Reach_R_P
      simp only [cn_eq]
      exact ⟨a1, trivial⟩
    · unfold plane_Reach_R_step
      simp only [cn_eq]
      rw [a2]
  have gb : ∀ i, i ≤ l.length → 0 ≤ g i ∧ g i ≤ 6000 := by
    intro i
    induction i with
    | zero => intro _; show 0 ≤ R ∧ R ≤ 6000; omega
    | succ i ih =>
      intro hi
      have h := ih (by omega)
      obtain ⟨m, hm, h6, -, hs⟩ := step i (by omega)
      have e : g (i + 1) = max (g i) m := by
        show (List.range (i + 1)).foldl _ _ = _
        rw [List.range_succ, List.foldl_append]
        exact hs _
      rw [e]
      omega
  refine ⟨fun i hi => by obtain ⟨m, -, -, h, -⟩ := step i hi; exact h, ?_⟩
  have := iter_upN (f := ref02_Reach_L0_step l) (g := fun i => (g i, ((i : Nat) : Int))) (n := l.length) (r := g l.length) (by omega) (fun i hi => by
    obtain ⟨m, hm, h6, -, hs⟩ := step i hi
    have hb := gb i (by omega)
    obtain ⟨r, e1, e2⟩ := reach_inner (l := l) (s := (g i, (i : Int))) (m := m) ⟨by simp only []; omega, by simp only []; omega⟩ hm (by omega) 6000 993999 (g i) (by omega) (by omega) (by omega)
    rw [show 6000 + 1 + 993999 = NN from rfl] at e1
    have e : g (i + 1) = max (g i) m := by
      show (List.range (i + 1)).foldl _ _ = _
      rw [List.range_succ, List.foldl_append]
      exact hs _
    unfold ref02_Reach_L0_step
    simp only []
    rw [if_pos (by omega), e1]
    simp only [Option.isSome_some, Option.getD_some, if_true]
    rw [e2, i64_id (n := (i : Int) + 1) ⟨by omega, by omega⟩, e]
    rfl) (by
    unfold ref02_Reach_L0_step
    simp only []
    rw [if_neg (by omega)])
  exact this
theorem nth_cd {l : List Spot} (h : ∀ p ∈ l, Cd p.X ∧ Cd p.Y) : ∀ j, j < l.length → Cd (nth l (j : Int)).X ∧ Cd (nth l (j : Int)).Y := by
  intro j hj
  rw [nth_eq l j hj]
  exact h _ (List.getElem_mem hj)
/-- A sound shape's corners are near. -/
theorem corners_cd {x : Shape} (h : ShOK x) : (plane_Corners x).length ≤ 8 ∧ (0 ≤ x.R ∧ x.R ≤ 4096) ∧ ∀ j, j < (plane_Corners x).length → Cd (nth (plane_Corners x) (j : Int)).X ∧ Cd (nth (plane_Corners x) (j : Int)).Y := by
  by_cases hk : x.Kind = 1
  · have hc := (check_eq x).2.2.2.2 h
    have e : plane_Corners x = [] := by
      unfold plane_Corners
      simp only []
      rw [hc, if_pos rfl, if_neg (by omega)]
      rcases h with ⟨-, -, -, g, -⟩ | ⟨g, -⟩ | ⟨g, -⟩
      · exact g
      · omega
      · omega
    rw [e]
    refine ⟨by decide, ?_, fun j hj => absurd hj (Nat.not_lt_zero _)⟩
    rcases h with ⟨-, -, -, -, g1, g2⟩ | ⟨g, -⟩ | ⟨g, -⟩ <;> omega
  · obtain ⟨e1, e2, e3⟩ := corners_len h hk
    refine ⟨e3, ?_, ?_⟩
    · rcases h with ⟨g, -⟩ | ⟨-, g, -⟩ | ⟨-, g, -⟩ <;> omega
    · rcases h with ⟨g, -⟩ | ⟨g1, -, -, ⟨w1, w2⟩, h1, h2⟩ | ⟨g1, -, -, -, -, -, g, -⟩
      · exact absurd g hk
      · rw [e1, if_pos g1]
        refine nth_cd ?_
        intro p hp
        simp only [List.mem_cons, List.not_mem_nil, or_false] at hp
        unfold Cd
        rcases hp with rfl | rfl | rfl | rfl <;> simp only [] <;> omega
      · rw [e1, if_neg (by omega)]
        exact g
theorem reach_eq (x : Shape) (hl : x.Pts.length ≤ 1000) : P_plane_Reach x ∧ P_ref02_Reach x ∧ ref02_Reach x = plane_Reach x := by
  obtain ⟨a, b, c, e⟩ := check_eq x
  obtain ⟨k1, k2, k3⟩ := corners_eq x hl
  unfold P_plane_Reach P_ref02_Reach plane_Reach ref02_Reach
  simp only [c, k3]
  by_cases h0 : plane_CheckShape x = 0
  · rw [if_pos h0, if_pos h0, if_pos h0, if_pos h0]
    obtain ⟨c1, c2, c3⟩ := corners_cd (e.1 h0)
    obtain ⟨m1, m2⟩ := reach_loops (l := plane_Corners x) (R := x.R) (by omega) c2 c3
    rw [m2]
    exact ⟨⟨a, k1, by omega, m1, trivial⟩, ⟨b, k2, rfl, trivial⟩, rfl⟩
  · rw [if_neg h0, if_neg h0, if_neg h0, if_neg h0]
    exact ⟨⟨a, trivial⟩, ⟨b, trivial⟩, rfl⟩
end Go.Bag

