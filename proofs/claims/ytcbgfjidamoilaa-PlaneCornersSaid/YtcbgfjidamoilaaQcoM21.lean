/- Shapes: the program and the reference find the same ones sound, with the same corners. -/
import Derived.Test.YtcbgfjidamoilaaQcoM20
set_option linter.unusedVariables false
namespace Go.Bag
open Go Go.AbsK

/-- A loop that looks for the first place where something is amiss. -/
theorem iter_find {ρ : Type} {f : Int → Option (Int ⊕ ρ)} {bad : Nat → Bool} {n i0 : Nat} {r0 : Nat → ρ} {r1 : ρ} (hs : ∀ i, i0 ≤ i → i < n → f (i : Int) = if bad i = true then some (.inr (r0 i)) else some (.inl ((i + 1 : Nat) : Int)))
    (he : f (n : Int) = some (.inr r1)) : ∀ (m k i : Nat), i0 ≤ i → i + m = n →
    (∃ j, i ≤ j ∧ j < n ∧ bad j = true ∧ iterO f (m + 1 + k) (i : Int) = some (r0 j)) ∨ ((∀ j, i ≤ j → j < n → bad j = false) ∧ iterO f (m + 1 + k) (i : Int) = some r1)
  | 0, k, i, h0, h => by
    obtain rfl : i = n := by omega
    rw [show 0 + 1 + k = k + 1 from by omega]
    exact .inr ⟨fun j h1 h2 => by omega, iterO_inr he⟩
  | m + 1, k, i, h0, h => by
    rw [show m + 1 + 1 + k = (m + 1 + k) + 1 from by omega]
    have h1 := hs i h0 (by omega)
    by_cases hb : bad i = true
    · rw [if_pos hb] at h1
      exact .inl ⟨i, Nat.le_refl _, by omega, hb, iterO_inr h1⟩
    · rw [if_neg hb] at h1
      rw [iterO_inl h1]
      rcases iter_find hs he m k (i + 1) (by omega) (by omega) with ⟨j, g1, g2, g3, g4⟩ | ⟨g1, g2⟩
      · exact .inl ⟨j, by omega, g2, g3, g4⟩
      · refine .inr ⟨fun j h1 h2 => ?_, g2⟩
        by_cases hj : j = i
        · rw [hj]; simpa using hb
        · exact g1 j (by omega) h2
theorem iter_findN {ρ : Type} {f : Int → Option (Int ⊕ ρ)} {bad : Nat → Bool} {n i0 : Nat} {r0 : Nat → ρ} {r1 : ρ} (hn : n < 999999) (h0 : i0 ≤ n) (hs : ∀ i, i0 ≤ i → i < n → f (i : Int) = if bad i = true then some (.inr (r0 i)) else some (.inl ((i + 1 : Nat) : Int)))
    (he : f (n : Int) = some (.inr r1)) :
    (∃ j, i0 ≤ j ∧ j < n ∧ bad j = true ∧ iterO f NN (i0 : Int) = some (r0 j)) ∨ ((∀ j, i0 ≤ j → j < n → bad j = false) ∧ iterO f NN (i0 : Int) = some r1) := by
  have := iter_find hs he (n - i0) (999999 - (n - i0)) i0 (Nat.le_refl _) (by omega)
  rwa [show n - i0 + 1 + (999999 - (n - i0)) = NN from by unfold NN; omega] at this
theorem tmod_nat {i k n : Nat} (hn : 0 < n) (h : i + k < 1000000) : (IntKind.i64.wrap ((i : Int) + (k : Int))).tmod ((n : Nat) : Int) = (((i + k) % n : Nat) : Int) := by
  rw [i64_id ⟨by omega, by omega⟩, ← Int.natCast_add, ← Int.ofNat_tmod]
theorem cn_eq (l : List Spot) (i : Nat) : (⟨sx l i, sy l i⟩ : Spot) = nth l (i : Int) := by
  unfold sx sy nth
  rw [Int.toNat_natCast]
theorem cross_same (a b : Spot) : ref02_cross a b = plane_spot_cross a b := rfl
theorem minus_same (a b : Spot) : ref02_less a b = plane_spot_minus a b := rfl
theorem span_same (a : Spot) : ref02_l a = plane_spot_span a := rfl
theorem dot_same (a b : Spot) : ref02_dot a b = plane_spot_dot a b := rfl
/-- The edge from a corner to the next one; what lies at its left. -/
def nx (l : List Spot) (i k : Nat) : Spot := nth l (((i + k) % l.length : Nat) : Int)
def edge (l : List Spot) (i : Nat) : Spot := plane_spot_minus (nx l i 1) (nth l (i : Int))
def notLeft (l : List Spot) (i j : Nat) : Bool := decide (plane_spot_cross (edge l i) (plane_spot_minus (nth l (j : Int)) (nth l (i : Int))) ≤ 0)
def sharp (l : List Spot) (i : Nat) : Bool :=
  decide (plane_spot_cross (nth l (i : Int)) (nx l i 1) ≤ 0) ||
  decide (plane_spot_cross (edge l i) (plane_spot_minus (nx l i 2) (nx l i 1)) < IntKind.i64.wrap (4 * IntKind.i64.wrap (plane_spot_span (edge l i) + plane_spot_span (plane_spot_minus (nx l i 2) (nx l i 1)))))
/-- The corner is as it is to be. -/
def okAt (l : List Spot) (i : Nat) : Prop := sharp l i = false ∧ ∀ j, j < l.length → j ≠ i → j ≠ (i + 1) % l.length → notLeft l i j = false
theorem convexR {l : List Spot} {i : Nat} (hi : i < l.length) (hl : l.length ≤ 1000) : plane_convex_R_P l i ∧ (plane_convex_R_ok l i = true ↔ okAt l i) := by
  have hn : 0 < l.length := by omega
  obtain ⟨Q, hQ⟩ : ∃ Q, Q = edge l i := ⟨_, rfl⟩
  have loop := iter_findN (f := plane_convex_R_L0_step i l Q) (bad := fun j => decide (j ≠ i ∧ j ≠ (i + 1) % l.length) && notLeft l i j) (n := l.length) (i0 := 0) (r0 := fun _ => ((0 : Nat), (), default)) (r1 := (1, default, ())) (by omega) (Nat.zero_le _) (fun j _ hj => by
    unfold plane_convex_R_L0_step
    simp only []
    rw [if_pos (by omega), if_pos ⟨by omega, by omega⟩]
    have w1 : IntKind.i64.wrap ((j : Int) + 1) = ((j + 1 : Nat) : Int) := by rw [i64_id ⟨by omega, by omega⟩]; omega
    have t1 := tmod_nat (i := i) (k := 1) hn (by omega)
    rw [show (((1 : Nat) : Int)) = 1 from rfl] at t1
    rw [w1, t1, cn_eq]
    by_cases h1 : (j : Int) = (i : Int)
    · rw [if_pos h1, if_neg]
      have : j = i := by omega
      simp [this]
    · rw [if_neg h1, if_pos (by omega)]
      by_cases h2 : (j : Int) = (((i + 1) % l.length : Nat) : Int)
      · rw [if_pos h2, if_neg]
        have : j = (i + 1) % l.length := by omega
        simp [this]
      · rw [if_neg h2]
        have hd : decide (j ≠ i ∧ j ≠ (i + 1) % l.length) = true := decide_eq_true ⟨by omega, by omega⟩
        rw [hd, Bool.true_and]
        unfold notLeft
        rw [← hQ]
        by_cases h3 : plane_spot_cross Q (plane_spot_minus (nth l (j : Int)) (nth l (i : Int))) ≤ 0
        · rw [if_pos h3, if_pos (decide_eq_true h3)]
        · rw [if_neg h3, if_neg (by simp [h3])]) (by
    unfold plane_convex_R_L0_step
    rw [if_neg (by omega)])
  replace loop : (∃ j, 0 ≤ j ∧ j < l.length ∧ (decide (j ≠ i ∧ j ≠ (i + 1) % l.length) && notLeft l i j) = true ∧ iterO (plane_convex_R_L0_step i l Q) NN 0 = some ((0 : Nat), (), default)) ∨ ((∀ j, 0 ≤ j → j < l.length → (decide (j ≠ i ∧ j ≠ (i + 1) % l.length) && notLeft l i j) = false) ∧ iterO (plane_convex_R_L0_step i l Q) NN 0 = some ((1 : Nat), default, ())) := loop
  have eQ : plane_spot_minus (⟨sx l ((i + 1) % l.length), sy l ((i + 1) % l.length)⟩ : Spot) (⟨sx l i, sy l i⟩ : Spot) = Q := by rw [hQ, cn_eq, cn_eq]; rfl
  unfold plane_convex_R_P plane_convex_R_ok okAt sharp
  simp only []
  rw [eQ, cn_eq, cn_eq, cn_eq]
  have hQ1 : nth l (((i + 1) % l.length : Nat) : Int) = nx l i 1 := rfl
  have hQ2 : nth l (((i + 2) % l.length : Nat) : Int) = nx l i 2 := rfl
  rw [hQ1, hQ2, ← hQ]
  by_cases c1 : plane_spot_cross (nth l (i : Int)) (nx l i 1) ≤ 0
  · rw [if_pos c1, if_pos c1]
    simp [c1]
  · rw [if_neg c1, if_neg c1]
    by_cases c2 : plane_spot_cross Q (plane_spot_minus (nx l i 2) (nx l i 1)) < IntKind.i64.wrap (4 * IntKind.i64.wrap (plane_spot_span Q + plane_spot_span (plane_spot_minus (nx l i 2) (nx l i 1))))
    · rw [if_pos c2, if_pos c2]
      simp [c2]
    · rw [if_neg c2, if_neg c2, decide_eq_false c1, decide_eq_false c2]
      rcases loop with ⟨j, -, g2, g3, g4⟩ | ⟨g1, g2⟩
      · rw [g4]
        refine ⟨⟨rfl, trivial⟩, ?_⟩
        simp only [Option.getD_some, if_true]
        rw [Bool.and_eq_true, decide_eq_true_eq] at g3
        constructor
        · intro h; cases h
        · rintro ⟨-, h⟩
          have := h j g2 g3.1.1 g3.1.2
          rw [g3.2] at this
          cases this
      · rw [g2]
        refine ⟨⟨rfl, trivial⟩, ?_⟩
        simp only [Option.getD_some]
        refine ⟨fun _ => ⟨rfl, fun j h1 h2 h3 => ?_⟩, fun _ => by simp⟩
        have := g1 j (Nat.zero_le _) h1
        rw [decide_eq_true (show j ≠ i ∧ j ≠ (i + 1) % l.length from ⟨h2, h3⟩), Bool.true_and] at this
        exact this
theorem convex_iff {l : List Spot} (hl0 : 1 ≤ l.length) (hl : l.length ≤ 1000) : P_plane_convex l ∧ (plane_convex l = true ↔ ∀ i, i < l.length → okAt l i) := by
  unfold P_plane_convex plane_convex
  refine ⟨⟨by omega, fun i hi => (convexR hi hl).1, trivial⟩, ?_⟩
  constructor
  · intro h i hi
    split at h
    · rename_i hall
      exact (convexR hi hl).2.1 (List.all_eq_true.1 hall i (List.mem_range.2 hi))
    · cases h
  · intro h
    rw [if_pos (List.all_eq_true.2 fun i hi => (convexR (List.mem_range.1 hi) hl).2.2 (h i (List.mem_range.1 hi)))]
/-- The other corners, counted on from a corner. -/
theorem others {n i j : Nat} (hi : i < n) (hj : j < n) (h1 : j ≠ i) (h2 : j ≠ (i + 1) % n) : ∃ k, 2 ≤ k ∧ k < n ∧ (i + k) % n = j := by
  refine ⟨(j + n - i) % n, ?_, Nat.mod_lt _ (by omega), ?_⟩
  · by_cases hlt : i ≤ j
    · have : j + n - i = (j - i) + n := by omega
      rw [this, Nat.add_mod_right, Nat.mod_eq_of_lt (by omega)]
      by_cases h : i + 1 < n
      · rw [Nat.mod_eq_of_lt h] at h2; omega
      · omega
    · rw [Nat.mod_eq_of_lt (by omega)]
      by_cases h : i + 1 < n
      · omega
      · have : i + 1 = n := by omega
        rw [this, Nat.mod_self] at h2
        omega
  · rw [Nat.add_mod_mod, show i + (j + n - i) = j + n by omega, Nat.add_mod_right, Nat.mod_eq_of_lt hj]
theorem others_ne {n i k : Nat} (hi : i < n) (h2 : 2 ≤ k) (hk : k < n) : (i + k) % n ≠ i ∧ (i + k) % n ≠ (i + 1) % n := by
  by_cases h : i + k < n
  · rw [Nat.mod_eq_of_lt h, Nat.mod_eq_of_lt (show i + 1 < n by omega)]
    omega
  · have e : (i + k) % n = i + k - n := by rw [Nat.mod_eq_sub_mod (by omega), Nat.mod_eq_of_lt (by omega)]
    rw [e]
    by_cases h1 : i + 1 < n
    · rw [Nat.mod_eq_of_lt h1]; omega
    · have : i + 1 = n := by omega
      rw [this, Nat.mod_self]
      omega
theorem okAt_ref {l : List Spot} {i : Nat} (hi : i < l.length) : okAt l i ↔ sharp l i = false ∧ ∀ k, 2 ≤ k → k < l.length → notLeft l i ((i + k) % l.length) = false := by
  unfold okAt
  constructor
  · rintro ⟨h1, h2⟩
    refine ⟨h1, fun k g1 g2 => ?_⟩
    obtain ⟨m1, m2⟩ := others_ne hi g1 g2
    exact h2 _ (Nat.mod_lt _ (by omega)) m1 m2
  · rintro ⟨h1, h2⟩
    refine ⟨h1, fun j g1 g2 g3 => ?_⟩
    obtain ⟨k, k1, k2, rfl⟩ := others hi g1 g2 g3
    exact h2 k k1 k2
theorem refconvex {l : List Spot} (hl0 : 3 ≤ l.length) (hl : l.length ≤ 1000) : P_ref02_convex l ∧ (ref02_convex l = true ↔ ∀ i, i < l.length → okAt l i) := by
  have hn : 0 < l.length := by omega
  classical
  have outer := iter_findN (f := ref02_convex_L0_step l) (bad := fun i => !decide (okAt l i)) (n := l.length) (i0 := 0) (r0 := fun _ => ((0 : Nat), (), default)) (r1 := (1, default, ())) (by omega) (Nat.zero_le _) (fun i _ hi => by
    have t1 := tmod_nat (i := i) (k := 1) hn (by omega)
    have t2 := tmod_nat (i := i) (k := 2) hn (by omega)
    rw [show (((1 : Nat) : Int)) = 1 from rfl] at t1
    rw [show (((2 : Nat) : Int)) = 2 from rfl] at t2
    have w1 : IntKind.i64.wrap ((i : Int) + 1) = ((i + 1 : Nat) : Int) := by rw [i64_id ⟨by omega, by omega⟩]; omega
    have m1 := Nat.mod_lt (i + 1) hn
    have m2 := Nat.mod_lt (i + 2) hn
    have inner := iter_findN (f := ref02_convex_L1_step (i : Int) l) (bad := fun k => notLeft l i ((i + k) % l.length)) (n := l.length) (i0 := 2) (r0 := fun _ => ((0 : Nat), (), default)) (r1 := (1, default, ((l.length : Int), (l.length : Int), decide ((l.length : Int) < ((l.length : Nat) : Int))))) (by omega) (by omega) (fun k hk hkl => by
      have tk := tmod_nat (i := i) (k := k) hn (by omega)
      have mk := Nat.mod_lt (i + k) hn
      unfold ref02_convex_L1_step
      simp only []
      have wk : IntKind.i64.wrap ((k : Int) + 1) = ((k + 1 : Nat) : Int) := by rw [i64_id ⟨by omega, by omega⟩]; omega
      rw [if_pos (by omega), if_pos (by omega), t1, tk, wk, if_pos ⟨by omega, by omega⟩, minus_same, minus_same, cross_same]
      unfold notLeft edge nx
      by_cases h3 : plane_spot_cross (plane_spot_minus (nth l (((i + 1) % l.length : Nat) : Int)) (nth l (i : Int))) (plane_spot_minus (nth l (((i + k) % l.length : Nat) : Int)) (nth l (i : Int))) ≤ 0
      · rw [if_pos h3, if_pos (decide_eq_true h3)]
      · rw [if_neg h3, if_neg (by rw [decide_eq_false h3]; decide)]) (by
      unfold ref02_convex_L1_step
      rw [if_neg (by omega)])
    replace inner : (∃ j, 2 ≤ j ∧ j < l.length ∧ notLeft l i ((i + j) % l.length) = true ∧ iterO (ref02_convex_L1_step (i : Int) l) NN 2 = some ((0 : Nat), (), default)) ∨ ((∀ j, 2 ≤ j → j < l.length → notLeft l i ((i + j) % l.length) = false) ∧ iterO (ref02_convex_L1_step (i : Int) l) NN 2 = some (1, default, ((l.length : Int), (l.length : Int), decide ((l.length : Int) < ((l.length : Nat) : Int))))) := inner
    unfold ref02_convex_L0_step
    simp only []
    rw [if_pos (by omega), if_pos ⟨by omega, by omega⟩, if_pos (by omega), t1, t2, if_pos ⟨by omega, by omega⟩, if_pos ⟨by omega, by omega⟩, w1]
    have ho := okAt_ref (l := l) hi
    rw [cross_same, cross_same, minus_same, minus_same, span_same, span_same]
    have e1 : nth l (((i + 1) % l.length : Nat) : Int) = nx l i 1 := rfl
    have e2 : nth l (((i + 2) % l.length : Nat) : Int) = nx l i 2 := rfl
    rw [e1, e2]
    have e3 : plane_spot_minus (nx l i 1) (nth l (i : Int)) = edge l i := rfl
    rw [e3]
    by_cases c1 : plane_spot_cross (nth l (i : Int)) (nx l i 1) ≤ 0
    · rw [if_pos c1, if_pos]
      have : ¬ okAt l i := fun h => by
        have := h.1
        unfold sharp at this
        rw [decide_eq_true c1, Bool.true_or] at this
        cases this
      simp [this]
    · rw [if_neg c1]
      by_cases c2 : plane_spot_cross (edge l i) (plane_spot_minus (nx l i 2) (nx l i 1)) < IntKind.i64.wrap (4 * IntKind.i64.wrap (plane_spot_span (edge l i) + plane_spot_span (plane_spot_minus (nx l i 2) (nx l i 1))))
      · rw [if_pos c2, if_pos]
        have : ¬ okAt l i := fun h => by
          have := h.1
          unfold sharp at this
          rw [decide_eq_true c2, Bool.or_true] at this
          cases this
        simp [this]
      · rw [if_neg c2]
        have hsh : sharp l i = false := by unfold sharp; rw [decide_eq_false c1, decide_eq_false c2]; rfl
        rcases inner with ⟨j, g1, g2, g3, g4⟩ | ⟨g1, g2⟩
        · rw [g4]
          simp only [Option.isSome_some, Option.getD_some, if_true]
          rw [if_pos]
          have : ¬ okAt l i := fun h => by
            have := (ho.1 h).2 j g1 g2
            rw [g3] at this
            cases this
          simp [this]
        · rw [g2]
          simp only [Option.isSome_some, Option.getD_some, if_true]
          rw [if_neg (by decide), if_neg]
          have : okAt l i := ho.2 ⟨hsh, g1⟩
          simp [this]) (by
    unfold ref02_convex_L0_step
    rw [if_neg (by omega)])
  replace outer : (∃ j, 0 ≤ j ∧ j < l.length ∧ (!decide (okAt l j)) = true ∧ iterO (ref02_convex_L0_step l) NN 0 = some ((0 : Nat), (), default)) ∨ ((∀ j, 0 ≤ j → j < l.length → (!decide (okAt l j)) = false) ∧ iterO (ref02_convex_L0_step l) NN 0 = some ((1 : Nat), default, ())) := outer
  unfold P_ref02_convex ref02_convex
  rcases outer with ⟨j, -, g2, g3, g4⟩ | ⟨g1, g2⟩
  · rw [g4]
    refine ⟨⟨rfl, trivial⟩, ?_⟩
    simp only [Option.getD_some, if_true]
    constructor
    · intro h; cases h
    · intro h
      have := h j g2
      simp [this] at g3
  · rw [g2]
    refine ⟨⟨rfl, trivial⟩, ?_⟩
    simp only [Option.getD_some]
    refine ⟨fun _ i hi => ?_, fun _ => by simp⟩
    have := g1 i (Nat.zero_le _) hi
    simpa using this
theorem convex_same {l : List Spot} (hl0 : 3 ≤ l.length) (hl : l.length ≤ 1000) : P_plane_convex l ∧ P_ref02_convex l ∧ ref02_convex l = plane_convex l := by
  obtain ⟨a1, a2⟩ := convex_iff (l := l) (by omega) hl
  obtain ⟨b1, b2⟩ := refconvex hl0 hl
  exact ⟨a1, b1, Bool.eq_iff_iff.2 (b2.trans a2.symm)⟩
instance (n : Int) : Decidable (Cd n) := inferInstanceAs (Decidable (-4096 ≤ n ∧ n ≤ 4096))
def far (p : Spot) : Bool := !(decide (Cd p.X) && decide (Cd p.Y))
theorem check_loops (x : Shape) (hl : x.Pts.length ≤ 1000) :
    (∃ j, j < x.Pts.length ∧ far (nth x.Pts (j : Int)) = true ∧ iterO (plane_CheckShape_L0_step x) NN 0 = some ((0 : Nat), (), default) ∧ iterO (ref02_CheckShape_L0_step x) NN 0 = some ((0 : Nat), (), default)) ∨
    ((∀ j, j < x.Pts.length → far (nth x.Pts (j : Int)) = false) ∧ iterO (plane_CheckShape_L0_step x) NN 0 = some ((1 : Nat), default, ()) ∧ iterO (ref02_CheckShape_L0_step x) NN 0 = some ((1 : Nat), default, ())) := by
  have A := iter_findN (f := plane_CheckShape_L0_step x) (bad := fun j => far (nth x.Pts (j : Int))) (n := x.Pts.length) (i0 := 0) (r0 := fun _ => ((0 : Nat), (), default)) (r1 := (1, default, ())) (by omega) (Nat.zero_le _) (fun i _ hi => by
    have w1 : IntKind.i64.wrap ((i : Int) + 1) = ((i + 1 : Nat) : Int) := by rw [i64_id ⟨by omega, by omega⟩]; omega
    unfold plane_CheckShape_L0_step
    rw [if_pos (by omega), if_pos ⟨by omega, by omega⟩, w1]
    have hfar : far (nth x.Pts (i : Int)) = true ↔ ¬ (Cd (nth x.Pts (i : Int)).X ∧ Cd (nth x.Pts (i : Int)).Y) := by unfold far; by_cases q1 : Cd (nth x.Pts (i : Int)).X <;> by_cases q2 : Cd (nth x.Pts (i : Int)).Y <;> simp [q1, q2]
    generalize nth x.Pts (i : Int) = p at *
    unfold Cd at hfar
    by_cases h1 : max p.X p.Y > 4096
    · rw [if_pos h1, if_pos (hfar.2 (by omega))]
    · rw [if_neg h1]
      by_cases h2 : min p.X p.Y < -4096
      · rw [if_pos h2, if_pos (hfar.2 (by omega))]
      · rw [if_neg h2, if_neg (fun h => hfar.1 h (by omega))]) (by
    unfold plane_CheckShape_L0_step
    rw [if_neg (by omega)])
  have B := iter_findN (f := ref02_CheckShape_L0_step x) (bad := fun j => far (nth x.Pts (j : Int))) (n := x.Pts.length) (i0 := 0) (r0 := fun _ => ((0 : Nat), (), default)) (r1 := (1, default, ())) (by omega) (Nat.zero_le _) (fun i _ hi => by
    have w1 : IntKind.i64.wrap ((i : Int) + 1) = ((i + 1 : Nat) : Int) := by rw [i64_id ⟨by omega, by omega⟩]; omega
    unfold ref02_CheckShape_L0_step
    simp only []
    rw [if_pos (by omega), if_pos ⟨by omega, by omega⟩, w1]
    have hfar : far (nth x.Pts (i : Int)) = true ↔ ¬ (Cd (nth x.Pts (i : Int)).X ∧ Cd (nth x.Pts (i : Int)).Y) := by unfold far; by_cases q1 : Cd (nth x.Pts (i : Int)).X <;> by_cases q2 : Cd (nth x.Pts (i : Int)).Y <;> simp [q1, q2]
    generalize nth x.Pts (i : Int) = p at *
    have hnear : ∀ n, ref02_near n = true ↔ Cd n := by
      intro n
      unfold ref02_near Cd
      split
      · rw [decide_eq_true_eq]; omega
      · constructor
        · intro h; cases h
        · intro h; omega
    by_cases h1 : ref02_near p.X = true
    · rw [if_pos h1]
      by_cases h2 : ref02_near p.Y = true
      · rw [if_pos h2, if_neg (fun h => hfar.1 h ⟨(hnear _).1 h1, (hnear _).1 h2⟩)]
      · rw [if_neg h2, if_pos (hfar.2 (fun h => h2 ((hnear _).2 h.2)))]
    · rw [if_neg h1, if_pos (hfar.2 (fun h => h1 ((hnear _).2 h.1)))]) (by
    unfold ref02_CheckShape_L0_step
    rw [if_neg (by omega)])
  rcases A with ⟨j, -, a2, a3, a4⟩ | ⟨a1, a2⟩
  · rcases B with ⟨j', -, b2, b3, b4⟩ | ⟨b1, b2⟩
    · exact .inl ⟨j, a2, a3, a4, b4⟩
    · have := b1 j (Nat.zero_le _) a2
      rw [a3] at this
      cases this
  · rcases B with ⟨j', -, b2, b3, b4⟩ | ⟨b1, b2⟩
    · have := a1 j' (Nat.zero_le _) b2
      rw [b3] at this
      cases this
    · exact .inr ⟨fun j hj => a1 j (Nat.zero_le _) hj, a2, b2⟩
theorem sized_same (n : Int) : ref02_sized n = plane_size n := rfl
/-- A polygon whose corners are sound. -/
def PolyOK (l : List Spot) : Prop := 3 ≤ l.length ∧ l.length ≤ 8 ∧ (∀ j, j < l.length → Cd (nth l (j : Int)).X ∧ Cd (nth l (j : Int)).Y) ∧ ∀ i, i < l.length → okAt l i
/-- What a sound shape is. -/
def ShOK (x : Shape) : Prop :=
  (x.Kind = 1 ∧ x.W = 0 ∧ x.H = 0 ∧ x.Pts = [] ∧ 16 ≤ x.R ∧ x.R ≤ 4096) ∨ (x.Kind = 2 ∧ x.R = 0 ∧ x.Pts = [] ∧ (16 ≤ x.W ∧ x.W ≤ 4096) ∧ (16 ≤ x.H ∧ x.H ≤ 4096)) ∨ (x.Kind = 3 ∧ x.R = 0 ∧ x.W = 0 ∧ x.H = 0 ∧ PolyOK x.Pts)
theorem size_iff (n : Int) : plane_size n = true ↔ 16 ≤ n ∧ n ≤ 4096 := by
  unfold plane_size
  split
  · rw [decide_eq_true_eq]; omega
  · constructor
    · intro h; cases h
    · intro h; omega
theorem len0 {α : Type} {l : List α} (h : ((l.length : Nat) : Int) = 0) : l = [] := List.eq_nil_of_length_eq_zero (by omega)
theorem check_eq (x : Shape) : P_plane_CheckShape x ∧ P_ref02_CheckShape x ∧ ref02_CheckShape x = plane_CheckShape x ∧ (plane_CheckShape x = 0 ↔ ShOK x) := by
  unfold P_plane_CheckShape P_ref02_CheckShape plane_CheckShape ref02_CheckShape ShOK
  simp only [sized_same]
  by_cases k1 : x.Kind = 1
  · rw [if_pos k1, if_pos k1, if_pos k1, if_pos k1]
    refine ⟨trivial, trivial, ?_, ?_⟩
    · split
      · split
        · by_cases h : ((x.Pts.length : Nat) : Int) = 0
          · rw [if_neg (by omega), if_pos h]
            rfl
          · rw [if_pos (by omega), if_neg h]
        · rfl
      · rfl
    · by_cases h1 : x.W = 0
      · rw [if_pos h1]
        by_cases h2 : x.H = 0
        · rw [if_pos h2]
          by_cases h : ((x.Pts.length : Nat) : Int) = 0
          · rw [if_pos h]
            have h' := len0 h
            have := size_iff x.R
            by_cases h3 : plane_size x.R = true
            · rw [if_pos h3]
              have := this.1 h3
              exact ⟨fun _ => .inl ⟨k1, h1, h2, h', this.1, this.2⟩, fun _ => rfl⟩
            · rw [if_neg h3]
              refine ⟨fun h => by omega, fun h => ?_⟩
              rcases h with ⟨-, -, -, -, g1, g2⟩ | ⟨g, -⟩ | ⟨g, -⟩
              · exact absurd (this.2 ⟨g1, g2⟩) h3
              · omega
              · omega
          · rw [if_neg h]
            refine ⟨fun h => by omega, fun g => ?_⟩
            rcases g with ⟨-, -, -, g, -⟩ | ⟨g, -⟩ | ⟨g, -⟩
            · rw [g] at h; exact absurd rfl h
            · omega
            · omega
        · rw [if_neg h2]
          refine ⟨fun h => by omega, fun g => ?_⟩
          rcases g with ⟨-, -, g, -⟩ | ⟨g, -⟩ | ⟨g, -⟩ <;> omega
      · rw [if_neg h1]
        refine ⟨fun h => by omega, fun g => ?_⟩
        rcases g with ⟨-, g, -⟩ | ⟨g, -⟩ | ⟨g, -⟩ <;> omega
  · rw [if_neg k1, if_neg k1, if_neg k1, if_neg k1]
    by_cases k2 : x.Kind = 2
    · rw [if_pos k2, if_pos k2, if_pos k2, if_pos k2]
      refine ⟨trivial, trivial, ?_, ?_⟩
      · split
        · by_cases h : ((x.Pts.length : Nat) : Int) = 0
          · rw [if_neg (by omega), if_pos h]
            rfl
          · rw [if_pos (by omega), if_neg h]
        · rfl
      · by_cases h1 : x.R = 0
        · rw [if_pos h1]
          by_cases h : ((x.Pts.length : Nat) : Int) = 0
          · rw [if_pos h]
            have h' := len0 h
            have tw := size_iff x.W
            have th := size_iff x.H
            by_cases h3 : plane_size x.W = true
            · rw [if_pos h3]
              by_cases h4 : plane_size x.H = true
              · rw [if_pos h4]
                exact ⟨fun _ => .inr (.inl ⟨k2, h1, h', tw.1 h3, th.1 h4⟩), fun _ => rfl⟩
              · rw [if_neg h4]
                refine ⟨fun h => by omega, fun h => ?_⟩
                rcases h with ⟨g, -⟩ | ⟨-, -, -, -, g⟩ | ⟨g, -⟩
                · omega
                · exact absurd (th.2 g) h4
                · omega
            · rw [if_neg h3]
              refine ⟨fun h => by omega, fun h => ?_⟩
              rcases h with ⟨g, -⟩ | ⟨-, -, -, g, -⟩ | ⟨g, -⟩
              · omega
              · exact absurd (tw.2 g) h3
              · omega
          · rw [if_neg h]
            refine ⟨fun h => by omega, fun g => ?_⟩
            rcases g with ⟨g, -⟩ | ⟨-, -, g, -⟩ | ⟨g, -⟩
            · omega
            · rw [g] at h; exact absurd rfl h
            · omega
        · rw [if_neg h1]
          refine ⟨fun h => by omega, fun g => ?_⟩
          rcases g with ⟨g, -⟩ | ⟨-, g, -⟩ | ⟨g, -⟩ <;> omega
    · rw [if_neg k2, if_neg k2, if_neg k2, if_neg k2]
      by_cases k3 : x.Kind = 3
      · rw [if_pos k3, if_pos k3, if_pos k3, if_pos k3]
        have nope : ∀ {p : Prop}, (¬ (x.R = 0 ∧ x.W = 0 ∧ x.H = 0 ∧ PolyOK x.Pts)) → ((4 : Int) = 0 ↔ ((x.Kind = 1 ∧ x.W = 0 ∧ x.H = 0 ∧ x.Pts = [] ∧ 16 ≤ x.R ∧ x.R ≤ 4096) ∨ (x.Kind = 2 ∧ x.R = 0 ∧ x.Pts = [] ∧ (16 ≤ x.W ∧ x.W ≤ 4096) ∧ (16 ≤ x.H ∧ x.H ≤ 4096)) ∨ (x.Kind = 3 ∧ x.R = 0 ∧ x.W = 0 ∧ x.H = 0 ∧ PolyOK x.Pts))) := by
          intro p h
          refine ⟨fun h => by omega, fun g => ?_⟩
          rcases g with ⟨g, -⟩ | ⟨g, -⟩ | ⟨-, g⟩
          · omega
          · omega
          · exact absurd g h
        by_cases h1 : x.R = 0
        · rw [if_pos h1, if_pos h1, if_pos h1, if_pos h1]
          by_cases h2 : x.W = 0
          · rw [if_pos h2, if_pos h2, if_pos h2, if_pos h2]
            by_cases h3 : x.H = 0
            · rw [if_pos h3, if_pos h3, if_pos h3, if_pos h3]
              by_cases h4 : ((x.Pts.length : Nat) : Int) < 3
              · rw [if_pos h4, if_pos h4, if_pos h4, if_pos h4]
                exact ⟨trivial, trivial, rfl, nope (p := True) (fun g => by have := g.2.2.2.1; omega)⟩
              · rw [if_neg h4, if_neg h4, if_neg h4, if_neg h4]
                by_cases h5 : ((x.Pts.length : Nat) : Int) > 8
                · rw [if_pos h5, if_pos h5, if_pos h5, if_pos h5]
                  exact ⟨trivial, trivial, rfl, nope (p := True) (fun g => by have := g.2.2.2.2.1; omega)⟩
                · rw [if_neg h5, if_neg h5, if_neg h5, if_neg h5]
                  obtain ⟨c1, c2, c3⟩ := convex_same (l := x.Pts) (by omega) (by omega)
                  have c4 := (convex_iff (l := x.Pts) (by omega) (by omega)).2
                  rcases check_loops x (by omega) with ⟨j, g1, g2, g3, g4⟩ | ⟨g1, g2, g3⟩
                  · rw [g3, g4]
                    simp only [Option.getD_some, if_true]
                    refine ⟨⟨rfl, trivial⟩, ⟨rfl, trivial⟩, trivial, fun h => by omega, fun g => ?_⟩
                    rcases g with ⟨g, -⟩ | ⟨g, -⟩ | ⟨-, -, -, -, -, -, g, -⟩
                    · omega
                    · omega
                    · have := g j g1
                      unfold far at g2
                      simp [this.1, this.2] at g2
                  · rw [g2, g3]
                    simp only [Option.isSome_some, Option.getD_some, Nat.one_ne_zero, if_false, c3]
                    refine ⟨⟨trivial, c1, trivial⟩, ⟨trivial, c2, trivial⟩, trivial, ?_⟩
                    have hcd : ∀ j, j < x.Pts.length → Cd (nth x.Pts (j : Int)).X ∧ Cd (nth x.Pts (j : Int)).Y := by
                      intro j hj
                      have := g1 j hj
                      unfold far at this
                      simpa using this
                    by_cases h6 : plane_convex x.Pts = true
                    · rw [if_pos h6]
                      exact ⟨fun _ => .inr (.inr ⟨k3, h1, h2, h3, by omega, by omega, hcd, c4.1 h6⟩), fun _ => rfl⟩
                    · rw [if_neg h6]
                      refine ⟨fun h => by omega, fun g => ?_⟩
                      rcases g with ⟨g, -⟩ | ⟨g, -⟩ | ⟨-, -, -, -, -, -, -, g⟩
                      · omega
                      · omega
                      · exact absurd (c4.2 g) h6
            · rw [if_neg h3, if_neg h3, if_neg h3, if_neg h3]
              exact ⟨trivial, trivial, rfl, nope (p := True) (fun g => h3 g.2.2.1)⟩
          · rw [if_neg h2, if_neg h2, if_neg h2, if_neg h2]
            exact ⟨trivial, trivial, rfl, nope (p := True) (fun g => h2 g.2.1)⟩
        · rw [if_neg h1, if_neg h1, if_neg h1, if_neg h1]
          exact ⟨trivial, trivial, rfl, nope (p := True) (fun g => h1 g.1)⟩
      · rw [if_neg k3, if_neg k3, if_neg k3, if_neg k3]
        refine ⟨trivial, trivial, rfl, fun h => by omega, fun g => ?_⟩
        rcases g with ⟨g, -⟩ | ⟨g, -⟩ | ⟨g, -⟩ <;> omega
theorem corners_eq (x : Shape) (hl : x.Pts.length ≤ 1000) : P_plane_Corners x ∧ P_ref02_Corners x ∧ ref02_Corners x = plane_Corners x := by
  obtain ⟨a, b, c, d⟩ := check_eq x
  unfold P_plane_Corners P_ref02_Corners plane_Corners ref02_Corners
  simp only []
  rw [c]
  refine ⟨⟨a, ?_⟩, ⟨b, ?_⟩, rfl⟩
  · split
    · split
      · trivial
      · exact ⟨by omega, trivial⟩
    · trivial
  · split
    · split
      · trivial
      · exact ⟨by omega, trivial⟩
    · trivial
end Go.Bag

