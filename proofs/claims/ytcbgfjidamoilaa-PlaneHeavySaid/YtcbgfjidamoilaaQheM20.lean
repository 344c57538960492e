/- Discs and boxes: sound, their weights positive, the greater the density the less. -/
import Derived.Test.YtcbgfjidamoilaaQheM19
set_option linter.unusedVariables false
namespace Go.Bag
open Go Go.AbsK

theorem mul_bd {a b M N : Int} (hM : 0 ≤ M) (ha : -M ≤ a ∧ a ≤ M) (hb : -N ≤ b ∧ b ≤ N) : -(M * N) ≤ a * b ∧ a * b ≤ M * N := by
  have h : (a * b).natAbs = a.natAbs * b.natAbs := Int.natAbs_mul a b
  have h1 : (a.natAbs : Int) ≤ M := by omega
  have h2 : (b.natAbs : Int) ≤ N := by omega
  have h3 : (a.natAbs : Int) * (b.natAbs : Int) ≤ M * N := Int.le_trans (Int.mul_le_mul_of_nonneg_left h2 (by omega)) (Int.mul_le_mul_of_nonneg_right h1 (by omega))
  have h4 : ((a * b).natAbs : Int) = (a.natAbs : Int) * (b.natAbs : Int) := by rw [h]; push_cast; rfl
  omega
/-- A coordinate of a corner. -/
def Cd (n : Int) : Prop := -4096 ≤ n ∧ n ≤ 4096
theorem cd_mul {a b : Int} (ha : Cd a) (hb : Cd b) : -16777216 ≤ a * b ∧ a * b ≤ 16777216 := by
  have := mul_bd (by decide) ha hb
  omega
theorem cross_val {a b : Spot} (ha : Cd a.X ∧ Cd a.Y) (hb : Cd b.X ∧ Cd b.Y) : plane_spot_cross a b = a.X * b.Y - a.Y * b.X ∧ -33554432 ≤ plane_spot_cross a b ∧ plane_spot_cross a b ≤ 33554432 := by
  have h1 := cd_mul ha.1 hb.2
  have h2 := cd_mul ha.2 hb.1
  have e : plane_spot_cross a b = a.X * b.Y - a.Y * b.X := by
    unfold plane_spot_cross
    rw [i64_id (n := a.X * b.Y) ⟨by omega, by omega⟩, i64_id (n := a.Y * b.X) ⟨by omega, by omega⟩, i64_id ⟨by omega, by omega⟩]
  rw [e]
  exact ⟨rfl, by omega, by omega⟩
theorem dot_val {a b : Spot} (ha : Cd a.X ∧ Cd a.Y) (hb : Cd b.X ∧ Cd b.Y) : plane_spot_dot a b = a.X * b.X + a.Y * b.Y ∧ -33554432 ≤ plane_spot_dot a b ∧ plane_spot_dot a b ≤ 33554432 := by
  have h1 := cd_mul ha.1 hb.1
  have h2 := cd_mul ha.2 hb.2
  have e : plane_spot_dot a b = a.X * b.X + a.Y * b.Y := by
    unfold plane_spot_dot
    rw [i64_id (n := a.X * b.X) ⟨by omega, by omega⟩, i64_id (n := a.Y * b.Y) ⟨by omega, by omega⟩, i64_id ⟨by omega, by omega⟩]
  rw [e]
  exact ⟨rfl, by omega, by omega⟩
/-- The list's corner. -/
def cn (l : List Spot) (i : Nat) : Spot := ⟨sx l i, sy l i⟩
/-- What a corner and the next one add to a polygon's area and moment. -/
def wA (l : List Spot) (i : Nat) : Int := (cn l i).X * (cn l ((i + 1) % l.length)).Y - (cn l i).Y * (cn l ((i + 1) % l.length)).X
def wM (l : List Spot) (i : Nat) : Int :=
  let a := cn l i; let b := cn l ((i + 1) % l.length)
  wA l i * ((a.X * a.X + a.Y * a.Y) + (a.X * b.X + a.Y * b.Y) + (b.X * b.X + b.Y * b.Y))
theorem wstep {l : List Spot} {i : Nat} {s : Int × Int} (h1 : Cd (cn l i).X ∧ Cd (cn l i).Y) (h2 : Cd (cn l ((i + 1) % l.length)).X ∧ Cd (cn l ((i + 1) % l.length)).Y)
    (hs1 : -1000000000000000000 ≤ s.1 ∧ s.1 ≤ 1000000000000000000) (hs2 : -1000000000000000000 ≤ s.2 ∧ s.2 ≤ 1000000000000000000) :
    plane_Weigh_R_step l i s = (s.1 + wA l i, s.2 + wM l i) ∧ (-33554432 ≤ wA l i ∧ wA l i ≤ 33554432) ∧ (-4503599627370496 ≤ wM l i ∧ wM l i ≤ 4503599627370496) := by
  obtain ⟨c1, c2, c3⟩ := cross_val h1 h2
  obtain ⟨d1, d2, d3⟩ := dot_val h1 h1
  obtain ⟨e1, e2, e3⟩ := dot_val h1 h2
  obtain ⟨f1, f2, f3⟩ := dot_val h2 h2
  have hA : plane_spot_cross (cn l i) (cn l ((i + 1) % l.length)) = wA l i := c1
  have hM : wM l i = plane_spot_cross (cn l i) (cn l ((i + 1) % l.length)) * ((plane_spot_dot (cn l i) (cn l i) + plane_spot_dot (cn l i) (cn l ((i + 1) % l.length))) + plane_spot_dot (cn l ((i + 1) % l.length)) (cn l ((i + 1) % l.length))) := by
    rw [hA, d1, e1, f1]
    rfl
  have bm := mul_bd (a := plane_spot_cross (cn l i) (cn l ((i + 1) % l.length))) (b := (plane_spot_dot (cn l i) (cn l i) + plane_spot_dot (cn l i) (cn l ((i + 1) % l.length))) + plane_spot_dot (cn l ((i + 1) % l.length)) (cn l ((i + 1) % l.length))) (M := 33554432) (N := 134217728) (by decide) (by omega) (by omega)
  rw [← hM] at bm
  refine ⟨?_, by rw [← hA]; omega, by omega⟩
  show (IntKind.i64.wrap (s.1 + plane_spot_cross (cn l i) (cn l ((i + 1) % l.length))), IntKind.i64.wrap (s.2 + IntKind.i64.wrap (plane_spot_cross (cn l i) (cn l ((i + 1) % l.length)) * IntKind.i64.wrap (IntKind.i64.wrap (plane_spot_dot (cn l i) (cn l i) + plane_spot_dot (cn l i) (cn l ((i + 1) % l.length))) + plane_spot_dot (cn l ((i + 1) % l.length)) (cn l ((i + 1) % l.length)))))) = _
  rw [i64_id (n := plane_spot_dot (cn l i) (cn l i) + plane_spot_dot (cn l i) (cn l ((i + 1) % l.length))) ⟨by omega, by omega⟩,
    i64_id (n := plane_spot_dot (cn l i) (cn l i) + plane_spot_dot (cn l i) (cn l ((i + 1) % l.length)) + plane_spot_dot (cn l ((i + 1) % l.length)) (cn l ((i + 1) % l.length))) ⟨by omega, by omega⟩,
    ← hM, i64_id (n := wM l i) ⟨by omega, by omega⟩, i64_id (n := s.2 + wM l i) ⟨by omega, by omega⟩, hA, i64_id (n := s.1 + wA l i) ⟨by rw [← hA]; omega, by rw [← hA]; omega⟩]
theorem ratio_val {c d : Int} (hc : 0 ≤ c ∧ c ≤ 9223372036854775807) (hd : 0 < d ∧ d ≤ 9223372036854775807) (hq : c * 4294967296 / d ≤ 9223372036854775807) : P_fixed_Ratio c d ∧ fixed_Ratio c d = ⟨c * 4294967296 / d, false⟩ := by
  obtain ⟨a, b⟩ := ratio_eq (a := c) (b := d) ⟨by omega, by omega⟩ ⟨by omega, by omega⟩
  refine ⟨a, ?_⟩
  have e : qt c d = c * 4294967296 / d := by unfold qt; rw [show ((c.natAbs : Nat) : Int) = c by omega]
  rw [b, rat_pos hd.1 (by rw [e]; exact hq), if_neg (by omega), e]
theorem div_val {c d : Int} (hc : 0 ≤ c ∧ c ≤ 9223372036854775807) (hd : 0 < d ∧ d ≤ 9223372036854775807) (hq : c * 4294967296 / d ≤ 9223372036854775807) : P_fixed_Div ⟨c, false⟩ ⟨d, false⟩ ∧ fixed_Div ⟨c, false⟩ ⟨d, false⟩ = ⟨c * 4294967296 / d, false⟩ := by
  have ic : I64 (⟨c, false⟩ : Num).V := ⟨by simp only []; omega, by simp only []; omega⟩
  have id' : I64 (⟨d, false⟩ : Num).V := ⟨by simp only []; omega, by simp only []; omega⟩
  obtain ⟨a, -, b, -⟩ := div_eq ic id'
  refine ⟨a, ?_⟩
  have e : qt c d = c * 4294967296 / d := by unfold qt; rw [show ((c.natAbs : Nat) : Int) = c by omega]
  rw [b]
  unfold divN
  rw [snd_id (x := ⟨c, false⟩) (by simp only []; omega), snd_id (x := ⟨d, false⟩) (by simp only []; omega)]
  simp only []
  rw [rat_pos hd.1 (by rw [e]; exact hq), if_neg (by omega), e]
  rfl
theorem int_val {n : Int} (h : 0 ≤ n ∧ n ≤ 2000000000) : fixed_Int n = ⟨n * 4294967296, false⟩ := by
  rw [int_eq ⟨by omega, by omega⟩, sat_F _ (by omega) (by omega)]
theorem le_div {a b q : Int} (hb : 0 < b) (h : q * b ≤ a) : q ≤ a / b := Int.le_ediv_of_mul_le hb h
theorem div_le {a b q : Int} (hb : 0 < b) (h : a ≤ q * b) : a / b ≤ q := Int.ediv_le_of_le_mul hb h
/-- A quotient by a density: positive, the less the greater the density. -/
theorem dens {v n m : Int} (hv : 1000 ≤ v ∧ v ≤ 1000000000000000) (hn : 1 ≤ n) (hnm : n ≤ m) (hm : m ≤ 1000) :
    P_fixed_Div ⟨v, false⟩ (fixed_Int n) ∧ P_fixed_Div ⟨v, false⟩ (fixed_Int m) ∧ (fixed_Div ⟨v, false⟩ (fixed_Int n)).F = false ∧ (fixed_Div ⟨v, false⟩ (fixed_Int m)).F = false ∧
      0 < (fixed_Div ⟨v, false⟩ (fixed_Int m)).V ∧ (fixed_Div ⟨v, false⟩ (fixed_Int m)).V ≤ (fixed_Div ⟨v, false⟩ (fixed_Int n)).V := by
  rw [int_val ⟨by omega, by omega⟩, int_val ⟨by omega, by omega⟩]
  have q : ∀ k, 1 ≤ k → k ≤ 1000 → v * 4294967296 / (k * 4294967296) ≤ 1000000000000000 := by
    intro k h1 h2
    exact div_le (by omega) (by omega)
  obtain ⟨a1, a2⟩ := div_val (c := v) (d := n * 4294967296) (by omega) (by omega) (by have := q n hn (by omega); omega)
  obtain ⟨b1, b2⟩ := div_val (c := v) (d := m * 4294967296) (by omega) (by omega) (by have := q m (by omega) hm; omega)
  refine ⟨a1, b1, by rw [a2], by rw [b2], ?_, ?_⟩
  · rw [b2]
    exact Int.lt_of_lt_of_le (show (0 : Int) < 1 by decide) (le_div (by omega) (by omega))
  · rw [a2, b2]
    simp only []
    refine le_div (by omega) ?_
    have h1 := Int.ediv_mul_le (v * 4294967296) (show m * 4294967296 ≠ 0 by omega)
    have h0 : 0 ≤ v * 4294967296 / (m * 4294967296) := Int.ediv_nonneg (by omega) (by omega)
    have h2 := Int.mul_le_mul_of_nonneg_left (show n * 4294967296 ≤ m * 4294967296 by omega) h0
    omega
/-- A weight for two densities. -/
def Wt (s : Shape) (n m : Int) : Prop :=
  P_plane_Weigh s n ∧ P_plane_Weigh s m ∧ (plane_Weigh s n).2 = 0 ∧ (plane_Weigh s m).2 = 0 ∧ (plane_Weigh s n).1.M.F = false ∧ (plane_Weigh s n).1.I.F = false ∧ (plane_Weigh s m).1.M.F = false ∧ (plane_Weigh s m).1.I.F = false ∧
    0 < (plane_Weigh s m).1.M.V ∧ 0 < (plane_Weigh s m).1.I.V ∧ (plane_Weigh s m).1.M.V ≤ (plane_Weigh s n).1.M.V ∧ (plane_Weigh s m).1.I.V ≤ (plane_Weigh s n).1.I.V
theorem size_true {n : Int} (h : 16 ≤ n ∧ n ≤ 4096) : plane_size n = true := by
  unfold plane_size
  rw [if_pos h.1]
  exact decide_eq_true h.2
theorem check_disc {r : Int} (h : 16 ≤ r ∧ r ≤ 4096) : plane_CheckShape ⟨1, r, 0, 0, []⟩ = 0 ∧ P_plane_CheckShape ⟨1, r, 0, 0, []⟩ := by
  unfold plane_CheckShape P_plane_CheckShape
  simp [size_true h]
theorem check_box {w h : Int} (hw : 16 ≤ w ∧ w ≤ 4096) (hh : 16 ≤ h ∧ h ≤ 4096) : plane_CheckShape ⟨2, 0, w, h, []⟩ = 0 ∧ P_plane_CheckShape ⟨2, 0, w, h, []⟩ := by
  unfold plane_CheckShape P_plane_CheckShape
  simp [size_true hw, size_true hh]
theorem disc_val {r : Int} (h : 16 ≤ r ∧ r ≤ 4096) : P_plane_Disc r ∧ plane_Disc r = (⟨1, r, 0, 0, []⟩, 0) := by
  obtain ⟨c1, c2⟩ := check_disc h
  unfold P_plane_Disc plane_Disc V_plane_sound P_plane_sound plane_sound
  simp [c1, c2]
theorem square_val {w h : Int} (hw : 16 ≤ w ∧ w ≤ 4096) (hh : 16 ≤ h ∧ h ≤ 4096) : P_plane_Square w h ∧ plane_Square w h = (⟨2, 0, w, h, []⟩, 0) := by
  obtain ⟨c1, c2⟩ := check_box hw hh
  unfold P_plane_Square plane_Square V_plane_sound P_plane_sound plane_sound
  simp [c1, c2]
theorem weigh_disc {r n m : Int} (hr : 16 ≤ r ∧ r ≤ 4096) (hn : 1 ≤ n) (hnm : n ≤ m) (hm : m ≤ 1000) : Wt ⟨1, r, 0, 0, []⟩ n m := by
  obtain ⟨c1, c2⟩ := check_disc hr
  have r2 : 256 ≤ r * r ∧ r * r ≤ 16777216 := by
    have h1 := sq_le (a := 16) (b := r) (by decide) hr.1
    have h2 := sq_le (a := r) (b := 4096) (by omega) hr.2
    omega
  have r4 : 65536 ≤ (r * r) * (r * r) ∧ (r * r) * (r * r) ≤ 281474976710656 := by
    have h1 := sq_le (a := 256) (b := r * r) (by decide) r2.1
    have h2 := sq_le (a := r * r) (b := 16777216) (by omega) r2.2
    omega
  have r3 : 4096 ≤ r * r * r ∧ r * r * r ≤ 68719476736 := by
    have h1 := Int.mul_le_mul (show (256 : Int) ≤ r * r from r2.1) (show (16 : Int) ≤ r from hr.1) (by decide) (by omega)
    have h2 := Int.mul_le_mul (show r * r ≤ (16777216 : Int) from r2.2) (show r ≤ (4096 : Int) from hr.2) (by omega) (by omega)
    omega
  have er4 : r * r * r * r = (r * r) * (r * r) := by grind
  have w2 : IntKind.i64.wrap (r * r) = r * r := i64_id ⟨by omega, by omega⟩
  have w3 : IntKind.i64.wrap (r * r * r) = r * r * r := i64_id ⟨by omega, by omega⟩
  have w4 : IntKind.i64.wrap (r * r * r * r) = r * r * r * r := i64_id ⟨by omega, by omega⟩
  -- the mass
  have a1 : 16777216 ≤ 65536 * 4294967296 / (r * r) := le_div (by omega) (by omega)
  have a2 : 65536 * 4294967296 / (r * r) ≤ 1099511627776 := div_le (by omega) (by omega)
  obtain ⟨b1, b2⟩ := ratio_val (c := 65536) (d := r * r) (by decide) (by omega) (by omega)
  generalize hA : 65536 * 4294967296 / (r * r) = A at *
  have a3 : 5000000 ≤ A * 4294967296 / 13493037704 := le_div (by decide) (by omega)
  have a4 : A * 4294967296 / 13493037704 ≤ 1099511627776 := div_le (by decide) (by omega)
  obtain ⟨b3, b4⟩ := div_val (c := A) (d := 13493037704) (by omega) (by decide) (by omega)
  generalize hB : A * 4294967296 / 13493037704 = B at *
  obtain ⟨d1, d2, d3, d4, d5, d6⟩ := dens (v := B) (n := n) (m := m) (by omega) hn hnm hm
  -- the inertia
  have a5 : 131072 ≤ 8589934592 * 4294967296 / (r * r * r * r) := le_div (by omega) (by omega)
  have a6 : 8589934592 * 4294967296 / (r * r * r * r) ≤ 562949953421312 := div_le (by omega) (by omega)
  obtain ⟨b5, b6⟩ := ratio_val (c := 8589934592) (d := r * r * r * r) (by decide) (by omega) (by omega)
  generalize hC : 8589934592 * 4294967296 / (r * r * r * r) = C at *
  have a7 : 40000 ≤ C * 4294967296 / 13493037704 := le_div (by decide) (by omega)
  have a8 : C * 4294967296 / 13493037704 ≤ 562949953421312 := div_le (by decide) (by omega)
  obtain ⟨b7, b8⟩ := div_val (c := C) (d := 13493037704) (by omega) (by decide) (by omega)
  generalize hD : C * 4294967296 / 13493037704 = D at *
  obtain ⟨f1, f2, f3, f4, f5, f6⟩ := dens (v := D) (n := n) (m := m) (by omega) hn hnm hm
  have hof : fixed_Of 13493037704 = ⟨13493037704, false⟩ := by decide +kernel
  unfold Wt
  have val : ∀ k, 1 ≤ k → k ≤ 1000 → plane_Weigh ⟨1, r, 0, 0, []⟩ k = (⟨fixed_Div ⟨B, false⟩ (fixed_Int k), fixed_Div ⟨D, false⟩ (fixed_Int k)⟩, 0) := by
    intro k h1 h2
    unfold plane_Weigh
    simp only []
    rw [c1, if_pos rfl, if_neg (by omega), if_neg (by omega), if_pos trivial, hof, w2, w3, w4, b2, b4, b6, b8]
  have cond : ∀ k, 1 ≤ k → k ≤ 1000 → P_fixed_Div ⟨B, false⟩ (fixed_Int k) → P_fixed_Div ⟨D, false⟩ (fixed_Int k) → P_plane_Weigh ⟨1, r, 0, 0, []⟩ k := by
    intro k h1 h2 k1 k2
    unfold P_plane_Weigh
    simp only []
    rw [c1, if_pos rfl, if_neg (by omega), if_neg (by omega), if_pos trivial, hof, w2, w3, w4, b2, b4, b6, b8]
    exact ⟨c2, b1, b3, b5, b7, k1, k2, trivial⟩
  rw [val n hn (by omega), val m (by omega) hm]
  exact ⟨cond n hn (by omega) d1 f1, cond m (by omega) hm d2 f2, rfl, rfl, d3, f3, d4, f4, d5, f5, d6, f6⟩
theorem box_corners {w h : Int} (hw : 16 ≤ w ∧ w ≤ 4096) (hh : 16 ≤ h ∧ h ≤ 4096) : P_plane_Corners ⟨2, 0, w, h, []⟩ ∧ plane_Corners ⟨2, 0, w, h, []⟩ = [⟨-w, -h⟩, ⟨w, -h⟩, ⟨w, h⟩, ⟨-w, h⟩] := by
  obtain ⟨c1, c2⟩ := check_box hw hh
  unfold P_plane_Corners plane_Corners
  simp only []
  simp only [c1, ↓reduceIte]
  rw [i64_id (n := 0 - w) ⟨by omega, by omega⟩, i64_id (n := 0 - h) ⟨by omega, by omega⟩, Int.zero_sub, Int.zero_sub]
  exact ⟨⟨c2, trivial⟩, rfl⟩
theorem box_sums {w h : Int} (hw : 16 ≤ w ∧ w ≤ 4096) (hh : 16 ≤ h ∧ h ≤ 4096) :
    (List.range 4).foldl (fun s i => plane_Weigh_R_step [⟨-w, -h⟩, ⟨w, -h⟩, ⟨w, h⟩, ⟨-w, h⟩] i s) (0, 0) = (8 * (w * h), 16 * ((w * h) * (w * w + h * h))) := by
  have cw : Cd w := ⟨by omega, by omega⟩
  have ch : Cd h := ⟨by omega, by omega⟩
  have nw : Cd (-w) := ⟨by omega, by omega⟩
  have nh : Cd (-h) := ⟨by omega, by omega⟩
  obtain ⟨l, hl⟩ : ∃ l : List Spot, l = [⟨-w, -h⟩, ⟨w, -h⟩, ⟨w, h⟩, ⟨-w, h⟩] := ⟨_, rfl⟩
  have k0 : cn l 0 = ⟨-w, -h⟩ := by rw [hl]; rfl
  have k1 : cn l 1 = ⟨w, -h⟩ := by rw [hl]; rfl
  have k2 : cn l 2 = ⟨w, h⟩ := by rw [hl]; rfl
  have k3 : cn l 3 = ⟨-w, h⟩ := by rw [hl]; rfl
  have m0 : (0 + 1) % l.length = 1 := by rw [hl]; show (0 + 1) % 4 = 1; rfl
  have m1 : (1 + 1) % l.length = 2 := by rw [hl]; show (1 + 1) % 4 = 2; rfl
  have m2 : (2 + 1) % l.length = 3 := by rw [hl]; show (2 + 1) % 4 = 3; rfl
  have m3 : (3 + 1) % l.length = 0 := by rw [hl]; show (3 + 1) % 4 = 0; rfl
  rw [← hl]
  show plane_Weigh_R_step l 3 (plane_Weigh_R_step l 2 (plane_Weigh_R_step l 1 (plane_Weigh_R_step l 0 (0, 0)))) = _
  obtain ⟨s0, a0, b0⟩ := wstep (l := l) (i := 0) (s := (0, 0)) (by rw [k0]; exact ⟨nw, nh⟩) (by rw [m0, k1]; exact ⟨cw, nh⟩) (by decide) (by decide)
  rw [s0]
  obtain ⟨s1, a1, b1⟩ := wstep (l := l) (i := 1) (s := ((0 : Int) + wA l 0, (0 : Int) + wM l 0)) (by rw [k1]; exact ⟨cw, nh⟩) (by rw [m1, k2]; exact ⟨cw, ch⟩) (by simp only []; omega) (by simp only []; omega)
  rw [s1]
  obtain ⟨s2, a2, b2⟩ := wstep (l := l) (i := 2) (s := ((0 : Int) + wA l 0 + wA l 1, (0 : Int) + wM l 0 + wM l 1)) (by rw [k2]; exact ⟨cw, ch⟩) (by rw [m2, k3]; exact ⟨nw, ch⟩) (by simp only []; omega) (by simp only []; omega)
  rw [s2]
  obtain ⟨s3, a3, b3⟩ := wstep (l := l) (i := 3) (s := ((0 : Int) + wA l 0 + wA l 1 + wA l 2, (0 : Int) + wM l 0 + wM l 1 + wM l 2)) (by rw [k3]; exact ⟨nw, ch⟩) (by rw [m3, k0]; exact ⟨nw, nh⟩) (by simp only []; omega) (by simp only []; omega)
  rw [s3]
  simp only [wA, wM, k0, k1, k2, k3, m0, m1, m2, m3]
  refine Prod.ext ?_ ?_ <;> simp only [] <;> grind
theorem weigh_box {w h n m : Int} (hw : 16 ≤ w ∧ w ≤ 4096) (hh : 16 ≤ h ∧ h ≤ 4096) (hn : 1 ≤ n) (hnm : n ≤ m) (hm : m ≤ 1000) : Wt ⟨2, 0, w, h, []⟩ n m := by
  obtain ⟨c1, c2⟩ := check_box hw hh
  obtain ⟨k1, k2⟩ := box_corners hw hh
  have hs := box_sums hw hh
  have p1 : 256 ≤ w * h ∧ w * h ≤ 16777216 := by
    have h1 := Int.mul_le_mul (show (16 : Int) ≤ w from hw.1) (show (16 : Int) ≤ h from hh.1) (by decide) (by omega)
    have h2 := Int.mul_le_mul (show w ≤ (4096 : Int) from hw.2) (show h ≤ (4096 : Int) from hh.2) (by omega) (by omega)
    omega
  have p2 : 512 ≤ w * w + h * h ∧ w * w + h * h ≤ 33554432 := by
    have h1 := sq_le (a := 16) (b := w) (by decide) hw.1
    have h2 := sq_le (a := w) (b := 4096) (by omega) hw.2
    have h3 := sq_le (a := 16) (b := h) (by decide) hh.1
    have h4 := sq_le (a := h) (b := 4096) (by omega) hh.2
    omega
  have p3 : 131072 ≤ (w * h) * (w * w + h * h) ∧ (w * h) * (w * w + h * h) ≤ 562949953421312 := by
    have h1 := Int.mul_le_mul (show (256 : Int) ≤ w * h from p1.1) (show (512 : Int) ≤ w * w + h * h from p2.1) (by decide) (by omega)
    have h2 := Int.mul_le_mul (show w * h ≤ (16777216 : Int) from p1.2) (show w * w + h * h ≤ (33554432 : Int) from p2.2) (by omega) (by omega)
    omega
  generalize hX : 8 * (w * h) = X at *
  generalize hY : 16 * ((w * h) * (w * w + h * h)) = Y at *
  have a1 : 4000000 ≤ 131072 * 4294967296 / X := le_div (by omega) (by omega)
  have a2 : 131072 * 4294967296 / X ≤ 1000000000000 := div_le (by omega) (by omega)
  obtain ⟨b1, b2⟩ := ratio_val (c := 131072) (d := X) (by decide) (by omega) (by omega)
  generalize hB : 131072 * 4294967296 / X = B at *
  obtain ⟨d1, d2, d3, d4, d5, d6⟩ := dens (v := B) (n := n) (m := m) (by omega) hn hnm hm
  have a3 : 20000 ≤ 51539607552 * 4294967296 / Y := le_div (by omega) (by omega)
  have a4 : 51539607552 * 4294967296 / Y ≤ 200000000000000 := div_le (by omega) (by omega)
  obtain ⟨b3, b4⟩ := ratio_val (c := 51539607552) (d := Y) (by decide) (by omega) (by omega)
  generalize hD : 51539607552 * 4294967296 / Y = D at *
  obtain ⟨f1, f2, f3, f4, f5, f6⟩ := dens (v := D) (n := n) (m := m) (by omega) hn hnm hm
  unfold Wt
  have e4 : ([⟨-w, -h⟩, ⟨w, -h⟩, ⟨w, h⟩, ⟨-w, h⟩] : List Spot).length = 4 := rfl
  have val : ∀ k, 1 ≤ k → k ≤ 1000 → plane_Weigh ⟨2, 0, w, h, []⟩ k = (⟨fixed_Div ⟨B, false⟩ (fixed_Int k), fixed_Div ⟨D, false⟩ (fixed_Int k)⟩, 0) := by
    intro k h1 h2
    unfold plane_Weigh
    simp only []
    rw [c1, if_pos rfl, if_neg (by omega), if_neg (by omega), if_neg (by simp), k2, e4, hs]
    simp only []
    rw [b2, b4]
  have cond : ∀ k, 1 ≤ k → k ≤ 1000 → P_fixed_Div ⟨B, false⟩ (fixed_Int k) → P_fixed_Div ⟨D, false⟩ (fixed_Int k) → P_plane_Weigh ⟨2, 0, w, h, []⟩ k := by
    intro k h1 h2 q1 q2
    unfold P_plane_Weigh
    simp only []
    rw [c1, if_pos rfl, if_neg (by omega), if_neg (by omega), if_neg (by simp), k2, e4, hs]
    simp only []
    rw [b2, b4]
    exact ⟨c2, k1, by decide, b1, q1, b3, q2, trivial⟩
  rw [val n hn (by omega), val m (by omega) hm]
  exact ⟨cond n hn (by omega) d1 f1, cond m (by omega) hm d2 f2, rfl, rfl, d3, f3, d4, f4, d5, f5, d6, f6⟩
theorem mod_spec {x k : Int} (hx : I64 x) (hk : 0 < k ∧ k ≤ 1000000) : P_kit_Mod x k ∧ 0 ≤ kit_Mod x k ∧ kit_Mod x k < k := by
  have h1 := Int.tmod_lt_of_pos x hk.1
  have h2 : -k < x.tmod k := by
    have := Int.tmod_lt_of_pos (-x) hk.1
    rw [Int.neg_tmod] at this
    omega
  unfold P_kit_Mod kit_Mod
  refine ⟨⟨by omega, trivial⟩, ?_⟩
  split
  · rw [i64_id ⟨by omega, by omega⟩]
    omega
  · omega
theorem heavy_true {x y z u w : Int} (hx : I64 x) (hy : I64 y) (hz : I64 z) (hu : I64 u) (hw : I64 w) : P_law02_PlaneHeavy x y z u w := by
  obtain ⟨a1, a2, a3⟩ := mod_spec (k := 4081) hx (by decide)
  obtain ⟨b1, b2, b3⟩ := mod_spec (k := 4081) hy (by decide)
  obtain ⟨c1, c2, c3⟩ := mod_spec (k := 4081) hz (by decide)
  obtain ⟨d1, d2, d3⟩ := mod_spec (k := 1000) hu (by decide)
  obtain ⟨e1, e2, e3⟩ := mod_spec (k := 1000) hw (by decide)
  intro r0 h0
  refine ⟨a1, ?_⟩
  subst h0
  generalize kit_Mod x 4081 = R at *
  rw [i64_id (n := 16 + R) ⟨by omega, by omega⟩]
  obtain ⟨f1, f2⟩ := disc_val (r := 16 + R) (by omega)
  intro r1 h1
  rw [f2] at h1
  subst h1
  refine ⟨f1, ?_⟩
  intro r2 h2
  refine ⟨b1, ?_⟩
  intro r3 h3
  refine ⟨c1, ?_⟩
  subst h2 h3
  generalize kit_Mod y 4081 = W at *
  generalize kit_Mod z 4081 = H at *
  rw [i64_id (n := 16 + W) ⟨by omega, by omega⟩, i64_id (n := 16 + H) ⟨by omega, by omega⟩]
  obtain ⟨g1, g2⟩ := square_val (w := 16 + W) (h := 16 + H) (by omega) (by omega)
  intro r4 h4
  rw [g2] at h4
  subst h4
  refine ⟨g1, rfl, rfl, ?_⟩
  intro r5 h5
  refine ⟨d1, ?_⟩
  intro r6 h6
  refine ⟨e1, ?_⟩
  subst h5 h6
  generalize kit_Mod u 1000 = n at *
  generalize kit_Mod w 1000 = m at *
  rw [i64_id (n := 1 + n) ⟨by omega, by omega⟩, i64_id (n := 1 + m) ⟨by omega, by omega⟩]
  obtain ⟨p1, p2, p3, p4, p5, p6, p7, p8, p9, p10, p11, p12⟩ := weigh_disc (r := 16 + R) (n := min (1 + n) (1 + m)) (m := max (1 + n) (1 + m)) (by omega) (by omega) (by omega) (by omega)
  obtain ⟨q1, q2, q3, q4, q5, q6, q7, q8, q9, q10, q11, q12⟩ := weigh_box (w := 16 + W) (h := 16 + H) (n := min (1 + n) (1 + m)) (m := max (1 + n) (1 + m)) (by omega) (by omega) (by omega) (by omega) (by omega)
  intro r7 h7
  refine ⟨p1, ?_⟩
  intro r8 h8
  subst h7 h8
  refine ⟨p2, p3, p4, by rw [p5]; decide, by rw [p6]; decide, by rw [p7]; decide, by rw [p8]; decide, Int.not_le.2 p9, Int.not_le.2 p10, Int.not_lt.2 p11, Int.not_lt.2 p12, ?_⟩
  intro r9 h9
  refine ⟨q1, ?_⟩
  intro r10 h10
  subst h9 h10
  exact ⟨q2, q3, q4, by rw [q5]; decide, by rw [q6]; decide, by rw [q7]; decide, by rw [q8]; decide, Int.not_le.2 q9, Int.not_le.2 q10, Int.not_lt.2 q11, Int.not_lt.2 q12, fun r11 h11 => h11⟩
end Go.Bag

