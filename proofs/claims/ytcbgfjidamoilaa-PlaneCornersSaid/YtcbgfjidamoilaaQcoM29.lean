/- Corners on a circle: convex, whatever the angle that they begin with. -/
import Derived.Test.YtcbgfjidamoilaaQcoM28
set_option linter.unusedVariables false
namespace Go.Bag
open Go Go.AbsK

def tP (j : Nat) : Int × Int := (tS (j + 210), tS j)
def cr (p q : Int × Int) : Int := p.1 * q.2 - p.2 * q.1
def df (p q : Int × Int) : Int × Int := (p.1 - q.1, p.2 - q.2)
def l1 (p : Int × Int) : Int := (p.1.natAbs : Int) + (p.2.natAbs : Int)
/-- What is asked of the table's polygons of n corners, from the step g on, with what the corners may be off by. -/
def chk (n g : Nat) : Bool :=
  let s := 840 / n
  let p0 := tP g; let p1 := tP (g + s); let p2 := tP (g + 2 * s)
  let e := df p1 p0; let f := df p2 p1
  decide (63500000 * (l1 p0 + l1 p1) + 2 * (63500000 * 63500000) < cr p0 p1) &&
  decide (4 * 4294967296 * (l1 e + l1 f + 8 * 63500000) ≤ 200 * (cr e f - 127000000 * (l1 e + l1 f) - 2 * (127000000 * 127000000))) &&
  (List.range (n - 2)).all fun k => decide (127000000 * (l1 e + l1 (df (tP (g + (k + 2) * s)) p0)) + 2 * (127000000 * 127000000) < cr e (df (tP (g + (k + 2) * s)) p0))
theorem chk_ok : ((List.range 6).all fun n => (List.range 840).all fun g => chk (n + 3) g) = true := by decide +kernel
theorem chk_at {n g : Nat} (h3 : 3 ≤ n) (h8 : n ≤ 8) : chk n g = true := by
  have h1 := List.all_eq_true.1 (List.all_eq_true.1 chk_ok (n - 3) (List.mem_range.2 (by omega))) (g % 840) (List.mem_range.2 (Nat.mod_lt _ (by decide)))
  rw [show n - 3 + 3 = n by omega] at h1
  have e : ∀ k, tP (g % 840 + k) = tP (g + k) := by
    intro k
    unfold tP
    rw [← tS_mod (g % 840 + k + 210), ← tS_mod (g % 840 + k), ← tS_mod (g + k + 210), ← tS_mod (g + k)]
    rw [show (g % 840 + k + 210) % 840 = (g + k + 210) % 840 by omega, show (g % 840 + k) % 840 = (g + k) % 840 by omega]
  have e0 := e 0
  simp only [Nat.add_zero] at e0
  unfold chk at h1 ⊢
  simp only [e, e0] at h1
  exact h1
/-- Two vectors that are near s times the table's: their product is near s s times the table's. -/
theorem cr_near {s eps X1 Y1 X2 Y2 : Int} {p q : Int × Int} (hs : 0 ≤ s) (he : 0 ≤ eps) (h1 : -(s * eps) ≤ X1 - s * p.1 ∧ X1 - s * p.1 ≤ s * eps) (h2 : -(s * eps) ≤ Y1 - s * p.2 ∧ Y1 - s * p.2 ≤ s * eps)
    (h3 : -(s * eps) ≤ X2 - s * q.1 ∧ X2 - s * q.1 ≤ s * eps) (h4 : -(s * eps) ≤ Y2 - s * q.2 ∧ Y2 - s * q.2 ≤ s * eps) : s * s * (cr p q - eps * (l1 p + l1 q) - 2 * (eps * eps)) ≤ X1 * Y2 - Y1 * X2 := by
  obtain ⟨a, b⟩ := p
  obtain ⟨c, d⟩ := q
  unfold cr l1
  simp only at *
  have hse : 0 ≤ s * eps := Int.mul_nonneg hs he
  have m1 := mul_bd (a := a) (b := Y2 - s * d) (M := (a.natAbs : Int)) (N := s * eps) (by omega) (by omega) h4
  have m2 := mul_bd (a := d) (b := X1 - s * a) (M := (d.natAbs : Int)) (N := s * eps) (by omega) (by omega) h1
  have m3 := mul_bd (a := b) (b := X2 - s * c) (M := (b.natAbs : Int)) (N := s * eps) (by omega) (by omega) h3
  have m4 := mul_bd (a := c) (b := Y1 - s * b) (M := (c.natAbs : Int)) (N := s * eps) (by omega) (by omega) h2
  have m5 := mul_bd (a := X1 - s * a) (b := Y2 - s * d) (M := s * eps) (N := s * eps) hse h1 h4
  have m6 := mul_bd (a := Y1 - s * b) (b := X2 - s * c) (M := s * eps) (N := s * eps) hse h2 h3
  have hZ : -(((a.natAbs : Int) + (b.natAbs : Int) + ((c.natAbs : Int) + (d.natAbs : Int))) * (s * eps)) ≤ a * (Y2 - s * d) + d * (X1 - s * a) - b * (X2 - s * c) - c * (Y1 - s * b) := by
    have e : ((a.natAbs : Int) + (b.natAbs : Int) + ((c.natAbs : Int) + (d.natAbs : Int))) * (s * eps) = (a.natAbs : Int) * (s * eps) + (b.natAbs : Int) * (s * eps) + (c.natAbs : Int) * (s * eps) + (d.natAbs : Int) * (s * eps) := by grind
    rw [e]
    omega
  have hsZ := Int.mul_le_mul_of_nonneg_left hZ hs
  have i1 : X1 * Y2 - Y1 * X2 = s * s * (a * d - b * c) + s * (a * (Y2 - s * d) + d * (X1 - s * a) - b * (X2 - s * c) - c * (Y1 - s * b)) + (X1 - s * a) * (Y2 - s * d) - (Y1 - s * b) * (X2 - s * c) := by grind
  have i2 : s * s * (a * d - b * c - eps * ((a.natAbs : Int) + (b.natAbs : Int) + ((c.natAbs : Int) + (d.natAbs : Int))) - 2 * (eps * eps)) = s * s * (a * d - b * c) + s * -(((a.natAbs : Int) + (b.natAbs : Int) + ((c.natAbs : Int) + (d.natAbs : Int))) * (s * eps)) - 2 * (s * eps * (s * eps)) := by grind
  rw [i1, i2]
  omega
/-- A corner that is near s times the table's, of 2^32. -/
def Near (s : Int) (x : Spot) (p : Int × Int) : Prop := (-(s * 63500000) ≤ 4294967296 * x.X - s * p.1 ∧ 4294967296 * x.X - s * p.1 ≤ s * 63500000) ∧ (-(s * 63500000) ≤ 4294967296 * x.Y - s * p.2 ∧ 4294967296 * x.Y - s * p.2 ≤ s * 63500000)
theorem near_df {s : Int} {x y : Spot} {p q : Int × Int} (h1 : Near s x p) (h2 : Near s y q) :
    (-(s * 127000000) ≤ 4294967296 * (x.X - y.X) - s * (df p q).1 ∧ 4294967296 * (x.X - y.X) - s * (df p q).1 ≤ s * 127000000) ∧ (-(s * 127000000) ≤ 4294967296 * (x.Y - y.Y) - s * (df p q).2 ∧ 4294967296 * (x.Y - y.Y) - s * (df p q).2 ≤ s * 127000000) := by
  obtain ⟨⟨a1, a2⟩, a3, a4⟩ := h1
  obtain ⟨⟨b1, b2⟩, b3, b4⟩ := h2
  unfold df
  simp only [Int.mul_sub]
  omega
theorem pos_of_scaled {c : Int} {s W : Int} (hs : 0 < s) (hW : 0 < W) (h : s * s * W ≤ 18446744073709551616 * c) : 0 < c := by
  have := Int.mul_pos (Int.mul_pos hs hs) hW
  omega
theorem minus_val {a b : Spot} (ha : Cd a.X ∧ Cd a.Y) (hb : Cd b.X ∧ Cd b.Y) : plane_spot_minus a b = ⟨a.X - b.X, a.Y - b.Y⟩ := by
  unfold Cd at ha hb
  unfold plane_spot_minus
  rw [i64_id ⟨by omega, by omega⟩, i64_id ⟨by omega, by omega⟩]
theorem cross_val2 {a b : Spot} (ha : (-8192 ≤ a.X ∧ a.X ≤ 8192) ∧ (-8192 ≤ a.Y ∧ a.Y ≤ 8192)) (hb : (-8192 ≤ b.X ∧ b.X ≤ 8192) ∧ (-8192 ≤ b.Y ∧ b.Y ≤ 8192)) : plane_spot_cross a b = a.X * b.Y - a.Y * b.X := by
  have h1 := mul_bd (M := 8192) (N := 8192) (by decide) ha.1 hb.2
  have h2 := mul_bd (M := 8192) (N := 8192) (by decide) ha.2 hb.1
  unfold plane_spot_cross
  rw [i64_id (n := a.X * b.Y) ⟨by omega, by omega⟩, i64_id (n := a.Y * b.X) ⟨by omega, by omega⟩, i64_id ⟨by omega, by omega⟩]
theorem span_val {a : Spot} (ha : (-8192 ≤ a.X ∧ a.X ≤ 8192) ∧ (-8192 ≤ a.Y ∧ a.Y ≤ 8192)) : plane_spot_span a = (a.X.natAbs : Int) + (a.Y.natAbs : Int) := by
  unfold plane_spot_span
  rw [i64_id (n := 0 - a.X) ⟨by omega, by omega⟩, i64_id (n := 0 - a.Y) ⟨by omega, by omega⟩, i64_id ⟨by omega, by omega⟩]
  omega
set_option maxHeartbeats 1000000 in
/-- Corners near the table's are as they are to be. -/
theorem near_okAt {l : List Spot} {n g : Nat} {s : Int} (hn : l.length = n) (h3 : 3 ≤ n) (h8 : n ≤ 8) (hs : 200 ≤ s) (hcd : ∀ j, j < n → Cd (nth l (j : Int)).X ∧ Cd (nth l (j : Int)).Y)
    (hnear : ∀ i, i < n → Near s (nth l (i : Int)) (tP (g + i * (840 / n)))) : ∀ i, i < n → okAt l i := by
  intro i hi
  -- corner i + k, counted round
  have h840 : n * (840 / n) = 840 := by
    have : n = 3 ∨ n = 4 ∨ n = 5 ∨ n = 6 ∨ n = 7 ∨ n = 8 := by omega
    rcases this with rfl | rfl | rfl | rfl | rfl | rfl <;> rfl
  have tmod : ∀ a : Nat, tP (a + 840) = tP a := by
    intro a
    unfold tP
    rw [← tS_mod (a + 840 + 210), ← tS_mod (a + 840), ← tS_mod (a + 210), ← tS_mod a, show (a + 840 + 210) % 840 = (a + 210) % 840 by omega, show (a + 840) % 840 = a % 840 by omega]
  have hk : ∀ k, k < n → Near s (nth l (((i + k) % n : Nat) : Int)) (tP (g + i * (840 / n) + k * (840 / n))) := by
    intro k hk
    have hm := Nat.mod_lt (i + k) (show 0 < n by omega)
    have := hnear _ hm
    by_cases hlt : i + k < n
    · rw [Nat.mod_eq_of_lt hlt] at this ⊢
      rw [Nat.add_mul, ← Nat.add_assoc] at this
      exact this
    · have e : (i + k) % n = i + k - n := by rw [Nat.mod_eq_sub_mod (by omega), Nat.mod_eq_of_lt (by omega)]
      rw [e] at this ⊢
      have e2 : g + i * (840 / n) + k * (840 / n) = g + (i + k - n) * (840 / n) + 840 := by
        have : i * (840 / n) + k * (840 / n) = (i + k - n) * (840 / n) + n * (840 / n) := by rw [← Nat.add_mul, ← Nat.add_mul]; congr 1; omega
        omega
      rw [e2, tmod]
      exact this
  have hcd' : ∀ k, Cd (nth l (((i + k) % n : Nat) : Int)).X ∧ Cd (nth l (((i + k) % n : Nat) : Int)).Y := fun k => hcd _ (Nat.mod_lt _ (by omega))
  obtain ⟨G, hG⟩ : ∃ G, G = g + i * (840 / n) := ⟨_, rfl⟩
  rw [← hG] at hk
  have hc := chk_at (n := n) (g := G) h3 h8
  unfold chk at hc
  simp only [Bool.and_eq_true, decide_eq_true_eq] at hc
  obtain ⟨⟨k1, k2⟩, k3⟩ := hc
  obtain ⟨st, hst⟩ : ∃ st, st = 840 / n := ⟨_, rfl⟩
  rw [← hst] at k1 k2 k3 hk
  have n0 := hk 0 (by omega)
  have n1 := hk 1 (by omega)
  have n2 := hk 2 (by omega)
  have e0 : (i + 0) % n = i := by rw [Nat.add_zero, Nat.mod_eq_of_lt hi]
  rw [e0, Nat.zero_mul, Nat.add_zero] at n0
  rw [Nat.one_mul] at n1
  have c0 := hcd i hi
  have c1 := hcd' 1
  have c2 := hcd' 2
  refine (okAt_ref (l := l) (by omega)).2 ⟨?_, fun k hk2 hkn => ?_⟩
  · unfold sharp
    rw [Bool.or_eq_false_iff, decide_eq_false_iff_not, decide_eq_false_iff_not]
    have enx1 : nx l i 1 = nth l (((i + 1) % n : Nat) : Int) := by unfold nx; rw [hn]
    have enx2 : nx l i 2 = nth l (((i + 2) % n : Nat) : Int) := by unfold nx; rw [hn]
    constructor
    · rw [enx1, (cross_val c0 c1).1]
      have := cr_near (s := s) (eps := 63500000) (X1 := 4294967296 * (nth l (i : Int)).X) (Y1 := 4294967296 * (nth l (i : Int)).Y) (X2 := 4294967296 * (nth l (((i + 1) % n : Nat) : Int)).X) (Y2 := 4294967296 * (nth l (((i + 1) % n : Nat) : Int)).Y) (by omega) (by decide) n0.1 n0.2 n1.1 n1.2
      have e : 4294967296 * (nth l (i : Int)).X * (4294967296 * (nth l (((i + 1) % n : Nat) : Int)).Y) - 4294967296 * (nth l (i : Int)).Y * (4294967296 * (nth l (((i + 1) % n : Nat) : Int)).X) = 18446744073709551616 * ((nth l (i : Int)).X * (nth l (((i + 1) % n : Nat) : Int)).Y - (nth l (i : Int)).Y * (nth l (((i + 1) % n : Nat) : Int)).X) := by grind
      rw [e] at this
      have := pos_of_scaled (by omega) (by omega) this
      omega
    · unfold edge
      rw [enx1, enx2, minus_val c1 c0, minus_val c2 c1]
      have d1 := near_df n1 n0
      have d2 := near_df n2 n1
      generalize nth l (i : Int) = A at *
      generalize nth l (((i + 1) % n : Nat) : Int) = B at *
      generalize nth l (((i + 2) % n : Nat) : Int) = C at *
      unfold Cd at c0 c1 c2
      rw [cross_val2 ⟨by simp only []; omega, by simp only []; omega⟩ ⟨by simp only []; omega, by simp only []; omega⟩, span_val ⟨by simp only []; omega, by simp only []; omega⟩, span_val ⟨by simp only []; omega, by simp only []; omega⟩]
      simp only []
      generalize hE1 : B.X - A.X = eX at *
      generalize hE2 : B.Y - A.Y = eY at *
      generalize hF1 : C.X - B.X = fX at *
      generalize hF2 : C.Y - B.Y = fY at *
      have hcr := cr_near (s := s) (eps := 127000000) (X1 := 4294967296 * eX) (Y1 := 4294967296 * eY) (X2 := 4294967296 * fX) (Y2 := 4294967296 * fY) (by omega) (by decide) d1.1 d1.2 d2.1 d2.2
      have e : 4294967296 * eX * (4294967296 * fY) - 4294967296 * eY * (4294967296 * fX) = 18446744073709551616 * (eX * fY - eY * fX) := by grind
      rw [e] at hcr
      -- the spans
      have ab : ∀ {x p : Int}, (-(s * 127000000) ≤ 4294967296 * x - s * p ∧ 4294967296 * x - s * p ≤ s * 127000000) → 4294967296 * (x.natAbs : Int) ≤ s * ((p.natAbs : Int) + 127000000) := by
        intro x p h
        have hp1 : s * p ≤ s * (p.natAbs : Int) := Int.mul_le_mul_of_nonneg_left (by omega) (by omega)
        have hp2 : s * -p ≤ s * (p.natAbs : Int) := Int.mul_le_mul_of_nonneg_left (by omega) (by omega)
        rw [Int.mul_neg] at hp2
        rw [Int.mul_add]
        omega
      have s1 := ab d1.1
      have s2 := ab d1.2
      have s3 := ab d2.1
      have s4 := ab d2.2
      have hl1e : l1 (df (tP (G + st)) (tP G)) = ((df (tP (G + st)) (tP G)).1.natAbs : Int) + ((df (tP (G + st)) (tP G)).2.natAbs : Int) := rfl
      have hl1f : l1 (df (tP (G + 2 * st)) (tP (G + st))) = ((df (tP (G + 2 * st)) (tP (G + st))).1.natAbs : Int) + ((df (tP (G + 2 * st)) (tP (G + st))).2.natAbs : Int) := rfl
      generalize hW : cr (df (tP (G + st)) (tP G)) (df (tP (G + 2 * st)) (tP (G + st))) - 127000000 * (l1 (df (tP (G + st)) (tP G)) + l1 (df (tP (G + 2 * st)) (tP (G + st)))) - 2 * (127000000 * 127000000) = W at *
      generalize hL : l1 (df (tP (G + st)) (tP G)) + l1 (df (tP (G + 2 * st)) (tP (G + st))) = L at *
      have hL' : 4294967296 * ((eX.natAbs : Int) + (eY.natAbs : Int) + ((fX.natAbs : Int) + (fY.natAbs : Int))) ≤ s * (L + 8 * 63500000) := by
        have : s * (L + 8 * 63500000) = s * ((((df (tP (G + st)) (tP G)).1.natAbs : Int) + 127000000)) + s * ((((df (tP (G + st)) (tP G)).2.natAbs : Int) + 127000000)) + s * ((((df (tP (G + 2 * st)) (tP (G + st))).1.natAbs : Int) + 127000000)) + s * ((((df (tP (G + 2 * st)) (tP (G + st))).2.natAbs : Int) + 127000000)) := by
          rw [← hL, hl1e, hl1f]; grind
        omega
      have hL0 : 0 ≤ L := by rw [← hL, hl1e, hl1f]; omega
      have hW0 : 0 ≤ W := by omega
      -- s s W is at least s times 200 W, which is at least s times what the spans are
      have q1 : s * (200 * W) ≤ s * (s * W) := Int.mul_le_mul_of_nonneg_left (Int.mul_le_mul_of_nonneg_right hs hW0) (by omega)
      have q2 : s * (4 * 4294967296 * (L + 8 * 63500000)) ≤ s * (200 * W) := Int.mul_le_mul_of_nonneg_left k2 (by omega)
      have q3 : s * (4 * 4294967296 * (L + 8 * 63500000)) = 17179869184 * (s * (L + 8 * 63500000)) := by grind
      have q4 : s * s * W = s * (s * W) := Int.mul_assoc s s W
      have fin : ∀ {S P sL a b c : Int}, 4294967296 * S ≤ sL → b = 17179869184 * sL → b ≤ a → a ≤ c → c ≤ 18446744073709551616 * P → ¬ P < 4 * S := by intros; omega
      have aE : eX.natAbs ≤ 8192 ∧ eY.natAbs ≤ 8192 := by omega
      have aF : fX.natAbs ≤ 8192 ∧ fY.natAbs ≤ 8192 := by omega
      have w1 : IntKind.i64.wrap ((eX.natAbs : Int) + (eY.natAbs : Int) + ((fX.natAbs : Int) + (fY.natAbs : Int))) = (eX.natAbs : Int) + (eY.natAbs : Int) + ((fX.natAbs : Int) + (fY.natAbs : Int)) := by
        clear hcr q1 q2 q3 q4 hL' s1 s2 s3 s4 d1 d2 k1 k2 k3 n0 n1 n2
        exact i64_id ⟨by omega, by omega⟩
      have w2 : IntKind.i64.wrap (4 * ((eX.natAbs : Int) + (eY.natAbs : Int) + ((fX.natAbs : Int) + (fY.natAbs : Int)))) = 4 * ((eX.natAbs : Int) + (eY.natAbs : Int) + ((fX.natAbs : Int) + (fY.natAbs : Int))) := by
        clear hcr q1 q2 q3 q4 hL' s1 s2 s3 s4 d1 d2 k1 k2 k3 n0 n1 n2
        exact i64_id ⟨by omega, by omega⟩
      rw [w1, w2]
      exact fin hL' q3 q2 (q4 ▸ q1) hcr
  · unfold notLeft edge
    rw [decide_eq_false_iff_not]
    have enx1 : nx l i 1 = nth l (((i + 1) % n : Nat) : Int) := by unfold nx; rw [hn]
    rw [hn] at hkn ⊢
    have ck := hcd' k
    have nk := hk k hkn
    rw [enx1, minus_val c1 c0, minus_val ck c0]
    have d1 := near_df n1 n0
    have d2 := near_df nk n0
    have k3' := List.all_eq_true.1 k3 (k - 2) (List.mem_range.2 (by omega))
    rw [decide_eq_true_eq, show k - 2 + 2 = k by omega] at k3'
    generalize nth l (i : Int) = A at *
    generalize nth l (((i + 1) % n : Nat) : Int) = B at *
    generalize nth l (((i + k) % n : Nat) : Int) = C at *
    unfold Cd at c0 c1 ck
    rw [cross_val2 ⟨by simp only []; omega, by simp only []; omega⟩ ⟨by simp only []; omega, by simp only []; omega⟩]
    simp only []
    generalize hE1 : B.X - A.X = eX at *
    generalize hE2 : B.Y - A.Y = eY at *
    generalize hF1 : C.X - A.X = fX at *
    generalize hF2 : C.Y - A.Y = fY at *
    have hcr := cr_near (s := s) (eps := 127000000) (X1 := 4294967296 * eX) (Y1 := 4294967296 * eY) (X2 := 4294967296 * fX) (Y2 := 4294967296 * fY) (by omega) (by decide) d1.1 d1.2 d2.1 d2.2
    have e : 4294967296 * eX * (4294967296 * fY) - 4294967296 * eY * (4294967296 * fX) = 18446744073709551616 * (eX * fY - eY * fX) := by grind
    rw [e] at hcr
    have := pos_of_scaled (by omega) (by omega) hcr
    omega
end Go.Bag

