/- What is made of a flagged vector is flagged. -/
import Derived.Test.YtcbgfjidamoilaaQfaM16
set_option linter.unusedVariables false
namespace Go.Bag
open Go Go.AbsK

/-- Flagged, or the least value. -/
def fg (x : Num) : Bool := (fixed_sound x).F
theorem fg_of {x : Num} (h : x.F = true) : fg x = true := by
  unfold fg fixed_sound
  split
  · rfl
  · exact h
theorem fg_sat (n : Int) {f : Bool} (h : f = true) : (sat n f).F = true := by
  unfold sat
  split
  · rfl
  · split
    · rfl
    · exact h
theorem fg_neg {x : Num} (h : I64 x.V) (hf : fg x = true) : fg (fixed_Neg x) = true := by
  rw [(neg_eq h).1]
  exact fg_of hf
theorem fg_mul {x y : Num} (hx : I64 x.V) (hy : I64 y.V) (hf : fg x = true ∨ fg y = true) : (fixed_Mul x y).F = true := by
  rw [(mul_eq hx hy).2.1]
  refine fg_sat _ ?_
  unfold fg at hf
  rcases hf with h | h <;> simp [h]
theorem fg_dot {x y z u : Num} (hx : I64 x.V) (hy : I64 y.V) (hz : I64 z.V) (hu : I64 u.V) (hf : fg x = true ∨ fg y = true ∨ fg z = true ∨ fg u = true) : (fixed_Dot x y z u).F = true := by
  rw [(dot_eq hx hy hz hu).2.2.1]
  refine fg_sat _ ?_
  unfold fg at hf
  rcases hf with h | h | h | h <;> simp [h]
theorem fg_sum {l : List Num} (hl : l.length < 999999) (hv : ∀ x ∈ l, I64 x.V) {x : Num} (hx : x ∈ l) (hf : fg x = true) : (fixed_Sum l).F = true := by
  rw [(sum_eq l hl hv).2.2.1]
  refine fg_sat _ ?_
  unfold sumF
  rw [List.any_eq_true]
  exact ⟨x, hx, hf⟩
theorem fg_len {v : Vec} (h : IV v) (hf : fg v.X = true ∨ fg v.Y = true) : (plane_Len v).F = true := by
  obtain ⟨s, hs, p1, p2, e1, e2⟩ := hypot_eq h.1 h.2
  show (fixed_Hypot v.X v.Y).F = true
  rw [e1]
  refine fg_sat _ ?_
  unfold fg at hf
  rcases hf with h | h <;> simp [h]
theorem fl_iff {v : Vec} : fl v = true ↔ fg v.X = true ∨ fg v.Y = true := by
  unfold fl fg
  rw [Bool.or_eq_true]
theorem flF {v : Vec} (h : v.X.F = true ∨ v.Y.F = true) : P_plane_Fault [v] ∧ plane_Fault [v] = true := by
  obtain ⟨f1, f2⟩ := fault_eq [v] (by simp)
  refine ⟨f1, ?_⟩
  rw [f2]
  simp only [List.any_cons, List.any_nil, Bool.or_false]
  exact fl_iff.2 (h.imp fg_of fg_of)
structure Faulty (v w : Vec) (m : Num) (r : Rot) : Prop where
  unit : P_plane_Unit v ∧ plane_Unit v = (⟨⟨0, false⟩, ⟨0, false⟩⟩, false)
  add : P_plane_Add [w, v] ∧ P_plane_Fault [plane_Add [w, v]] ∧ plane_Fault [plane_Add [w, v]] = true
  sub : P_plane_Sub w v ∧ P_plane_Fault [plane_Sub w v] ∧ plane_Fault [plane_Sub w v] = true
  scale : P_plane_Scale v m ∧ P_plane_Fault [plane_Scale v m] ∧ plane_Fault [plane_Scale v m] = true
  perp : P_plane_Perp v ∧ P_plane_Fault [plane_Perp v] ∧ plane_Fault [plane_Perp v] = true
  turn : P_plane_Turn m v ∧ P_plane_Fault [plane_Turn m v] ∧ plane_Fault [plane_Turn m v] = true
  dot : P_plane_Dot v w ∧ (plane_Dot v w).F = true
  cross : P_plane_Cross w v ∧ (plane_Cross w v).F = true
  len : P_plane_Len v ∧ (plane_Len v).F = true
  apply : P_plane_Apply r v ∧ P_plane_Fault [plane_Apply r v] ∧ plane_Fault [plane_Apply r v] = true
  back : P_plane_Back r v ∧ P_plane_Fault [plane_Back r v] ∧ plane_Fault [plane_Back r v] = true
  both : P_plane_Fault [w, v] ∧ plane_Fault [w, v] = true
  none : P_plane_Fault [w] ∧ plane_Fault [w] = false
theorem faulty {v w : Vec} {m : Num} {r : Rot} (hv : IV v) (hw : IV w) (hm : I64 m.V) (hc : I64 r.C.V) (hs : I64 r.S.V) (hf : fg v.X = true ∨ fg v.Y = true) (hn : fl w = false) : Faulty v w m r := by
  have hflv : fl v = true := fl_iff.2 hf
  have perpF : fg (plane_Perp v).X = true ∨ fg (plane_Perp v).Y = true := by
    rcases hf with h | h
    · exact .inr (fg_of (fg_sum (l := [v.X]) (by simp) (all1 hv.1) (List.mem_cons_self ..) h))
    · exact .inl (fg_neg hv.2 h)
  refine ⟨?_, ?_, ?_, ?_, ?_, ?_, ?_, ?_, ⟨(len_eq hv).1, fg_len hv hf⟩, ?_, ?_, ?_, ?_⟩
  · obtain ⟨f1, f2⟩ := fault_eq [v] (by simp)
    have f2' : plane_Fault [v] = true := by rw [f2]; simp [hflv]
    unfold P_plane_Unit plane_Unit
    simp only []
    rw [f2']
    exact ⟨⟨f1, by simp⟩, by simp⟩
  · obtain ⟨a1, -, -, a4, a5⟩ := vadd_eq [w, v] (by simp) (allV2 hw hv)
    refine ⟨a1, flF ?_⟩
    rw [a5]
    rcases hf with h | h
    · refine .inl (fg_sat _ ?_)
      unfold sumF
      unfold fg at h
      simp [h]
    · refine .inr (fg_sat _ ?_)
      unfold sumF
      unfold fg at h
      simp [h]
  · refine ⟨(sub_eq hw hv).1, flF ?_⟩
    rcases hf with h | h
    · exact .inl (fg_sum (l := [w.X, fixed_Neg v.X]) (by simp) (all2 hw.1 (neg2 hv.1).2) (List.mem_cons_of_mem _ (List.mem_cons_self ..)) (fg_neg hv.1 h))
    · exact .inr (fg_sum (l := [w.Y, fixed_Neg v.Y]) (by simp) (all2 hw.2 (neg2 hv.2).2) (List.mem_cons_of_mem _ (List.mem_cons_self ..)) (fg_neg hv.2 h))
  · exact ⟨(scale_eq hv hm).1, flF (hf.imp (fun h => fg_mul hv.1 hm (.inl h)) (fun h => fg_mul hv.2 hm (.inl h)))⟩
  · obtain ⟨p1, p2, p3, p4⟩ := perp_eq hv
    obtain ⟨f1, f2⟩ := fault_eq [plane_Perp v] (by simp)
    refine ⟨p1, f1, ?_⟩
    rw [f2]
    simp only [List.any_cons, List.any_nil, Bool.or_false]
    exact fl_iff.2 perpF
  · obtain ⟨p1, p2, p3, p4⟩ := perp_eq hv
    exact ⟨(turn_eq hm hv).1, flF (perpF.imp (fun h => fg_mul p4.1 hm (.inl h)) (fun h => fg_mul p4.2 hm (.inl h)))⟩
  · exact ⟨(vdot_eq hv hw).1, fg_dot hv.1 hw.1 hv.2 hw.2 (hf.elim (fun h => .inl h) (fun h => .inr (.inr (.inl h))))⟩
  · exact ⟨(vcross_eq hw hv).1, fg_dot hw.1 hv.2 (neg2 hw.2).2 hv.1 (hf.elim (fun h => .inr (.inr (.inr h))) (fun h => .inr (.inl h)))⟩
  · refine ⟨(apply_eq hc hs hv).1, flF (.inl ?_)⟩
    exact fg_dot hc hv.1 (neg2 hs).2 hv.2 (hf.elim (fun h => .inr (.inl h)) (fun h => .inr (.inr (.inr h))))
  · refine ⟨(back_eq hc hs hv).1, flF (.inl ?_)⟩
    exact fg_dot hc hv.1 hs hv.2 (hf.elim (fun h => .inr (.inl h)) (fun h => .inr (.inr (.inr h))))
  · obtain ⟨f1, f2⟩ := fault_eq [w, v] (by simp)
    exact ⟨f1, by rw [f2]; simp [hflv]⟩
  · obtain ⟨f1, f2⟩ := fault_eq [w] (by simp)
    exact ⟨f1, by rw [f2]; simp [hn]⟩
theorem num_spec {x k : Int} (hx : I64 x) (hk : 0 < k ∧ k ≤ 1000000) : P_kit_Num x k ∧ kit_Num x k = ⟨x.tmod (k * 4294967296), false⟩ ∧ I64 (kit_Num x k).V ∧ -(k * 4294967296) < x.tmod (k * 4294967296) ∧ x.tmod (k * 4294967296) < k * 4294967296 := by
  have hw : IntKind.i64.wrap (k * 4294967296) = k * 4294967296 := i64_id ⟨by omega, by omega⟩
  have h1 := Int.tmod_lt_of_pos x (show 0 < k * 4294967296 by omega)
  have h2 : -(k * 4294967296) < x.tmod (k * 4294967296) := by
    have := Int.tmod_lt_of_pos (-x) (show 0 < k * 4294967296 by omega)
    rw [Int.neg_tmod] at this
    omega
  unfold P_kit_Num kit_Num
  rw [hw]
  refine ⟨⟨by omega, trivial⟩, rfl, ?_, h2, h1⟩
  show I64 (x.tmod (k * 4294967296))
  unfold I64
  omega
theorem within_spec {x y k : Int} (hx : I64 x) (hy : I64 y) (hk : 0 < k ∧ k ≤ 1000000) : P_law02_within x y k ∧ law02_within x y k = ⟨⟨x.tmod (k * 4294967296), false⟩, ⟨y.tmod (k * 4294967296), false⟩⟩ ∧ IV (law02_within x y k) := by
  obtain ⟨a1, a2, a3, -⟩ := num_spec hx hk
  obtain ⟨b1, b2, b3, -⟩ := num_spec hy hk
  refine ⟨⟨a1, b1, trivial⟩, ?_, a3, b3⟩
  unfold law02_within
  rw [a2, b2]
theorem fl_plain {v : Vec} (hx : v.X.F = false) (hy : v.Y.F = false) (h1 : v.X.V ≠ -9223372036854775808) (h2 : v.Y.V ≠ -9223372036854775808) : fl v = false := by
  unfold fl fixed_sound
  rw [if_neg h1, if_neg h2, hx, hy]
  rfl
theorem vec0 : law02_vec 0 0 = ⟨⟨0, false⟩, ⟨0, false⟩⟩ := by decide +kernel
theorem faults_true {x y z u : Int} {w : Bool} (hx : I64 x) (hy : I64 y) (hz : I64 z) (hu : I64 u) : P_law02_PlaneFaults x y z u w := by
  obtain ⟨a1, a2, a3⟩ := within_spec (k := 1000) hx hy (by decide)
  obtain ⟨b1, b2, b3⟩ := within_spec (k := 1000) hy hx (by decide)
  obtain ⟨c1, c2, c3, -⟩ := num_spec (k := 10) hu (by decide)
  obtain ⟨d1, d2, d3, -⟩ := num_spec (k := 100) hz (by decide)
  obtain ⟨-, -, -, e1, e2⟩ := num_spec (k := 1000) hx (by decide)
  obtain ⟨-, -, -, e3, e4⟩ := num_spec (k := 1000) hy (by decide)
  obtain ⟨g1, g2, g3⟩ := angleP c3
  have hn : fl (law02_within y x 1000) = false := by
    rw [b2]
    exact fl_plain rfl rfl (by show y.tmod _ ≠ _; omega) (by show x.tmod _ ≠ _; omega)
  have hnil : plane_Fault ([] : List Vec) = false := (fault_eq [] (by simp)).2
  intro r0 h0
  refine ⟨a1, ?_⟩
  intro r1 h1
  refine ⟨b1, ?_⟩
  have hr0 : IV r0 := by rw [h0]; exact a3
  have hr1 : IV r1 := by rw [h1]; exact b3
  have hn1 : fl r1 = false := by rw [h1]; exact hn
  have main : ∀ v : Vec, IV v → (v.X.F = true ∨ v.Y.F = true) →
      ∀ r2 : Num, r2 = kit_Num u 10 → (P_kit_Num u 10) ∧ (∀ r3 : Rot, r3 = plane_Angle r2 → (P_plane_Angle r2) ∧ (∀ r4 : Num, r4 = kit_Num z 100 → (P_kit_Num z 100) ∧ Faulty v r1 r4 r3)) := by
    intro v hv hvf r2 h2
    subst h2
    refine ⟨c1, ?_⟩
    intro r3 h3
    subst h3
    refine ⟨g1, ?_⟩
    intro r4 h4
    subst h4
    exact ⟨d1, faulty hv hr1 d3 g2 g3 (hvf.imp fg_of fg_of) hn1⟩
  have tail : ∀ v : Vec, IV v → (v.X.F = true ∨ v.Y.F = true) → True := fun _ _ _ => trivial
  split
  · intro r2 h2
    obtain ⟨k1, k2⟩ := main ⟨r0.X, ⟨r0.Y.V, true⟩⟩ ⟨hr0.1, hr0.2⟩ (.inr rfl) r2 h2
    refine ⟨k1, fun r3 h3 => ?_⟩
    obtain ⟨m1, m2⟩ := k2 r3 h3
    refine ⟨m1, fun r4 h4 => ?_⟩
    obtain ⟨n1, F⟩ := m2 r4 h4
    refine ⟨n1, fun r5 h5 => ⟨F.unit.1, fun r6 h6 => ⟨F.add.1, fun r7 h7 => ⟨h6 ▸ F.add.2.1, by rw [h7, h6]; exact F.add.2.2, fun r8 h8 => ⟨F.sub.1, fun r9 h9 => ⟨h8 ▸ F.sub.2.1, by rw [h9, h8]; exact F.sub.2.2, fun r10 h10 => ⟨F.scale.1, fun r11 h11 => ⟨h10 ▸ F.scale.2.1, by rw [h11, h10]; exact F.scale.2.2,
      fun r12 h12 => ⟨F.perp.1, fun r13 h13 => ⟨h12 ▸ F.perp.2.1, by rw [h13, h12]; exact F.perp.2.2, fun r14 h14 => ⟨F.turn.1, fun r15 h15 => ⟨h14 ▸ F.turn.2.1, by rw [h15, h14]; exact F.turn.2.2, fun r16 h16 => ⟨F.dot.1, by rw [h16]; exact F.dot.2, fun r17 h17 => ⟨F.cross.1, by rw [h17]; exact F.cross.2,
      fun r18 h18 => ⟨F.len.1, fun r19 h19 => ⟨F.apply.1, fun r20 h20 => ⟨h19 ▸ F.apply.2.1, by rw [h20, h19]; exact F.apply.2.2, fun r21 h21 => ⟨F.back.1, fun r22 h22 => ⟨h21 ▸ F.back.2.1, by rw [h22, h21]; exact F.back.2.2, fun r23 h23 => ⟨F.both.1, by rw [h23]; exact F.both.2, fun r24 h24 => ⟨F.none.1, by rw [h24, F.none.2]; decide,
      fun r25 h25 => ⟨by rw [h18]; exact F.len.2, by rw [h25, hnil]; decide, fun r26 h26 => ⟨vec_eq (by rw [h5, F.unit.2, h26, vec0]), by rw [h5, F.unit.2]; decide, fun r27 h27 => h27⟩⟩⟩⟩⟩⟩⟩⟩⟩⟩⟩⟩⟩⟩⟩⟩⟩⟩⟩⟩⟩⟩⟩
  · intro r2 h2
    obtain ⟨k1, k2⟩ := main ⟨⟨r0.X.V, true⟩, r0.Y⟩ ⟨hr0.1, hr0.2⟩ (.inl rfl) r2 h2
    refine ⟨k1, fun r3 h3 => ?_⟩
    obtain ⟨m1, m2⟩ := k2 r3 h3
    refine ⟨m1, fun r4 h4 => ?_⟩
    obtain ⟨n1, F⟩ := m2 r4 h4
    refine ⟨n1, fun r5 h5 => ⟨F.unit.1, fun r6 h6 => ⟨F.add.1, fun r7 h7 => ⟨h6 ▸ F.add.2.1, by rw [h7, h6]; exact F.add.2.2, fun r8 h8 => ⟨F.sub.1, fun r9 h9 => ⟨h8 ▸ F.sub.2.1, by rw [h9, h8]; exact F.sub.2.2, fun r10 h10 => ⟨F.scale.1, fun r11 h11 => ⟨h10 ▸ F.scale.2.1, by rw [h11, h10]; exact F.scale.2.2,
      fun r12 h12 => ⟨F.perp.1, fun r13 h13 => ⟨h12 ▸ F.perp.2.1, by rw [h13, h12]; exact F.perp.2.2, fun r14 h14 => ⟨F.turn.1, fun r15 h15 => ⟨h14 ▸ F.turn.2.1, by rw [h15, h14]; exact F.turn.2.2, fun r16 h16 => ⟨F.dot.1, by rw [h16]; exact F.dot.2, fun r17 h17 => ⟨F.cross.1, by rw [h17]; exact F.cross.2,
      fun r18 h18 => ⟨F.len.1, fun r19 h19 => ⟨F.apply.1, fun r20 h20 => ⟨h19 ▸ F.apply.2.1, by rw [h20, h19]; exact F.apply.2.2, fun r21 h21 => ⟨F.back.1, fun r22 h22 => ⟨h21 ▸ F.back.2.1, by rw [h22, h21]; exact F.back.2.2, fun r23 h23 => ⟨F.both.1, by rw [h23]; exact F.both.2, fun r24 h24 => ⟨F.none.1, by rw [h24, F.none.2]; decide,
      fun r25 h25 => ⟨by rw [h18]; exact F.len.2, by rw [h25, hnil]; decide, fun r26 h26 => ⟨vec_eq (by rw [h5, F.unit.2, h26, vec0]), by rw [h5, F.unit.2]; decide, fun r27 h27 => h27⟩⟩⟩⟩⟩⟩⟩⟩⟩⟩⟩⟩⟩⟩⟩⟩⟩⟩⟩⟩⟩⟩⟩
end Go.Bag

