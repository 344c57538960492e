/- Sums of lists. -/
import Derived.Test.YtcbgfjidamoilaaGreatQroM10
set_option linter.unusedVariables false
namespace Go.Bag
open Go Go.AbsK

def sumV (l : List Num) : Int := (l.map fun x => (fixed_sound x).V).sum
def sumF (l : List Num) : Bool := l.any fun x => (fixed_sound x).F
def sumN (l : List Num) : Num := sat (sumV l) (sumF l)
theorem flagged_iter (l : List Num) (hl : l.length < 1000000) : ∀ (m k i : Nat), i + m = l.length →
    iterO (ref01_flagged_L0_step l) (m + 1 + k) (i : Int) = some (if (l.drop i).any (fun x => (fixed_sound x).F) = true then (0, (), default) else (1, default, ()))
  | 0, k, i, h => by
    have hd : l.drop i = [] := List.drop_eq_nil_of_le (by omega)
    rw [show 0 + 1 + k = k + 1 from by omega, hd]
    refine iterO_inr ?_
    unfold ref01_flagged_L0_step
    rw [if_neg (by omega)]
    rfl
  | m + 1, k, i, h => by
    have hi : i < l.length := by omega
    rw [show m + 1 + 1 + k = (m + 1 + k) + 1 from by omega, drop_cons l i hi, List.any_cons]
    have hst : ref01_flagged_L0_step l (i : Int) = if (fixed_sound l[i]).F = true then some (.inr (0, (), default)) else some (.inl ((i + 1 : Nat) : Int)) := by
      unfold ref01_flagged_L0_step
      rw [if_pos (by omega), if_pos ⟨by omega, by omega⟩, nth_eq l i hi, i64_id ⟨by omega, by omega⟩, whole_eq]
      rfl
    by_cases hf : (fixed_sound l[i]).F = true
    · rw [if_pos hf] at hst
      rw [iterO_inr hst, hf]
      rfl
    · rw [if_neg hf] at hst
      rw [iterO_inl hst, flagged_iter l hl m k (i + 1) (by omega)]
      have : (fixed_sound l[i]).F = false := by simpa using hf
      rw [this, Bool.false_or]
theorem flagged_spec (l : List Num) (hl : l.length < 999999) : P_ref01_flagged l ∧ ref01_flagged l = sumF l := by
  have h := flagged_iter l (by omega) l.length (999999 - l.length) 0 (by omega)
  rw [show l.length + 1 + (999999 - l.length) = NN from by unfold NN; omega, List.drop_zero] at h
  replace h : iterO (ref01_flagged_L0_step l) NN 0 = some (if sumF l = true then (0, (), default) else (1, default, ())) := h
  unfold P_ref01_flagged ref01_flagged
  rw [h]
  refine ⟨⟨rfl, trivial⟩, ?_⟩
  cases sumF l <;> rfl
theorem values_iter (l : List Num) (hl : l.length < 1000000) : ∀ (m k i : Nat), i + m = l.length →
    iterO (fixed_values_L0_step l) (m + 1 + k) ((l.take i).map (fun x => (fixed_sound x).V) ++ List.replicate m 0, (l.take i).any (fun x => (fixed_sound x).F), (i : Int)) = some (l.map (fun x => (fixed_sound x).V), sumF l)
  | 0, k, i, h => by
    rw [show 0 + 1 + k = k + 1 from by omega, List.take_of_length_le (by omega)]
    refine iterO_inr ?_
    unfold fixed_values_L0_step
    simp only []
    rw [if_neg (by omega)]
    simp [sumF]
  | m + 1, k, i, h => by
    have hi : i < l.length := by omega
    have hlen : ((l.take i).map (fun x => (fixed_sound x).V)).length = i := by rw [List.length_map, List.length_take]; omega
    have ih := values_iter l hl m k (i + 1) (by omega)
    rw [List.take_succ_eq_append_getElem hi, List.map_append, List.any_append] at ih
    rw [show m + 1 + 1 + k = (m + 1 + k) + 1 from by omega]
    have hst : fixed_values_L0_step l ((l.take i).map (fun x => (fixed_sound x).V) ++ List.replicate (m + 1) 0, (l.take i).any (fun x => (fixed_sound x).F), (i : Int)) =
        some (.inl ((l.take i).map (fun x => (fixed_sound x).V) ++ [l[i]].map (fun x => (fixed_sound x).V) ++ List.replicate m 0, ((l.take i).any (fun x => (fixed_sound x).F) || [l[i]].any (fun x => (fixed_sound x).F)), ((i + 1 : Nat) : Int))) := by
      unfold fixed_values_L0_step
      simp only []
      have hset : ((l.take i).map (fun x => (fixed_sound x).V) ++ List.replicate (m + 1) 0).set (i : Int).toNat (fixed_sound l[i]).V = (l.take i).map (fun x => (fixed_sound x).V) ++ [l[i]].map (fun x => (fixed_sound x).V) ++ List.replicate m 0 := by
        rw [Int.toNat_natCast, List.set_append_right _ _ (by rw [hlen]; omega), hlen, Nat.sub_self, List.replicate_succ]
        simp
      have hb : (0 : Int) ≤ (i : Int) ∧ (i : Int) < ((((l.take i).map (fun x => (fixed_sound x).V) ++ List.replicate (m + 1) (0 : Int)).length : Nat) : Int) := by
        rw [List.length_append, hlen, List.length_replicate]
        omega
      rw [if_pos (by omega), if_pos ⟨by omega, by omega⟩, nth_eq l i hi, i64_id ⟨by omega, by omega⟩, if_pos hb, if_pos hb, hset]
      cases (l.take i).any (fun x => (fixed_sound x).F) <;> simp
    rw [iterO_inl hst]
    exact ih
theorem values_spec (l : List Num) (hl : l.length < 999999) : P_fixed_values l ∧ fixed_values l = (l.map (fun x => (fixed_sound x).V), sumF l) := by
  have h := values_iter l (by omega) l.length (999999 - l.length) 0 (by omega)
  rw [show l.length + 1 + (999999 - l.length) = NN from by unfold NN; omega] at h
  replace h : iterO (fixed_values_L0_step l) NN (List.replicate l.length 0, false, 0) = some (l.map (fun x => (fixed_sound x).V), sumF l) := h
  unfold P_fixed_values fixed_values
  rw [h]
  exact ⟨⟨by omega, rfl, trivial⟩, rfl⟩
theorem of_ok {v : Int} (h : I64 v) : okE (fixed_of v) ∧ svE (fixed_of v) = v ∧ valE (fixed_of v) ≤ 9223372036854775808 := by
  obtain ⟨h1, h2, h3⟩ := of_spec h
  unfold I64 at h
  have hv : valE (fixed_of v) = (v.natAbs : Int) := by unfold valE; rw [h2, h3]; omega
  refine ⟨⟨by rw [h3]; unfold U64; omega, by rw [h2]; unfold U64; omega⟩, ?_, by rw [hv]; omega⟩
  unfold svE sg
  rw [hv, h1]
  by_cases hn : v < 0
  · simp only [hn, decide_true, if_true]; omega
  · simp only [hn, decide_false, Bool.false_eq_true, if_false]; omega
theorem exact_ok {v : Int} (h : I64 v) : okW (ref01_exact v) ∧ svW (ref01_exact v) = v ∧ valW (ref01_exact v) ≤ 9223372036854775808 := by
  obtain ⟨h1, h2, h3⟩ := exact_spec h
  unfold I64 at h
  have hv : valW (ref01_exact v) = (v.natAbs : Int) := by unfold valW; rw [h2, h3]; omega
  refine ⟨⟨by rw [h3]; unfold U64; omega, by rw [h2]; unfold U64; omega⟩, ?_, by rw [hv]; omega⟩
  unfold svW sg
  rw [hv, h1]
  by_cases hn : v < 0
  · simp only [hn, decide_true, if_true]; omega
  · simp only [hn, decide_false, Bool.false_eq_true, if_false]; omega
theorem fsum_iter (r0 : List Int × Bool) (hl : r0.1.length < 1000000) (hv : ∀ v ∈ r0.1, I64 v) : ∀ (m k i : Nat) (acc : Exact), i + m = r0.1.length → okE acc → valE acc ≤ (i : Int) * 9223372036854775808 →
    ∃ acc', okE acc' ∧ svE acc' = svE acc + (r0.1.drop i).sum ∧ iterO (fixed_Sum_L0_step r0) (m + 1 + k) (acc.neg, acc.w.w0, acc.w.w1, (i : Int)) = some (acc'.neg, acc'.w.w0, acc'.w.w1) := by
  intro m
  induction m with
  | zero =>
    intro k i acc h ha hb
    have hd : r0.1.drop i = [] := List.drop_eq_nil_of_le (by omega)
    refine ⟨acc, ha, by rw [hd]; simp, ?_⟩
    rw [show 0 + 1 + k = k + 1 from by omega]
    refine iterO_inr ?_
    unfold fixed_Sum_L0_step
    simp only []
    rw [if_neg (by omega)]
  | succ m ih =>
    intro k i acc h ha hb
    have hi : i < r0.1.length := by omega
    obtain ⟨o1, o2, o3⟩ := of_ok (hv _ (List.getElem_mem hi))
    obtain ⟨s0, s1, s2, s3⟩ := plus_spec ha o1 (by omega)
    obtain ⟨acc', g1, g2, g3⟩ := ih k (i + 1) _ (by omega) s1 (by push_cast; omega)
    refine ⟨acc', g1, by rw [g2, s2, o2, drop_cons r0.1 i hi, List.sum_cons]; omega, ?_⟩
    rw [show m + 1 + 1 + k = (m + 1 + k) + 1 from by omega, ← g3]
    refine iterO_inl ?_
    unfold fixed_Sum_L0_step
    simp only []
    rw [if_pos (by omega), if_pos ⟨by omega, by omega⟩, nth_eq r0.1 i hi, if_pos s0, i64_id ⟨by omega, by omega⟩]
    rfl
theorem rsum_iter (l : List Num) (hl : l.length < 1000000) (hv : ∀ x ∈ l, I64 x.V) : ∀ (m k i : Nat) (acc : Wide), i + m = l.length → okW acc → valW acc ≤ (i : Int) * 9223372036854775808 →
    ∃ acc', okW acc' ∧ svW acc' = svW acc + sumV (l.drop i) ∧ iterO (ref01_Sum_L0_step l) (m + 1 + k) (acc.neg, acc.hi, acc.lo, (i : Int)) = some (acc'.neg, acc'.hi, acc'.lo) := by
  intro m
  induction m with
  | zero =>
    intro k i acc h ha hb
    have hd : l.drop i = [] := List.drop_eq_nil_of_le (by omega)
    refine ⟨acc, ha, by rw [hd]; simp [sumV], ?_⟩
    rw [show 0 + 1 + k = k + 1 from by omega]
    refine iterO_inr ?_
    unfold ref01_Sum_L0_step
    simp only []
    rw [if_neg (by omega)]
  | succ m ih =>
    intro k i acc h ha hb
    have hi : i < l.length := by omega
    obtain ⟨o1, o2, o3⟩ := exact_ok (snd_I64 (hv _ (List.getElem_mem hi))).1
    obtain ⟨s0, s1, s2, s3⟩ := refplus_spec ha o1 (by omega)
    obtain ⟨acc', g1, g2, g3⟩ := ih k (i + 1) _ (by omega) s1 (by push_cast; omega)
    refine ⟨acc', g1, by rw [g2, s2, o2, drop_cons l i hi]; simp only [sumV, List.map_cons, List.sum_cons]; omega, ?_⟩
    rw [show m + 1 + 1 + k = (m + 1 + k) + 1 from by omega, ← g3]
    refine iterO_inl ?_
    unfold ref01_Sum_L0_step
    simp only []
    rw [if_pos (by omega), if_pos ⟨by omega, by omega⟩, nth_eq l i hi, whole_eq]
    simp only []
    rw [if_pos s0, i64_id ⟨by omega, by omega⟩]
    rfl
theorem sum_eq (l : List Num) (hl : l.length < 999999) (hv : ∀ x ∈ l, I64 x.V) : P_fixed_Sum l ∧ P_ref01_Sum l ∧ fixed_Sum l = sumN l ∧ ref01_Sum l = sumN l := by
  obtain ⟨v1, v2⟩ := values_spec l hl
  obtain ⟨f1, f2⟩ := flagged_spec l hl
  obtain ⟨a1, g1, g2, g3⟩ := fsum_iter (fixed_values l) (by rw [v2, List.length_map]; omega) (by
    rw [v2]
    intro v hv'
    obtain ⟨x, hx, rfl⟩ := List.mem_map.1 hv'
    exact (snd_I64 (hv x hx)).1) l.length (999999 - l.length) 0 ⟨false, ⟨0, 0⟩⟩ (by rw [v2, List.length_map]; omega) ⟨U64_zero, U64_zero⟩ (by show (0 : Int) * _ + 0 ≤ _; omega)
  obtain ⟨b1, h1, h2, h3⟩ := rsum_iter l (by omega) hv l.length (999999 - l.length) 0 ⟨false, 0, 0⟩ (by omega) ⟨U64_zero, U64_zero⟩ (by show (0 : Int) * _ + 0 ≤ _; omega)
  rw [show l.length + 1 + (999999 - l.length) = NN from by unfold NN; omega] at g3 h3
  replace g3 : iterO (fixed_Sum_L0_step (fixed_values l)) NN (false, 0, 0, 0) = _ := g3
  replace h3 : iterO (ref01_Sum_L0_step l) NN (false, 0, 0, 0) = _ := h3
  have e1 : svE a1 = sumV l := by
    rw [g2, v2]
    show (0 : Int) + _ = _
    rw [List.drop_zero, Int.zero_add]
    rfl
  have e2 : svW b1 = sumV l := by
    rw [h2]
    show (0 : Int) + _ = _
    rw [List.drop_zero, Int.zero_add]
  refine ⟨⟨v1, ?_, trivial⟩, ⟨?_, f1, trivial⟩, ?_, ?_⟩
  · rw [g3]; rfl
  · rw [h3]; rfl
  · unfold fixed_Sum sumN
    simp only []
    rw [g3]
    simp only [Option.getD_some]
    rw [fit_spec (x := ⟨a1.neg, ⟨a1.w.w0, a1.w.w1⟩⟩) g1]
    show sat (svE a1) _ = _
    rw [e1, v2]
  · unfold ref01_Sum sumN
    simp only []
    rw [h3]
    simp only [Option.getD_some]
    rw [fitW_spec (x := ⟨b1.neg, b1.hi, b1.lo⟩) h1]
    show sat (svW b1) _ = _
    rw [e2, f2]
end Go.Bag

