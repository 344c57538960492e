/- Vectors in lists: sums in any order, equal functions. -/
import Derived.Test.YtcbgfjidamoilaaQveM15
set_option linter.unusedVariables false
namespace Go.Bag
open Go Go.AbsK

/-- A loop that goes up and never leaves early. -/
theorem iter_up {σ ρ : Type} {f : σ → Option (σ ⊕ ρ)} {g : Nat → σ} {n : Nat} {r : ρ} (hs : ∀ i, i < n → f (g i) = some (.inl (g (i + 1)))) (he : f (g n) = some (.inr r)) :
    ∀ (m k i : Nat), i + m = n → iterO f (m + 1 + k) (g i) = some r
  | 0, k, i, h => by
    obtain rfl : i = n := by omega
    rw [show 0 + 1 + k = k + 1 from by omega]
    exact iterO_inr he
  | m + 1, k, i, h => by
    rw [show m + 1 + 1 + k = (m + 1 + k) + 1 from by omega, iterO_inl (hs i (by omega))]
    exact iter_up hs he m k (i + 1) (by omega)
theorem iter_upN {σ ρ : Type} {f : σ → Option (σ ⊕ ρ)} {g : Nat → σ} {n : Nat} {r : ρ} (hn : n < 999999) (hs : ∀ i, i < n → f (g i) = some (.inl (g (i + 1)))) (he : f (g n) = some (.inr r)) : iterO f NN (g 0) = some r := by
  have := iter_up hs he n (999999 - n) 0 (by omega)
  rwa [show n + 1 + (999999 - n) = NN from by unfold NN; omega] at this
theorem vecs_loop (x : List Vec) (hl : x.length < 999999) : iterO (law02_PlaneVectors_L0_step x) NN 0 = some () := by
  have := iter_upN (f := law02_PlaneVectors_L0_step x) (g := fun i => ((i : Nat) : Int)) (n := x.length) (r := ()) hl (fun i hi => by
    unfold law02_PlaneVectors_L0_step
    rw [if_pos (by omega), if_pos ⟨by omega, by omega⟩, if_pos (by simp), i64_id ⟨by omega, by omega⟩]
    rfl) (by
    unfold law02_PlaneVectors_L0_step
    rw [if_neg (by omega)])
  exact this
theorem vectors_true {x : List Vec} {y z : Vec} {u : Num} (hx : ∀ v ∈ x, IV v) (hy : IV y) (hz : IV z) (hu : I64 u.V) : P_law02_PlaneVectors x y z u := by
  unfold P_law02_PlaneVectors
  split
  · intro r0 h0; exact h0
  · rename_i hlen
    have hl : x.length < 999999 := by omega
    obtain ⟨a1, a2, a3, -⟩ := vadd_eq x hl hx
    obtain ⟨b1, b2⟩ := fault_eq x hl
    obtain ⟨b3, b4⟩ := reffault_eq x hl hx
    obtain ⟨c1, c2⟩ := fault_eq [y, z] (by simp)
    obtain ⟨c3, c4⟩ := reffault_eq [y, z] (by simp) (allV2 hy hz)
    obtain ⟨d1, d2, d3, -⟩ := sub_eq hy hz
    obtain ⟨e1, e3, -⟩ := scale_eq hy hu
    obtain ⟨f1, f2, f3⟩ := vdot_eq hy hz
    obtain ⟨g1, g2, g3⟩ := vcross_eq hy hz
    obtain ⟨h1, h2, h3, -⟩ := perp_eq hy
    obtain ⟨i1, i2, i3⟩ := turn_eq hu hy
    obtain ⟨j1, j2, j3, -⟩ := len_eq hy
    have hloop := vecs_loop x hl
    refine ⟨by omega, fun r0 k0 => ⟨a1, fun r1 k1 => ⟨a2, vec_eq (by rw [k0, k1, a3]), fun r2 k2 => ⟨b1, fun r3 k3 => ⟨b3, by rw [k2, k3, b2, b4], fun r4 k4 => ⟨c1, fun r5 k5 => ⟨c3, by rw [k4, k5, c2, c4], by rw [hloop]; rfl, fun r6 k6 r7 k7 => ⟨d1, fun r8 k8 => ⟨d2, vec_eq (by rw [k7, k8, d3]),
      fun r9 k9 => ⟨e1, fun r10 k10 => ⟨vec_eq (by rw [k9, k10, e3]), fun r11 k11 => ⟨f1, fun r12 k12 => ⟨f2, num_eq (by rw [k11, k12, f3]), fun r13 k13 => ⟨g1, fun r14 k14 => ⟨g2, fun r15 k15 => ⟨h1, fun r16 k16 => ⟨h2, vec_eq (by rw [k15, k16, h3]), fun r17 k17 => ⟨i1, fun r18 k18 => ⟨i2, vec_eq (by rw [k17, k18, i3]),
      fun r19 k19 => ⟨j1, fun r20 k20 => ⟨j2, num_eq (by rw [k13, k14, g3]), num_eq (by rw [k19, k20, j3]), fun r21 k21 => k21⟩⟩⟩⟩⟩⟩⟩⟩⟩⟩⟩⟩⟩⟩⟩⟩⟩⟩⟩⟩⟩
end Go.Bag

