/- Vectors in lists: sums in any order, equal functions. -/
import Derived.Test.YtcbgfjidamoilaaQcoM17
set_option linter.unusedVariables false
namespace Go.Bag
open Go Go.AbsK

/-- A loop that goes up and never leaves early. -/
theorem iter_up {σ ρ : Type} {f : σ → Option (σ ⊕ ρ)} {g : Nat → σ} {n : Nat} {r : ρ} (hs : ∀ i, i < n → f (g i) = some (.inl (g (i + 1)))) (he : f (g n) = some (.inr r)) :
    ∀ (m k i : Nat), i + m = n → iterO f (m + 1 + k) (g i) = some r
  | 0, k, i, h => by
    obtain rfl : i = n := by omega
    rw [show 0 + 1 + k = k + 1 from by omega]
    exact iterO_inr he
  | m + 1, k, i, h => by
    rw [show m + 1 + 1 + k = (m + 1 + k) + 1 from by omega, iterO_inl (hs i (by omega))]
    exact iter_up hs he m k (i + 1) (by omega)
theorem iter_upN {σ ρ : Type} {f : σ → Option (σ ⊕ ρ)} {g : Nat → σ} {n : Nat} {r : ρ} (hn : n < 999999) (hs : ∀ i, i < n → f (g i) = some (.inl (g (i + 1)))) (he : f (g n) = some (.inr r)) : iterO f NN (g 0) = some r := by
  have := iter_up hs he n (999999 - n) 0 (by omega)
  rwa [show n + 1 + (999999 - n) = NN from by unfold NN; omega] at this
theorem snd_id {x : Num} (h : x.V ≠ -9223372036854775808) : fixed_sound x = x := by unfold fixed_sound; rw [if_neg h]
end Go.Bag

