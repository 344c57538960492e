/- Products, sums, flags: what the words compute, as whole numbers. -/
import Derived.Test.YtcbgfjidamoilaaQshM1
set_option linter.unusedVariables false
namespace Go.Bag
open Go Go.AbsK

theorem iterO_inl {σ ρ : Type} {step : σ → Option (σ ⊕ ρ)} {s s' : σ} {n : Nat} (h : step s = some (.inl s')) : iterO step (n + 1) s = iterO step n s' := by
  rw [iterO, h]
theorem iterO_inr {σ ρ : Type} {step : σ → Option (σ ⊕ ρ)} {s : σ} {r : ρ} {n : Nat} (h : step s = some (.inr r)) : iterO step (n + 1) s = some r := by
  rw [iterO, h]
end Go.Bag

