/- PlanePoses answers true: the statement's one call returns true and writes nothing that was there. Conditions: those of the given row, no others. -/
import Derived.Test.YtcbgfjidamoilaaRows
import Derived.WalkKit
import Derived.ProofKit
import Derived.OpenShut
import Derived.Test.YtcbgfjidamoilaaQFin
import Derived.Test.YtcbgfjidamoilaaQF3
import Derived.Test.YtcbgfjidamoilaaQOpen
import Derived.Test.YtcbgfjidamoilaaQM15
namespace Go.Proofs.Ytcbgfjidamoilaa.planePoses
open Go.ChangeShapes Go.WideShapes Go.ChangeAt Go.RowKit
set_option linter.unusedVariables false

theorem own : ownKnob Try.prog.godebug = none := by kernel_rfl

theorem walk (a0 : Int) (b0 : Bool) (c0 : Int) (e0 : Bool) (f0 : Int) (g0 : Bool) (k0 : Int) (l0 : Bool) (a1 : Int) (b1 : Bool) (c1 : Int) (e1 : Bool) (w0 : (Lit.int .i64 a0).wf = true) (u0 : (Lit.int .i64 c0).wf = true) (y0 : (Lit.int .i64 f0).wf = true) (z0 : (Lit.int .i64 k0).wf = true) (w1 : (Lit.int .i64 a1).wf = true) (u1 : (Lit.int .i64 c1).wf = true) (w : World) : Calls Try.prog 11 #[.agg #[.int .i64 a0, .bool b0, .int .i64 c0, .bool e0, .int .i64 f0, .bool g0, .int .i64 k0, .bool l0], .agg #[.int .i64 a1, .bool b1, .int .i64 c1, .bool e1]] w fun e w' => e = .returned (.bool true) ∧ Below w.heap.size w w' := by
  have i0 := Go.Bag.i64_wf w0
  have j0 := Go.Bag.i64_wf u0
  have m0 := Go.Bag.i64_wf y0
  have n0 := Go.Bag.i64_wf z0
  have i1 := Go.Bag.i64_wf w1
  have j1 := Go.Bag.i64_wf u1
  exact Go.AbsK.law_plain (args := [.agg [.i .i64 a0, .b b0, .i .i64 c0, .b e0, .i .i64 f0, .b g0, .i .i64 k0, .b l0], .agg [.i .i64 a1, .b b1, .i .i64 c1, .b e1]]) (p := Go.AbsK.tplP (ta_law02_PlanePoses ⟨⟨⟨a0, b0⟩, ⟨c0, e0⟩⟩, ⟨⟨f0, g0⟩, ⟨k0, l0⟩⟩⟩ ⟨⟨a1, b1⟩, ⟨c1, e1⟩⟩) (tb_law02_PlanePoses ⟨⟨⟨a0, b0⟩, ⟨c0, e0⟩⟩, ⟨⟨f0, g0⟩, ⟨k0, l0⟩⟩⟩ ⟨⟨a1, b1⟩, ⟨c1, e1⟩⟩) (Go.Bag.P_law02_PlanePoses ⟨⟨⟨a0, b0⟩, ⟨c0, e0⟩⟩, ⟨⟨f0, g0⟩, ⟨k0, l0⟩⟩⟩ ⟨⟨a1, b1⟩, ⟨c1, e1⟩⟩ ∧ true = Go.Bag.law02_PlanePoses ⟨⟨⟨a0, b0⟩, ⟨c0, e0⟩⟩, ⟨⟨f0, g0⟩, ⟨k0, l0⟩⟩⟩ ⟨⟨a1, b1⟩, ⟨c1, e1⟩⟩) [.agg [.i .i64 a0, .b b0, .i .i64 c0, .b e0, .i .i64 f0, .b g0, .i .i64 k0, .b l0], .agg [.i .i64 a1, .b b1, .i .i64 c1, .b e1]] []) (ν := fun _ => (⟨0, 0, none⟩, 0)) Try.func11 (by kernel_rfl) rfl (ok_law02_PlanePoses ⟨⟨⟨a0, b0⟩, ⟨c0, e0⟩⟩, ⟨⟨f0, g0⟩, ⟨k0, l0⟩⟩⟩ ⟨⟨a1, b1⟩, ⟨c1, e1⟩⟩ true) rfl ⟨rfl, rfl, (Go.Bag.poses_true ⟨i0, j0⟩ m0 n0 ⟨i1, j1⟩), rfl⟩ rfl (Go.AbsK.plains_of rfl) w rfl

set_option maxRecDepth 100000 in
theorem lifted (os : Os) (started : os.Started) (H : Type) (enc : TypeId × Value → H) :
    ReturnsInHanded {} Try.checked os 11 .any (Rows.planePosesSpec.pre6 enc Try.prog Try.f11 Rows.planePosesRow.domain false) (Rows.planePosesSpec.post enc Try.prog Try.f11 false true false false) := by
  refine returnsInHanded_of_change (C := Try.checked) own started (by kernel_rfl) Try.func11
    (ChangeSpec.witness6 (enc := enc) (C := Try.checked) false ⟨#[], #[.agg #[.int .i64 0, .bool false, .int .i64 0, .bool false, .int .i64 0, .bool false, .int .i64 0, .bool false], .agg #[.int .i64 0, .bool false, .int .i64 0, .bool false]], []⟩ 8 (by kernel_rfl) (by kernel_rfl) (by kernel_rfl) (by kernel_rfl)) ?_
  intro W base args ds gs before hval0 hW hcnd _
  have hval : ∀ (j : Nat) t v, Try.f11.params[j]? = some t → args[j]? = some v → Value.okWide Try.prog W .any base t v := hval0
  have hW' := hW
  obtain ⟨p, q, hA0, hV, rfl, hfz, hnd⟩ := hW
  have hA : DataW.TrodAll enc Try.prog W 0 (fun _ => true) true Try.f11.params.toList args.toList ds p := hA0
  rw [Try.params11] at hA hval
  obtain ⟨v0, vs0, d0, ds0, p0, q0, hargs, rfl, rfl, h0, r0⟩ := trodAll_cons hA
  obtain ⟨v1, vs1, d1, ds1, p1, q1, rfl, rfl, rfl, h1, r1⟩ := trodAll_cons r0
  obtain ⟨rfl, rfl, rfl⟩ := trodAll_nil r1
  obtain rfl : args = #[v0, v1] := by cases args; simp_all
  obtain ⟨rfl, rfl⟩ := trodVars_none hV
  obtain ⟨a0, b0, c0, e0, f0, g0, k0, l0, rfl, rfl, rfl, w0, u0, y0, z0⟩ := poseT.arg (hval 0 72 v0 rfl rfl) h0
  obtain ⟨a1, b1, c1, e1, rfl, rfl, rfl, w1, u1⟩ := vecT.arg (hval 1 25 v1 rfl rfl) h1
  clear hA0 hval0
  simp only [List.append_nil] at hW'
  refine (walk a0 b0 c0 e0 f0 g0 k0 l0 a1 b1 c1 e1 w0 u0 y0 z0 w1 u1 W).mono fun e W' ⟨he, hg⟩ => ?_
  subst he
  exact ⟨_, rfl, Go.AbsK.post_below (pa := []) (pv := []) hW' (fun _ _ _ => (trodAll_cons_mk (shut_bool Try.underlying4 _) trodAll_mk0)) (fun sp _ => (trodAll_cons_mk (poseT.back w0 u0 y0 z0) (trodAll_cons_mk (vecT.back w1 u1) trodAll_mk0))) (fun _ _ => rfl) rfl
    hg (ok_one (by kernel_rfl) rfl (okWide_bool_mk Try.underlying4 _))⟩

theorem over : Rows.planePosesRow.holds Try.pinned (OpenSpec.ofChange Rows.planePosesSpec) :=
  OpenClaim.holds_of_wide 11 Try.f11 rfl rfl rfl rfl rfl rfl rfl ⟨rfl, rfl, rfl, rfl, rfl⟩ rfl rfl rfl rfl rfl (by kernel_rfl) Try.func11 (by kernel_rfl)
    (of_decide_eq_true (by kernel_rfl)) (by unfold Func.isWrapper; first | (rw [if_pos (by decide +kernel)]; kernel_rfl) | (rw [if_neg (by decide +kernel)]; exact ⟨rfl, rfl⟩))
    (fun os started H enc _ => lifted os started H enc)

theorem proved : Rows.PlanePosesSaid :=
  over
#print axioms proved
end Go.Proofs.Ytcbgfjidamoilaa.planePoses
