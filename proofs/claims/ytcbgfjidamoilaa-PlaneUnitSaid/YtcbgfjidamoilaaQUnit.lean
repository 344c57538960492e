/- PlaneUnit answers true: the statement's one call returns true and writes nothing that was there. Conditions: those of the given row, no others. -/
import Derived.Test.YtcbgfjidamoilaaRows
import Derived.WalkKit
import Derived.ProofKit
import Derived.OpenShut
import Derived.Test.YtcbgfjidamoilaaQFin
import Derived.Test.YtcbgfjidamoilaaQF3
import Derived.Test.YtcbgfjidamoilaaQOpen
import Derived.Test.YtcbgfjidamoilaaQM13
namespace Go.Proofs.Ytcbgfjidamoilaa.planeUnit
open Go.ChangeShapes Go.WideShapes Go.ChangeAt Go.RowKit
set_option linter.unusedVariables false

theorem own : ownKnob Try.prog.godebug = none := by kernel_rfl

theorem walk (a0 : Int) (b0 : Bool) (c0 : Int) (e0 : Bool) (w0 : (Lit.int .i64 a0).wf = true) (u0 : (Lit.int .i64 c0).wf = true) (w : World) : Calls Try.prog 3 #[.agg #[.int .i64 a0, .bool b0, .int .i64 c0, .bool e0]] w fun e w' => e = .returned (.bool true) ∧ Below w.heap.size w w' := by
  have i0 := Go.Bag.i64_wf w0
  have j0 := Go.Bag.i64_wf u0
  exact Go.AbsK.law_plain (args := [.agg [.i .i64 a0, .b b0, .i .i64 c0, .b e0]]) (p := Go.AbsK.tplP (ta_law02_PlaneUnit ⟨⟨a0, b0⟩, ⟨c0, e0⟩⟩) (tb_law02_PlaneUnit ⟨⟨a0, b0⟩, ⟨c0, e0⟩⟩) (Go.Bag.P_law02_PlaneUnit ⟨⟨a0, b0⟩, ⟨c0, e0⟩⟩ ∧ true = Go.Bag.law02_PlaneUnit ⟨⟨a0, b0⟩, ⟨c0, e0⟩⟩) [.agg [.i .i64 a0, .b b0, .i .i64 c0, .b e0]] []) (ν := fun _ => (⟨0, 0, none⟩, 0)) Try.func3 (by kernel_rfl) rfl (ok_law02_PlaneUnit ⟨⟨a0, b0⟩, ⟨c0, e0⟩⟩ true) rfl ⟨rfl, rfl, (Go.Bag.planeUnit_true ⟨i0, j0⟩), rfl⟩ rfl (Go.AbsK.plains_of rfl) w rfl

set_option maxRecDepth 100000 in
theorem lifted (os : Os) (started : os.Started) (H : Type) (enc : TypeId × Value → H) :
    ReturnsInHanded {} Try.checked os 3 .any (Rows.planeUnitSpec.pre6 enc Try.prog Try.f3 Rows.planeUnitRow.domain false) (Rows.planeUnitSpec.post enc Try.prog Try.f3 false true false false) := by
  refine returnsInHanded_of_change (C := Try.checked) own started (by kernel_rfl) Try.func3
    (ChangeSpec.witness6 (enc := enc) (C := Try.checked) false ⟨#[], #[.agg #[.int .i64 0, .bool false, .int .i64 0, .bool false]], []⟩ 8 (by kernel_rfl) (by kernel_rfl) (by kernel_rfl) (by kernel_rfl)) ?_
  intro W base args ds gs before hval0 hW hcnd _
  have hval : ∀ (j : Nat) t v, Try.f3.params[j]? = some t → args[j]? = some v → Value.okWide Try.prog W .any base t v := hval0
  have hW' := hW
  obtain ⟨p, q, hA0, hV, rfl, hfz, hnd⟩ := hW
  have hA : DataW.TrodAll enc Try.prog W 0 (fun _ => true) true Try.f3.params.toList args.toList ds p := hA0
  rw [Try.params3] at hA hval
  obtain ⟨v0, vs0, d0, ds0, p0, q0, hargs, rfl, rfl, h0, r0⟩ := trodAll_cons hA
  obtain ⟨rfl, rfl, rfl⟩ := trodAll_nil r0
  obtain rfl : args = #[v0] := by cases args; simp_all
  obtain ⟨rfl, rfl⟩ := trodVars_none hV
  obtain ⟨a0, b0, c0, e0, rfl, rfl, rfl, w0, u0⟩ := vecT.arg (hval 0 25 v0 rfl rfl) h0
  clear hA0 hval0
  simp only [List.append_nil] at hW'
  refine (walk a0 b0 c0 e0 w0 u0 W).mono fun e W' ⟨he, hg⟩ => ?_
  subst he
  exact ⟨_, rfl, Go.AbsK.post_below (pa := []) (pv := []) hW' (fun _ _ _ => (trodAll_cons_mk (shut_bool Try.underlying4 _) trodAll_mk0)) (fun sp _ => (trodAll_cons_mk (vecT.back w0 u0) trodAll_mk0)) (fun _ _ => rfl) rfl
    hg (ok_one (by kernel_rfl) rfl (okWide_bool_mk Try.underlying4 _))⟩

theorem over : Rows.planeUnitRow.holds Try.pinned (OpenSpec.ofChange Rows.planeUnitSpec) :=
  OpenClaim.holds_of_wide 3 Try.f3 rfl rfl rfl rfl rfl rfl rfl ⟨rfl, rfl, rfl, rfl, rfl⟩ rfl rfl rfl rfl rfl (by kernel_rfl) Try.func3 (by kernel_rfl)
    (of_decide_eq_true (by kernel_rfl)) (by unfold Func.isWrapper; first | (rw [if_pos (by decide +kernel)]; kernel_rfl) | (rw [if_neg (by decide +kernel)]; exact ⟨rfl, rfl⟩))
    (fun os started H enc _ => lifted os started H enc)

theorem proved : Rows.PlaneUnitSaid :=
  over
#print axioms proved
end Go.Proofs.Ytcbgfjidamoilaa.planeUnit
