/- PlaneSolves answers true: the statement's one call returns true and writes nothing that was there. Conditions: those of the given row, no others. -/
import Derived.Test.YtcbgfjidamoilaaRows
import Derived.WalkKit
import Derived.ProofKit
import Derived.OpenShut
import Derived.Test.YtcbgfjidamoilaaQFin
import Derived.Test.YtcbgfjidamoilaaQF3
import Derived.Test.YtcbgfjidamoilaaQOpen
import Derived.Test.YtcbgfjidamoilaaQM14
namespace Go.Proofs.Ytcbgfjidamoilaa.planeSolves
open Go.ChangeShapes Go.WideShapes Go.ChangeAt Go.RowKit
set_option linter.unusedVariables false

theorem own : ownKnob Try.prog.godebug = none := by kernel_rfl

theorem walk (a0 : Int) (b0 : Bool) (a1 : Int) (b1 : Bool) (a2 : Int) (b2 : Bool) (a3 : Int) (b3 : Bool) (a4 : Int) (b4 : Bool) (c4 : Int) (e4 : Bool) (w0 : (Lit.int .i64 a0).wf = true) (w1 : (Lit.int .i64 a1).wf = true) (w2 : (Lit.int .i64 a2).wf = true) (w3 : (Lit.int .i64 a3).wf = true) (w4 : (Lit.int .i64 a4).wf = true) (u4 : (Lit.int .i64 c4).wf = true) (w : World) : Calls Try.prog 9 #[.agg #[.int .i64 a0, .bool b0], .agg #[.int .i64 a1, .bool b1], .agg #[.int .i64 a2, .bool b2], .agg #[.int .i64 a3, .bool b3], .agg #[.int .i64 a4, .bool b4, .int .i64 c4, .bool e4]] w fun e w' => e = .returned (.bool true) ∧ Below w.heap.size w w' := by
  have i0 := Go.Bag.i64_wf w0
  have i1 := Go.Bag.i64_wf w1
  have i2 := Go.Bag.i64_wf w2
  have i3 := Go.Bag.i64_wf w3
  have i4 := Go.Bag.i64_wf w4
  have j4 := Go.Bag.i64_wf u4
  exact Go.AbsK.law_plain (args := [.agg [.i .i64 a0, .b b0], .agg [.i .i64 a1, .b b1], .agg [.i .i64 a2, .b b2], .agg [.i .i64 a3, .b b3], .agg [.i .i64 a4, .b b4, .i .i64 c4, .b e4]]) (p := Go.AbsK.tplP (ta_law02_PlaneSolves ⟨a0, b0⟩ ⟨a1, b1⟩ ⟨a2, b2⟩ ⟨a3, b3⟩ ⟨⟨a4, b4⟩, ⟨c4, e4⟩⟩) (tb_law02_PlaneSolves ⟨a0, b0⟩ ⟨a1, b1⟩ ⟨a2, b2⟩ ⟨a3, b3⟩ ⟨⟨a4, b4⟩, ⟨c4, e4⟩⟩) (Go.Bag.P_law02_PlaneSolves ⟨a0, b0⟩ ⟨a1, b1⟩ ⟨a2, b2⟩ ⟨a3, b3⟩ ⟨⟨a4, b4⟩, ⟨c4, e4⟩⟩ ∧ true = Go.Bag.law02_PlaneSolves ⟨a0, b0⟩ ⟨a1, b1⟩ ⟨a2, b2⟩ ⟨a3, b3⟩ ⟨⟨a4, b4⟩, ⟨c4, e4⟩⟩) [.agg [.i .i64 a0, .b b0], .agg [.i .i64 a1, .b b1], .agg [.i .i64 a2, .b b2], .agg [.i .i64 a3, .b b3], .agg [.i .i64 a4, .b b4, .i .i64 c4, .b e4]] []) (ν := fun _ => (⟨0, 0, none⟩, 0)) Try.func9 (by kernel_rfl) rfl (ok_law02_PlaneSolves ⟨a0, b0⟩ ⟨a1, b1⟩ ⟨a2, b2⟩ ⟨a3, b3⟩ ⟨⟨a4, b4⟩, ⟨c4, e4⟩⟩ true) rfl ⟨rfl, rfl, (Go.Bag.solves_true i0 i1 i2 i3 ⟨i4, j4⟩), rfl⟩ rfl (Go.AbsK.plains_of rfl) w rfl

set_option maxRecDepth 100000 in
theorem lifted (os : Os) (started : os.Started) (H : Type) (enc : TypeId × Value → H) :
    ReturnsInHanded {} Try.checked os 9 .any (Rows.planeSolvesSpec.pre6 enc Try.prog Try.f9 Rows.planeSolvesRow.domain false) (Rows.planeSolvesSpec.post enc Try.prog Try.f9 false true false false) := by
  refine returnsInHanded_of_change (C := Try.checked) own started (by kernel_rfl) Try.func9
    (ChangeSpec.witness6 (enc := enc) (C := Try.checked) false ⟨#[], #[.agg #[.int .i64 0, .bool false], .agg #[.int .i64 0, .bool false], .agg #[.int .i64 0, .bool false], .agg #[.int .i64 0, .bool false], .agg #[.int .i64 0, .bool false, .int .i64 0, .bool false]], []⟩ 8 (by kernel_rfl) (by kernel_rfl) (by kernel_rfl) (by kernel_rfl)) ?_
  intro W base args ds gs before hval0 hW hcnd _
  have hval : ∀ (j : Nat) t v, Try.f9.params[j]? = some t → args[j]? = some v → Value.okWide Try.prog W .any base t v := hval0
  have hW' := hW
  obtain ⟨p, q, hA0, hV, rfl, hfz, hnd⟩ := hW
  have hA : DataW.TrodAll enc Try.prog W 0 (fun _ => true) true Try.f9.params.toList args.toList ds p := hA0
  rw [Try.params9] at hA hval
  obtain ⟨v0, vs0, d0, ds0, p0, q0, hargs, rfl, rfl, h0, r0⟩ := trodAll_cons hA
  obtain ⟨v1, vs1, d1, ds1, p1, q1, rfl, rfl, rfl, h1, r1⟩ := trodAll_cons r0
  obtain ⟨v2, vs2, d2, ds2, p2, q2, rfl, rfl, rfl, h2, r2⟩ := trodAll_cons r1
  obtain ⟨v3, vs3, d3, ds3, p3, q3, rfl, rfl, rfl, h3, r3⟩ := trodAll_cons r2
  obtain ⟨v4, vs4, d4, ds4, p4, q4, rfl, rfl, rfl, h4, r4⟩ := trodAll_cons r3
  obtain ⟨rfl, rfl, rfl⟩ := trodAll_nil r4
  obtain rfl : args = #[v0, v1, v2, v3, v4] := by cases args; simp_all
  obtain ⟨rfl, rfl⟩ := trodVars_none hV
  obtain ⟨a0, b0, rfl, rfl, rfl, w0⟩ := numT.arg (hval 0 23 v0 rfl rfl) h0
  obtain ⟨a1, b1, rfl, rfl, rfl, w1⟩ := numT.arg (hval 1 23 v1 rfl rfl) h1
  obtain ⟨a2, b2, rfl, rfl, rfl, w2⟩ := numT.arg (hval 2 23 v2 rfl rfl) h2
  obtain ⟨a3, b3, rfl, rfl, rfl, w3⟩ := numT.arg (hval 3 23 v3 rfl rfl) h3
  obtain ⟨a4, b4, c4, e4, rfl, rfl, rfl, w4, u4⟩ := vecT.arg (hval 4 25 v4 rfl rfl) h4
  clear hA0 hval0
  simp only [List.append_nil] at hW'
  refine (walk a0 b0 a1 b1 a2 b2 a3 b3 a4 b4 c4 e4 w0 w1 w2 w3 w4 u4 W).mono fun e W' ⟨he, hg⟩ => ?_
  subst he
  exact ⟨_, rfl, Go.AbsK.post_below (pa := []) (pv := []) hW' (fun _ _ _ => (trodAll_cons_mk (shut_bool Try.underlying4 _) trodAll_mk0)) (fun sp _ => (trodAll_cons_mk (numT.back w0) (trodAll_cons_mk (numT.back w1) (trodAll_cons_mk (numT.back w2) (trodAll_cons_mk (numT.back w3) (trodAll_cons_mk (vecT.back w4 u4) trodAll_mk0)))))) (fun _ _ => rfl) rfl
    hg (ok_one (by kernel_rfl) rfl (okWide_bool_mk Try.underlying4 _))⟩

theorem over : Rows.planeSolvesRow.holds Try.pinned (OpenSpec.ofChange Rows.planeSolvesSpec) :=
  OpenClaim.holds_of_wide 9 Try.f9 rfl rfl rfl rfl rfl rfl rfl ⟨rfl, rfl, rfl, rfl, rfl⟩ rfl rfl rfl rfl rfl (by kernel_rfl) Try.func9 (by kernel_rfl)
    (of_decide_eq_true (by kernel_rfl)) (by unfold Func.isWrapper; first | (rw [if_pos (by decide +kernel)]; kernel_rfl) | (rw [if_neg (by decide +kernel)]; exact ⟨rfl, rfl⟩))
    (fun os started H enc _ => lifted os started H enc)

theorem proved : Rows.PlaneSolvesSaid :=
  over
#print axioms proved
end Go.Proofs.Ytcbgfjidamoilaa.planeSolves
