/- PlaneRots answers true: the statement's one call returns true and writes nothing that was there. Conditions: those of the given row, no others. -/
import Derived.Test.YtcbgfjidamoilaaGreatRows
import Derived.WalkKit
import Derived.ProofKit
import Derived.OpenShut
import Derived.Test.YtcbgfjidamoilaaGreatQroFin
import Derived.Test.YtcbgfjidamoilaaGreatQroFns3
import Derived.Test.YtcbgfjidamoilaaGreatQroOpen3
import Derived.Test.YtcbgfjidamoilaaGreatQroN1
namespace Go.Proofs.YtcbgfjidamoilaaGreat.planeRots
open Go.ChangeShapes Go.WideShapes Go.ChangeAt Go.RowKit Go.AbsK Go.Bag
set_option linter.unusedVariables false

theorem own : ownKnob Tryz.prog.godebug = none := by kernel_rfl
theorem walk (a0 : Int) (b0 : Bool) (a1 : Int) (b1 : Bool) (c1 : Int) (e1 : Bool) (a2 : Int) (b2 : Bool) (c2 : Int) (e2 : Bool) (a3 : Int) (b3 : Bool) (c3 : Int) (e3 : Bool) (w0 : (Lit.int .i64 a0).wf = true) (w1 : (Lit.int .i64 a1).wf = true) (u1 : (Lit.int .i64 c1).wf = true) (w2 : (Lit.int .i64 a2).wf = true) (u2 : (Lit.int .i64 c2).wf = true) (w3 : (Lit.int .i64 a3).wf = true) (u3 : (Lit.int .i64 c3).wf = true) (w : World)  : Calls Tryz.prog 5 #[.agg #[.int .i64 a0, .bool b0], .agg #[.int .i64 a1, .bool b1, .int .i64 c1, .bool e1], .agg #[.int .i64 a2, .bool b2, .int .i64 c2, .bool e2], .agg #[.int .i64 a3, .bool b3, .int .i64 c3, .bool e3]] w fun e w' => e = .returned (.bool true) ∧ Below w.heap.size w w' := by
  have i0 := Go.Bag.i64_wf w0
  have i1 := Go.Bag.i64_wf w1
  have j1 := Go.Bag.i64_wf u1
  have i2 := Go.Bag.i64_wf w2
  have j2 := Go.Bag.i64_wf u2
  have i3 := Go.Bag.i64_wf w3
  have j3 := Go.Bag.i64_wf u3
  exact Go.AbsK.law_slices (args := [.agg [.i .i64 a0, .b b0], .agg [.i .i64 a1, .b b1, .i .i64 c1, .b e1], .agg [.i .i64 a2, .b b2, .i .i64 c2, .b e2], .agg [.i .i64 a3, .b b3, .i .i64 c3, .b e3]]) (p := Go.AbsK.tplP (ta_law02_PlaneRots ⟨a0, b0⟩ ⟨⟨a1, b1⟩, ⟨c1, e1⟩⟩ ⟨⟨a2, b2⟩, ⟨c2, e2⟩⟩ ⟨⟨a3, b3⟩, ⟨c3, e3⟩⟩) (tb_law02_PlaneRots ⟨a0, b0⟩ ⟨⟨a1, b1⟩, ⟨c1, e1⟩⟩ ⟨⟨a2, b2⟩, ⟨c2, e2⟩⟩ ⟨⟨a3, b3⟩, ⟨c3, e3⟩⟩) (Go.Bag.P_law02_PlaneRots ⟨a0, b0⟩ ⟨⟨a1, b1⟩, ⟨c1, e1⟩⟩ ⟨⟨a2, b2⟩, ⟨c2, e2⟩⟩ ⟨⟨a3, b3⟩, ⟨c3, e3⟩⟩ ∧ true = Go.Bag.law02_PlaneRots ⟨a0, b0⟩ ⟨⟨a1, b1⟩, ⟨c1, e1⟩⟩ ⟨⟨a2, b2⟩, ⟨c2, e2⟩⟩ ⟨⟨a3, b3⟩, ⟨c3, e3⟩⟩) [.agg [.i .i64 a0, .b b0], .agg [.i .i64 a1, .b b1, .i .i64 c1, .b e1], .agg [.i .i64 a2, .b b2, .i .i64 c2, .b e2], .agg [.i .i64 a3, .b b3, .i .i64 c3, .b e3]] (([] : List ((Addr × Nat) × (Nat × List (List AbsK.Cell)))).map (fun q => tblk q.2)))
    Tryz.func5 (by kernel_rfl) rfl (ok_law02_PlaneRots ⟨a0, b0⟩ ⟨⟨a1, b1⟩, ⟨c1, e1⟩⟩ ⟨⟨a2, b2⟩, ⟨c2, e2⟩⟩ ⟨⟨a3, b3⟩, ⟨c3, e3⟩⟩ true) [] (fun q hq => by cases hq) rfl ⟨rfl, rfl, (Go.Bag.rots_true i0 i1 j1 i2 j2 ⟨i3, j3⟩), rfl⟩ rfl rfl rfl
set_option maxRecDepth 100000 in
theorem lifted (os : Os) (started : os.Started) (H : Type) (enc : TypeId × Value → H) :
    ReturnsInHanded {} Tryz.checked os 5 .any (Rows.planeRotsSpec.pre6 enc Tryz.prog Tryz.f5 Rows.planeRotsRow.domain false) (Rows.planeRotsSpec.post enc Tryz.prog Tryz.f5 false true false false) := by
  refine returnsInHanded_of_change (C := Tryz.checked) own started (by kernel_rfl) Tryz.func5
    (ChangeSpec.witness6 (enc := enc) (C := Tryz.checked) false ⟨#[], #[.agg #[.int .i64 0, .bool false], .agg #[.int .i64 0, .bool false, .int .i64 0, .bool false], .agg #[.int .i64 0, .bool false, .int .i64 0, .bool false], .agg #[.int .i64 0, .bool false, .int .i64 0, .bool false]], []⟩ 8 (by kernel_rfl) (by kernel_rfl) (by kernel_rfl) (by kernel_rfl)) ?_
  intro W base args ds gs before hval0 hW hcnd _
  have hval : ∀ (j : Nat) t v, Tryz.f5.params[j]? = some t → args[j]? = some v → Value.okWide Tryz.prog W .any base t v := hval0
  have hW' := hW
  obtain ⟨p, q, hA0, hV, rfl, hfz, hnd⟩ := hW
  have hA : DataW.TrodAll enc Tryz.prog W 0 (fun _ => true) true Tryz.f5.params.toList args.toList ds p := hA0
  have hA1 := hA
  rw [Tryz.params5] at hA hval
  obtain ⟨v0, vs0, d0, ds0, p0, q0, hargs, rfl, rfl, h0, r0⟩ := trodAll_cons hA
  obtain ⟨v1, vs1, d1, ds1, p1, q1, rfl, rfl, rfl, h1, r1⟩ := trodAll_cons r0
  obtain ⟨v2, vs2, d2, ds2, p2, q2, rfl, rfl, rfl, h2, r2⟩ := trodAll_cons r1
  obtain ⟨v3, vs3, d3, ds3, p3, q3, rfl, rfl, rfl, h3, r3⟩ := trodAll_cons r2
  obtain ⟨rfl, rfl, rfl⟩ := trodAll_nil r3
  obtain rfl : args = #[v0, v1, v2, v3] := by cases args; simp_all
  obtain ⟨rfl, rfl⟩ := trodVars_none hV
  obtain ⟨a0, b0, rfl, rfl, rfl, w0⟩ := numT.arg (hval 0 30 v0 rfl rfl) h0
  obtain ⟨a1, b1, c1, e1, rfl, rfl, rfl, w1, u1⟩ := rotT.arg (hval 1 34 v1 rfl rfl) h1
  obtain ⟨a2, b2, c2, e2, rfl, rfl, rfl, w2, u2⟩ := rotT.arg (hval 2 34 v2 rfl rfl) h2
  obtain ⟨a3, b3, c3, e3, rfl, rfl, rfl, w3, u3⟩ := vecT.arg (hval 3 32 v3 rfl rfl) h3
  clear hA0 hval0 hval hA
  simp only [List.append_nil] at hW' hA1
  refine (walk a0 b0 a1 b1 c1 e1 a2 b2 c2 e2 a3 b3 c3 e3 w0 w1 u1 w2 u2 w3 u3 W).mono fun e W' ⟨he, hg⟩ => ?_
  subst he
  have hlt := hW'.lt
  exact ⟨_, rfl, Go.AbsK.post_below (pa := _) (pv := []) hW' (fun _ _ _ => (trodAll_cons_mk (shut_bool Tryz.underlying4 _) trodAll_mk0)) (fun sp hsp => trodAll_again tKids tFull hg (by rw [Tryz.params5]; decide) hA1 hlt hsp) (fun _ _ => rfl) (List.append_nil _).symm
    hg (ok_one (by kernel_rfl) rfl (okWide_bool_mk Tryz.underlying4 _))⟩
theorem over : Rows.planeRotsRow.holds Tryz.pinned (OpenSpec.ofChange Rows.planeRotsSpec) :=
  OpenClaim.holds_of_wide 5 Tryz.f5 rfl rfl rfl rfl rfl rfl rfl ⟨rfl, rfl, rfl, rfl, rfl⟩ rfl rfl rfl rfl rfl (by kernel_rfl) Tryz.func5 (by kernel_rfl)
    (of_decide_eq_true (by kernel_rfl)) (by unfold Func.isWrapper; first | (rw [if_pos (by decide +kernel)]; kernel_rfl) | (rw [if_neg (by decide +kernel)]; exact ⟨rfl, rfl⟩))
    (fun os started H enc _ => lifted os started H enc)
theorem proved : Rows.PlaneRotsSaid :=
  over
#print axioms proved
end Go.Proofs.YtcbgfjidamoilaaGreat.planeRots

