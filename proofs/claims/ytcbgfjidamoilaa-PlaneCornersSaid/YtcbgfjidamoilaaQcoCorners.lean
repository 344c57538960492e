/- PlaneCorners answers true: the statement's one call returns true and writes nothing that was there. Conditions: those of the given row, no others. -/
import Derived.Test.YtcbgfjidamoilaaRows
import Derived.WalkKit
import Derived.ProofKit
import Derived.OpenShut
import Derived.Test.YtcbgfjidamoilaaQcoFin
import Derived.Test.YtcbgfjidamoilaaQcoFns3
import Derived.Test.YtcbgfjidamoilaaQcoOpen3
import Derived.Test.YtcbgfjidamoilaaQcoM31
namespace Go.Proofs.Ytcbgfjidamoilaa.planeCorners
open Go.ChangeShapes Go.WideShapes Go.ChangeAt Go.RowKit Go.AbsK Go.Bag
set_option linter.unusedVariables false

theorem own : ownKnob Try.prog.godebug = none := by kernel_rfl
theorem walk (a0 : Int) (a1 : Int) (a2 : Int) (w0 : (Lit.int .i64 a0).wf = true) (w1 : (Lit.int .i64 a1).wf = true) (w2 : (Lit.int .i64 a2).wf = true) (w : World)  : Calls Try.prog 14 #[.int .i64 a0, .int .i64 a1, .int .i64 a2] w fun e w' => e = .returned (.bool true) ∧ Below w.heap.size w w' := by
  have i0 := Go.Bag.i64_wf w0
  have i1 := Go.Bag.i64_wf w1
  have i2 := Go.Bag.i64_wf w2
  exact Go.AbsK.law_slices (args := [.c (.i .i64 a0), .c (.i .i64 a1), .c (.i .i64 a2)]) (p := Go.AbsK.tplP (ta_law02_PlaneCorners a0 a1 a2) (tb_law02_PlaneCorners a0 a1 a2) (Go.Bag.P_law02_PlaneCorners a0 a1 a2 ∧ true = Go.Bag.law02_PlaneCorners a0 a1 a2) [.c (.i .i64 a0), .c (.i .i64 a1), .c (.i .i64 a2)] (([] : List ((Addr × Nat) × (Nat × List (List AbsK.Cell)))).map (fun q => tblk q.2)))
    Try.func14 (by kernel_rfl) rfl (ok_law02_PlaneCorners a0 a1 a2 true) [] (fun q hq => by cases hq) rfl ⟨rfl, rfl, (Go.Bag.corners_true i0 i1 i2), rfl⟩ rfl rfl rfl
set_option maxRecDepth 100000 in
theorem lifted (os : Os) (started : os.Started) (H : Type) (enc : TypeId × Value → H) :
    ReturnsInHanded {} Try.checked os 14 .any (Rows.planeCornersSpec.pre6 enc Try.prog Try.f14 Rows.planeCornersRow.domain false) (Rows.planeCornersSpec.post enc Try.prog Try.f14 false true false false) := by
  refine returnsInHanded_of_change (C := Try.checked) own started (by kernel_rfl) Try.func14
    (ChangeSpec.witness6 (enc := enc) (C := Try.checked) false ⟨#[], #[.int .i64 0, .int .i64 0, .int .i64 0], []⟩ 8 (by kernel_rfl) (by kernel_rfl) (by kernel_rfl) (by kernel_rfl)) ?_
  intro W base args ds gs before hval0 hW hcnd _
  have hval : ∀ (j : Nat) t v, Try.f14.params[j]? = some t → args[j]? = some v → Value.okWide Try.prog W .any base t v := hval0
  have hW' := hW
  obtain ⟨p, q, hA0, hV, rfl, hfz, hnd⟩ := hW
  have hA : DataW.TrodAll enc Try.prog W 0 (fun _ => true) true Try.f14.params.toList args.toList ds p := hA0
  have hA1 := hA
  rw [Try.params14] at hA hval
  obtain ⟨v0, vs0, d0, ds0, p0, q0, hargs, rfl, rfl, h0, r0⟩ := trodAll_cons hA
  obtain ⟨v1, vs1, d1, ds1, p1, q1, rfl, rfl, rfl, h1, r1⟩ := trodAll_cons r0
  obtain ⟨v2, vs2, d2, ds2, p2, q2, rfl, rfl, rfl, h2, r2⟩ := trodAll_cons r1
  obtain ⟨rfl, rfl, rfl⟩ := trodAll_nil r2
  obtain rfl : args = #[v0, v1, v2] := by cases args; simp_all
  obtain ⟨rfl, rfl⟩ := trodVars_none hV
  obtain ⟨a0, rfl, rfl, rfl, w0⟩ := open_int Try.underlying3 (hval 0 3 v0 rfl rfl) h0
  obtain ⟨a1, rfl, rfl, rfl, w1⟩ := open_int Try.underlying3 (hval 1 3 v1 rfl rfl) h1
  obtain ⟨a2, rfl, rfl, rfl, w2⟩ := open_int Try.underlying2 (hval 2 2 v2 rfl rfl) h2
  clear hA0 hval0 hval hA
  simp only [List.append_nil] at hW' hA1
  refine (walk a0 a1 a2 w0 w1 w2 W).mono fun e W' ⟨he, hg⟩ => ?_
  subst he
  have hlt := hW'.lt
  exact ⟨_, rfl, Go.AbsK.post_below (pa := _) (pv := []) hW' (fun _ _ _ => (trodAll_cons_mk (shut_bool Try.underlying4 _) trodAll_mk0)) (fun sp hsp => trodAll_again tKids tFull hg (by rw [Try.params14]; decide) hA1 hlt hsp) (fun _ _ => rfl) (List.append_nil _).symm
    hg (ok_one (by kernel_rfl) rfl (okWide_bool_mk Try.underlying4 _))⟩
theorem over : Rows.planeCornersRow.holds Try.pinned (OpenSpec.ofChange Rows.planeCornersSpec) :=
  OpenClaim.holds_of_wide 14 Try.f14 rfl rfl rfl rfl rfl rfl rfl ⟨rfl, rfl, rfl, rfl, rfl⟩ rfl rfl rfl rfl rfl (by kernel_rfl) Try.func14 (by kernel_rfl)
    (of_decide_eq_true (by kernel_rfl)) (by unfold Func.isWrapper; first | (rw [if_pos (by decide +kernel)]; kernel_rfl) | (rw [if_neg (by decide +kernel)]; exact ⟨rfl, rfl⟩))
    (fun os started H enc _ => lifted os started H enc)
theorem proved : Rows.PlaneCornersSaid :=
  over
#print axioms proved
end Go.Proofs.Ytcbgfjidamoilaa.planeCorners

