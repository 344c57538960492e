/- PlaneVectors answers true: the statement's one call returns true and writes nothing that was there. Conditions: those of the given row, no others. -/
import Derived.Test.YtcbgfjidamoilaaRows
import Derived.WalkKit
import Derived.ProofKit
import Derived.OpenShut
import Derived.Test.YtcbgfjidamoilaaQveFin
import Derived.Test.YtcbgfjidamoilaaQveFns3
import Derived.Test.YtcbgfjidamoilaaQveOpen3
import Derived.Test.YtcbgfjidamoilaaQveM18
namespace Go.Proofs.Ytcbgfjidamoilaa.planeVectors
open Go.ChangeShapes Go.WideShapes Go.ChangeAt Go.RowKit Go.AbsK Go.Bag
set_option linter.unusedVariables false

theorem own : ownKnob Try.prog.godebug = none := by kernel_rfl
theorem walk (E0 : Addr × Nat) (l0 : List Vec) (a1 : Int) (b1 : Bool) (c1 : Int) (e1 : Bool) (a2 : Int) (b2 : Bool) (c2 : Int) (e2 : Bool) (a3 : Int) (b3 : Bool) (w1 : (Lit.int .i64 a1).wf = true) (u1 : (Lit.int .i64 c1).wf = true) (w2 : (Lit.int .i64 a2).wf = true) (u2 : (Lit.int .i64 c2).wf = true) (w3 : (Lit.int .i64 a3).wf = true) (w : World) (z0 : ∀ x ∈ l0, VcOK x) (s0 : SlOK w E0 (4, rowsOf rVec l0)) : Calls Try.prog 12 #[Cell.conc (fun _ => E0) (.slc (0, 0) 0 4 l0.length none), .agg #[.int .i64 a1, .bool b1, .int .i64 c1, .bool e1], .agg #[.int .i64 a2, .bool b2, .int .i64 c2, .bool e2], .agg #[.int .i64 a3, .bool b3]] w fun e w' => e = .returned (.bool true) ∧ Below w.heap.size w w' := by
  have i1 := Go.Bag.i64_wf w1
  have j1 := Go.Bag.i64_wf u1
  have i2 := Go.Bag.i64_wf w2
  have j2 := Go.Bag.i64_wf u2
  have i3 := Go.Bag.i64_wf w3
  exact Go.AbsK.law_slices (args := [.c (.slc (0, 0) 0 4 l0.length none), .agg [.i .i64 a1, .b b1, .i .i64 c1, .b e1], .agg [.i .i64 a2, .b b2, .i .i64 c2, .b e2], .agg [.i .i64 a3, .b b3]]) (p := Go.AbsK.tplP (ta_law02_PlaneVectors l0 ⟨⟨a1, b1⟩, ⟨c1, e1⟩⟩ ⟨⟨a2, b2⟩, ⟨c2, e2⟩⟩ ⟨a3, b3⟩ none) (tb_law02_PlaneVectors l0 ⟨⟨a1, b1⟩, ⟨c1, e1⟩⟩ ⟨⟨a2, b2⟩, ⟨c2, e2⟩⟩ ⟨a3, b3⟩) (Go.Bag.P_law02_PlaneVectors l0 ⟨⟨a1, b1⟩, ⟨c1, e1⟩⟩ ⟨⟨a2, b2⟩, ⟨c2, e2⟩⟩ ⟨a3, b3⟩ ∧ true = Go.Bag.law02_PlaneVectors l0 ⟨⟨a1, b1⟩, ⟨c1, e1⟩⟩ ⟨⟨a2, b2⟩, ⟨c2, e2⟩⟩ ⟨a3, b3⟩) [.c (.slc (0, 0) 0 4 l0.length none), .agg [.i .i64 a1, .b b1, .i .i64 c1, .b e1], .agg [.i .i64 a2, .b b2, .i .i64 c2, .b e2], .agg [.i .i64 a3, .b b3]] (([(E0, (4, rowsOf rVec l0))] : List ((Addr × Nat) × (Nat × List (List AbsK.Cell)))).map (fun q => tblk q.2)))
    Try.func12 (by kernel_rfl) rfl (ok_law02_PlaneVectors l0 ⟨⟨a1, b1⟩, ⟨c1, e1⟩⟩ ⟨⟨a2, b2⟩, ⟨c2, e2⟩⟩ ⟨a3, b3⟩ none true) [(E0, (4, rowsOf rVec l0))] (by intro q hq; simp only [List.mem_cons, List.not_mem_nil, or_false] at hq; rcases hq with rfl <;> assumption) rfl ⟨rfl, rfl, (Go.Bag.vectors_true z0 ⟨i1, j1⟩ ⟨i2, j2⟩ i3), rfl⟩ rfl rfl rfl
set_option maxRecDepth 100000 in
theorem lifted (os : Os) (started : os.Started) (H : Type) (enc : TypeId × Value → H) :
    ReturnsInHanded {} Try.checked os 12 .any (Rows.planeVectorsSpec.pre6 enc Try.prog Try.f12 Rows.planeVectorsRow.domain false) (Rows.planeVectorsSpec.post enc Try.prog Try.f12 false true false false) := by
  refine returnsInHanded_of_change (C := Try.checked) own started (by kernel_rfl) Try.func12
    (ChangeSpec.witness6 (enc := enc) (C := Try.checked) false ⟨#[], #[.slice none 0 0, .agg #[.int .i64 0, .bool false, .int .i64 0, .bool false], .agg #[.int .i64 0, .bool false, .int .i64 0, .bool false], .agg #[.int .i64 0, .bool false]], []⟩ 8 (by kernel_rfl) (by kernel_rfl) (by kernel_rfl) (by kernel_rfl)) ?_
  intro W base args ds gs before hval0 hW hcnd _
  have hval : ∀ (j : Nat) t v, Try.f12.params[j]? = some t → args[j]? = some v → Value.okWide Try.prog W .any base t v := hval0
  have hW' := hW
  obtain ⟨p, q, hA0, hV, rfl, hfz, hnd⟩ := hW
  have hA : DataW.TrodAll enc Try.prog W 0 (fun _ => true) true Try.f12.params.toList args.toList ds p := hA0
  have hA1 := hA
  rw [Try.params12] at hA hval
  obtain ⟨v0, vs0, d0, ds0, p0, q0, hargs, rfl, rfl, h0, r0⟩ := trodAll_cons hA
  obtain ⟨v1, vs1, d1, ds1, p1, q1, rfl, rfl, rfl, h1, r1⟩ := trodAll_cons r0
  obtain ⟨v2, vs2, d2, ds2, p2, q2, rfl, rfl, rfl, h2, r2⟩ := trodAll_cons r1
  obtain ⟨v3, vs3, d3, ds3, p3, q3, rfl, rfl, rfl, h3, r3⟩ := trodAll_cons r2
  obtain ⟨rfl, rfl, rfl⟩ := trodAll_nil r3
  obtain rfl : args = #[v0, v1, v2, v3] := by cases args; simp_all
  obtain ⟨rfl, rfl⟩ := trodVars_none hV
  obtain ⟨E0, l0, rfl, z0, s0⟩ := vecs_arg (hval 0 63 v0 rfl rfl) h0
  obtain ⟨a1, b1, c1, e1, rfl, rfl, rfl, w1, u1⟩ := vecT.arg (hval 1 25 v1 rfl rfl) h1
  obtain ⟨a2, b2, c2, e2, rfl, rfl, rfl, w2, u2⟩ := vecT.arg (hval 2 25 v2 rfl rfl) h2
  obtain ⟨a3, b3, rfl, rfl, rfl, w3⟩ := numT.arg (hval 3 23 v3 rfl rfl) h3
  clear hA0 hval0 hval hA
  simp only [List.append_nil] at hW' hA1
  refine (walk E0 l0 a1 b1 c1 e1 a2 b2 c2 e2 a3 b3 w1 u1 w2 u2 w3 W z0 s0).mono fun e W' ⟨he, hg⟩ => ?_
  subst he
  have hlt := hW'.lt
  exact ⟨_, rfl, Go.AbsK.post_below (pa := _) (pv := []) hW' (fun _ _ _ => (trodAll_cons_mk (shut_bool Try.underlying4 _) trodAll_mk0)) (fun sp hsp => trodAll_again tKids tFull hg (by rw [Try.params12]; decide) hA1 hlt hsp) (fun _ _ => rfl) (List.append_nil _).symm
    hg (ok_one (by kernel_rfl) rfl (okWide_bool_mk Try.underlying4 _))⟩
theorem over : Rows.planeVectorsRow.holds Try.pinned (OpenSpec.ofChange Rows.planeVectorsSpec) :=
  OpenClaim.holds_of_wide 12 Try.f12 rfl rfl rfl rfl rfl rfl rfl ⟨rfl, rfl, rfl, rfl, rfl⟩ rfl rfl rfl rfl rfl (by kernel_rfl) Try.func12 (by kernel_rfl)
    (of_decide_eq_true (by kernel_rfl)) (by unfold Func.isWrapper; first | (rw [if_pos (by decide +kernel)]; kernel_rfl) | (rw [if_neg (by decide +kernel)]; exact ⟨rfl, rfl⟩))
    (fun os started H enc _ => lifted os started H enc)
theorem proved : Rows.PlaneVectorsSaid :=
  over
#print axioms proved
end Go.Proofs.Ytcbgfjidamoilaa.planeVectors

