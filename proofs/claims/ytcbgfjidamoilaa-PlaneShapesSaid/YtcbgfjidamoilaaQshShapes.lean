/- PlaneShapes answers true: the statement's one call returns true and writes nothing that was there. Conditions: those of the given row, no others. -/
import Derived.Test.YtcbgfjidamoilaaRows
import Derived.WalkKit
import Derived.ProofKit
import Derived.OpenShut
import Derived.Test.YtcbgfjidamoilaaQshFin
import Derived.Test.YtcbgfjidamoilaaQshFns4
import Derived.Test.YtcbgfjidamoilaaQshOpen3
import Derived.Test.YtcbgfjidamoilaaQshM24
namespace Go.Proofs.Ytcbgfjidamoilaa.planeShapes
open Go.ChangeShapes Go.WideShapes Go.ChangeAt Go.RowKit Go.AbsK Go.Bag
set_option linter.unusedVariables false

theorem own : ownKnob Try.prog.godebug = none := by kernel_rfl
theorem walk (a0 : Int) (b0 : Int) (c0 : Int) (e0 : Int) (E0 : Addr × Nat) (l0 : List Spot) (a1 : Int) (b1 : Int) (c1 : Int) (e1 : Int) (E1 : Addr × Nat) (l1 : List Spot)  (w : World) (k0 : I64 a0 ∧ I64 b0 ∧ I64 c0 ∧ I64 e0) (z0 : ∀ x ∈ l0, SpOK x) (s0 : SlOK w E0 (2, rowsOf rSpot l0)) (k1 : I64 a1 ∧ I64 b1 ∧ I64 c1 ∧ I64 e1) (z1 : ∀ x ∈ l1, SpOK x) (s1 : SlOK w E1 (2, rowsOf rSpot l1)) : Calls Try.prog 13 #[.agg #[.int .i64 a0, .int .i64 b0, .int .i64 c0, .int .i64 e0, Cell.conc (fun _ => E0) (.slc (0, 0) 0 2 l0.length none)], .agg #[.int .i64 a1, .int .i64 b1, .int .i64 c1, .int .i64 e1, Cell.conc (fun _ => E1) (.slc (0, 0) 0 2 l1.length none)]] w fun e w' => e = .returned (.bool true) ∧ Below w.heap.size w w' := by
  exact Go.AbsK.law_slices (args := [.agg [.i .i64 a0, .i .i64 b0, .i .i64 c0, .i .i64 e0, .slc (0, 0) 0 2 l0.length none], .agg [.i .i64 a1, .i .i64 b1, .i .i64 c1, .i .i64 e1, .slc (1, 0) 0 2 l1.length none]]) (p := Go.AbsK.tplP (ta_law02_PlaneShapes ⟨a0, b0, c0, e0, l0⟩ ⟨a1, b1, c1, e1, l1⟩ none none) (tb_law02_PlaneShapes ⟨a0, b0, c0, e0, l0⟩ ⟨a1, b1, c1, e1, l1⟩) (Go.Bag.P_law02_PlaneShapes ⟨a0, b0, c0, e0, l0⟩ ⟨a1, b1, c1, e1, l1⟩ ∧ true = Go.Bag.law02_PlaneShapes ⟨a0, b0, c0, e0, l0⟩ ⟨a1, b1, c1, e1, l1⟩) [.agg [.i .i64 a0, .i .i64 b0, .i .i64 c0, .i .i64 e0, .slc (0, 0) 0 2 l0.length none], .agg [.i .i64 a1, .i .i64 b1, .i .i64 c1, .i .i64 e1, .slc (1, 0) 0 2 l1.length none]] (([(E0, (2, rowsOf rSpot l0)), (E1, (2, rowsOf rSpot l1))] : List ((Addr × Nat) × (Nat × List (List AbsK.Cell)))).map (fun q => tblk q.2)))
    Try.func13 (by kernel_rfl) rfl (ok_law02_PlaneShapes ⟨a0, b0, c0, e0, l0⟩ ⟨a1, b1, c1, e1, l1⟩ none none true) [(E0, (2, rowsOf rSpot l0)), (E1, (2, rowsOf rSpot l1))] (by intro q hq; simp only [List.mem_cons, List.not_mem_nil, or_false] at hq; rcases hq with rfl | rfl <;> assumption) rfl ⟨rfl, rfl, Go.Bag.shapes_true, rfl⟩ rfl rfl rfl
set_option maxRecDepth 100000 in
theorem lifted (os : Os) (started : os.Started) (H : Type) (enc : TypeId × Value → H) :
    ReturnsInHanded {} Try.checked os 13 .any (Rows.planeShapesSpec.pre6 enc Try.prog Try.f13 Rows.planeShapesRow.domain false) (Rows.planeShapesSpec.post enc Try.prog Try.f13 false true false false) := by
  refine returnsInHanded_of_change (C := Try.checked) own started (by kernel_rfl) Try.func13
    (ChangeSpec.witness6 (enc := enc) (C := Try.checked) false ⟨#[], #[.agg #[.int .i64 0, .int .i64 0, .int .i64 0, .int .i64 0, .slice none 0 0], .agg #[.int .i64 0, .int .i64 0, .int .i64 0, .int .i64 0, .slice none 0 0]], []⟩ 8 (by kernel_rfl) (by kernel_rfl) (by kernel_rfl) (by kernel_rfl)) ?_
  intro W base args ds gs before hval0 hW hcnd _
  have hval : ∀ (j : Nat) t v, Try.f13.params[j]? = some t → args[j]? = some v → Value.okWide Try.prog W .any base t v := hval0
  have hW' := hW
  obtain ⟨p, q, hA0, hV, rfl, hfz, hnd⟩ := hW
  have hA : DataW.TrodAll enc Try.prog W 0 (fun _ => true) true Try.f13.params.toList args.toList ds p := hA0
  have hA1 := hA
  rw [Try.params13] at hA hval
  obtain ⟨v0, vs0, d0, ds0, p0, q0, hargs, rfl, rfl, h0, r0⟩ := trodAll_cons hA
  obtain ⟨v1, vs1, d1, ds1, p1, q1, rfl, rfl, rfl, h1, r1⟩ := trodAll_cons r0
  obtain ⟨rfl, rfl, rfl⟩ := trodAll_nil r1
  obtain rfl : args = #[v0, v1] := by cases args; simp_all
  obtain ⟨rfl, rfl⟩ := trodVars_none hV
  obtain ⟨a0, b0, c0, e0, E0, l0, rfl, k0, z0, s0⟩ := shape_arg (hval 0 32 v0 rfl rfl) h0
  obtain ⟨a1, b1, c1, e1, E1, l1, rfl, k1, z1, s1⟩ := shape_arg (hval 1 32 v1 rfl rfl) h1
  clear hA0 hval0 hval hA
  simp only [List.append_nil] at hW' hA1
  refine (walk a0 b0 c0 e0 E0 l0 a1 b1 c1 e1 E1 l1 W k0 z0 s0 k1 z1 s1).mono fun e W' ⟨he, hg⟩ => ?_
  subst he
  have hlt := hW'.lt
  exact ⟨_, rfl, Go.AbsK.post_below (pa := _) (pv := []) hW' (fun _ _ _ => (trodAll_cons_mk (shut_bool Try.underlying4 _) trodAll_mk0)) (fun sp hsp => trodAll_again tKids tFull hg (by rw [Try.params13]; decide) hA1 hlt hsp) (fun _ _ => rfl) (List.append_nil _).symm
    hg (ok_one (by kernel_rfl) rfl (okWide_bool_mk Try.underlying4 _))⟩
theorem over : Rows.planeShapesRow.holds Try.pinned (OpenSpec.ofChange Rows.planeShapesSpec) :=
  OpenClaim.holds_of_wide 13 Try.f13 rfl rfl rfl rfl rfl rfl rfl ⟨rfl, rfl, rfl, rfl, rfl⟩ rfl rfl rfl rfl rfl (by kernel_rfl) Try.func13 (by kernel_rfl)
    (of_decide_eq_true (by kernel_rfl)) (by unfold Func.isWrapper; first | (rw [if_pos (by decide +kernel)]; kernel_rfl) | (rw [if_neg (by decide +kernel)]; exact ⟨rfl, rfl⟩))
    (fun os started H enc _ => lifted os started H enc)
theorem proved : Rows.PlaneShapesSaid :=
  over
#print axioms proved
end Go.Proofs.Ytcbgfjidamoilaa.planeShapes

