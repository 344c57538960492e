/- PlaneSums answers true: the statement's one call returns true and writes nothing that was there. Conditions: those of the given row, no others. -/
import Derived.Test.YtcbgfjidamoilaaRows
import Derived.WalkKit
import Derived.ProofKit
import Derived.OpenShut
import Derived.Test.YtcbgfjidamoilaaQsuFin
import Derived.Test.YtcbgfjidamoilaaQsuFns2
import Derived.Test.YtcbgfjidamoilaaQsuOpen3
import Derived.Test.YtcbgfjidamoilaaQsuM18
namespace Go.Proofs.Ytcbgfjidamoilaa.planeSums
open Go.ChangeShapes Go.WideShapes Go.ChangeAt Go.RowKit Go.AbsK Go.Bag
set_option linter.unusedVariables false

theorem own : ownKnob Try.prog.godebug = none := by kernel_rfl
theorem walk (E0 : Addr × Nat) (l0 : List Int)  (w : World) (z0 : ∀ x ∈ l0, I64 x) (s0 : SlOK w E0 (1, rowsOf (rI .i64) l0)) : Calls Try.prog 10 #[Cell.conc (fun _ => E0) (.slc (0, 0) 0 1 l0.length none)] w fun e w' => e = .returned (.bool true) ∧ Below w.heap.size w w' := by
  exact Go.AbsK.law_slices (args := [.c (.slc (0, 0) 0 1 l0.length none)]) (p := Go.AbsK.tplP (ta_law02_PlaneSums l0 none) (tb_law02_PlaneSums l0) (Go.Bag.P_law02_PlaneSums l0 ∧ true = Go.Bag.law02_PlaneSums l0) [.c (.slc (0, 0) 0 1 l0.length none)] (([(E0, (1, rowsOf (rI .i64) l0))] : List ((Addr × Nat) × (Nat × List (List AbsK.Cell)))).map (fun q => tblk q.2)))
    Try.func10 (by kernel_rfl) rfl (ok_law02_PlaneSums l0 none true) [(E0, (1, rowsOf (rI .i64) l0))] (by intro q hq; simp only [List.mem_cons, List.not_mem_nil, or_false] at hq; rcases hq with rfl <;> assumption) rfl ⟨rfl, rfl, (Go.Bag.sums_true z0), rfl⟩ rfl rfl rfl
set_option maxRecDepth 100000 in
theorem lifted (os : Os) (started : os.Started) (H : Type) (enc : TypeId × Value → H) :
    ReturnsInHanded {} Try.checked os 10 .any (Rows.planeSumsSpec.pre6 enc Try.prog Try.f10 Rows.planeSumsRow.domain false) (Rows.planeSumsSpec.post enc Try.prog Try.f10 false true false false) := by
  refine returnsInHanded_of_change (C := Try.checked) own started (by kernel_rfl) Try.func10
    (ChangeSpec.witness6 (enc := enc) (C := Try.checked) false ⟨#[], #[.slice none 0 0], []⟩ 8 (by kernel_rfl) (by kernel_rfl) (by kernel_rfl) (by kernel_rfl)) ?_
  intro W base args ds gs before hval0 hW hcnd _
  have hval : ∀ (j : Nat) t v, Try.f10.params[j]? = some t → args[j]? = some v → Value.okWide Try.prog W .any base t v := hval0
  have hW' := hW
  obtain ⟨p, q, hA0, hV, rfl, hfz, hnd⟩ := hW
  have hA : DataW.TrodAll enc Try.prog W 0 (fun _ => true) true Try.f10.params.toList args.toList ds p := hA0
  have hA1 := hA
  rw [Try.params10] at hA hval
  obtain ⟨v0, vs0, d0, ds0, p0, q0, hargs, rfl, rfl, h0, r0⟩ := trodAll_cons hA
  obtain ⟨rfl, rfl, rfl⟩ := trodAll_nil r0
  obtain rfl : args = #[v0] := by cases args; simp_all
  obtain ⟨rfl, rfl⟩ := trodVars_none hV
  obtain ⟨E0, l0, rfl, z0, s0⟩ := ints_arg (hval 0 62 v0 rfl rfl) h0
  clear hA0 hval0 hval hA
  simp only [List.append_nil] at hW' hA1
  refine (walk E0 l0 W z0 s0).mono fun e W' ⟨he, hg⟩ => ?_
  subst he
  have hlt := hW'.lt
  exact ⟨_, rfl, Go.AbsK.post_below (pa := _) (pv := []) hW' (fun _ _ _ => (trodAll_cons_mk (shut_bool Try.underlying4 _) trodAll_mk0)) (fun sp hsp => trodAll_again tKids tFull hg (by rw [Try.params10]; decide) hA1 hlt hsp) (fun _ _ => rfl) (List.append_nil _).symm
    hg (ok_one (by kernel_rfl) rfl (okWide_bool_mk Try.underlying4 _))⟩
theorem over : Rows.planeSumsRow.holds Try.pinned (OpenSpec.ofChange Rows.planeSumsSpec) :=
  OpenClaim.holds_of_wide 10 Try.f10 rfl rfl rfl rfl rfl rfl rfl ⟨rfl, rfl, rfl, rfl, rfl⟩ rfl rfl rfl rfl rfl (by kernel_rfl) Try.func10 (by kernel_rfl)
    (of_decide_eq_true (by kernel_rfl)) (by unfold Func.isWrapper; first | (rw [if_pos (by decide +kernel)]; kernel_rfl) | (rw [if_neg (by decide +kernel)]; exact ⟨rfl, rfl⟩))
    (fun os started H enc _ => lifted os started H enc)
theorem proved : Rows.PlaneSumsSaid :=
  over
#print axioms proved
end Go.Proofs.Ytcbgfjidamoilaa.planeSums

