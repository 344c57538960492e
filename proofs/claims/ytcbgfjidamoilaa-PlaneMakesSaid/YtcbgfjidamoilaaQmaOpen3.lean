/- Shapes, lists of spots, vectors and numbers among a law's arguments. -/
import Derived.Test.YtcbgfjidamoilaaQmaOpen2
import Derived.Test.YtcbgfjidamoilaaQmaM1
set_option linter.unusedVariables false
namespace Go.Proofs.Ytcbgfjidamoilaa
open Go Go.AbsK Go.Bag Go.RowKit Go.ChangeShapes Go.WideShapes Go.ChangeAt

theorem tKids : Kids Try.prog (· < Try.prog.types.size) := kids_rows (by kernel_rfl) (by kernel_rfl)
theorem tFull : ∀ t e, t < Try.prog.types.size → Try.prog.underlying t = some (.slice e) → 0 < Try.prog.cellsOf e := slices_full_of Try.prog (by kernel_rfl)
theorem cells48 : Try.prog.cellsOf 48 = 2 := by kernel_rfl
theorem cells2 : Try.prog.cellsOf 2 = 1 := by kernel_rfl
def SpOK (s : Spot) : Prop := I64 s.X ∧ I64 s.Y
section
variable {H : Type} {enc : TypeId × Value → H} {w : World}
theorem rd_spot : ∀ n cs' y, DataW.trod enc Try.prog w 0 (fun _ => true) true n 48 cs' = some y → ∃ v : Spot, cs' = (rowOf (rSpot.enc v)).map (Cell.conc (fun _ => default)) ∧ SpOK v := by
  intro n cs' y h
  obtain ⟨y0, y1, m, rfl, hl, h0, h1⟩ := trod_struct2 Try.underlying48 h
  simp only [cells2] at h0 h1
  rw [cells48] at hl
  match cs', hl with
  | [c0, c1], _ =>
    obtain ⟨a, e0, -, wa⟩ := DataW.trod_int Try.underlying2 h0
    obtain ⟨b, e1, -, wb⟩ := DataW.trod_int Try.underlying2 h1
    simp at e0 e1
    subst e0 e1
    exact ⟨⟨a, b⟩, rfl, i64_wf wa, i64_wf wb⟩
/-- An argument that is a slice. -/
theorem list_arg {P : Program} {α : Type} (A : AbsK.Row α) (wf : α → Prop) {t e : TypeId} (hA : ∀ n cs' y, DataW.trod enc P w 0 (fun _ => true) true n e cs' = some y → ∃ v, cs' = (rowOf (A.enc v)).map (Cell.conc (fun _ => default)) ∧ wf v)
    (ht : P.underlying t = some (.slice e)) (hc : P.cellsOf e = A.w) {r : Reach} {b0 : Nat} {v : Value} {d : DataW H} {ps : List MemPlace} (hval : Value.okWide P w r b0 t v)
    (hd : DataW.Trod enc P w 0 (fun _ => true) true t v d ps) :
    ∃ (E : Addr × Nat) (l : List α), v = Cell.conc (fun _ => E) (.slc (0, 0) 0 A.w l.length none) ∧ (∀ x ∈ l, wf x) ∧ SlOK w E (A.w, rowsOf A l) := by
  obtain ⟨fuel, hf⟩ := hd
  have hcell : Go.Cell.okWide P w r b0 t v := by
    unfold Value.okWide at hval
    rw [ht] at hval
    exact hval
  have hcs : v.cells.toList = [v] := by
    unfold Go.Cell.okWide at hcell
    rw [ht] at hcell
    unfold Go.Cell.ok at hcell
    rw [ht] at hcell
    cases v <;> first | rfl | exact hcell.elim
  rw [hcs] at hf
  obtain ⟨E, l, h1, h2, h3⟩ := open_list A wf hA ht hc (fun a len cap he => by
    simp only [List.cons.injEq, and_true] at he
    exact spot_of_okWide ht hcell he) hf
  simp only [List.cons.injEq, and_true] at h1
  exact ⟨E, l, h1, h2, h3⟩
set_option maxRecDepth 100000 in
theorem spots_arg {r : Reach} {b0 : Nat} {v : Value} {d : DataW H} {ps : List MemPlace} (hval : Value.okWide Try.prog w r b0 30 v) (hd : DataW.Trod enc Try.prog w 0 (fun _ => true) true 30 v d ps) :
    ∃ (E : Addr × Nat) (l : List Spot), v = Cell.conc (fun _ => E) (.slc (0, 0) 0 2 l.length none) ∧ (∀ x ∈ l, SpOK x) ∧ SlOK w E (2, rowsOf rSpot l) :=
  list_arg rSpot SpOK rd_spot Try.underlying30 cells48 hval hd
end
end Go.Proofs.Ytcbgfjidamoilaa

