/- Shapes, lists of spots, vectors and numbers among a law's arguments. -/
import Derived.Test.YtcbgfjidamoilaaQtuOpen2
import Derived.Test.YtcbgfjidamoilaaQtuM1
set_option linter.unusedVariables false
namespace Go.Proofs.Ytcbgfjidamoilaa
open Go Go.AbsK Go.Bag Go.RowKit Go.ChangeShapes Go.WideShapes Go.ChangeAt

theorem tKids : Kids Try.prog (· < Try.prog.types.size) := kids_rows (by kernel_rfl) (by kernel_rfl)
theorem tFull : ∀ t e, t < Try.prog.types.size → Try.prog.underlying t = some (.slice e) → 0 < Try.prog.cellsOf e := slices_full_of Try.prog (by kernel_rfl)
theorem cells2 : Try.prog.cellsOf 2 = 1 := by kernel_rfl
section
variable {H : Type} {enc : TypeId × Value → H} {w : World}
theorem rd_int : ∀ n cs' y, DataW.trod enc Try.prog w 0 (fun _ => true) true n 2 cs' = some y → ∃ v : Int, cs' = (rowOf ((rI .i64).enc v)).map (Cell.conc (fun _ => default)) ∧ I64 v := by
  intro n cs' y h
  obtain ⟨a, rfl, -, wa⟩ := DataW.trod_int Try.underlying2 h
  exact ⟨a, rfl, i64_wf wa⟩
/-- An argument that is a slice. -/
theorem list_arg {P : Program} {α : Type} (A : AbsK.Row α) (wf : α → Prop) {t e : TypeId} (hA : ∀ n cs' y, DataW.trod enc P w 0 (fun _ => true) true n e cs' = some y → ∃ v, cs' = (rowOf (A.enc v)).map (Cell.conc (fun _ => default)) ∧ wf v)
    (ht : P.underlying t = some (.slice e)) (hc : P.cellsOf e = A.w) {r : Reach} {b0 : Nat} {v : Value} {d : DataW H} {ps : List MemPlace} (hval : Value.okWide P w r b0 t v)
    (hd : DataW.Trod enc P w 0 (fun _ => true) true t v d ps) :
    ∃ (E : Addr × Nat) (l : List α), v = Cell.conc (fun _ => E) (.slc (0, 0) 0 A.w l.length none) ∧ (∀ x ∈ l, wf x) ∧ SlOK w E (A.w, rowsOf A l) := by
  obtain ⟨fuel, hf⟩ := hd
  have hcell : Go.Cell.okWide P w r b0 t v := by
    unfold Value.okWide at hval
    rw [ht] at hval
    exact hval
  have hcs : v.cells.toList = [v] := by
    unfold Go.Cell.okWide at hcell
    rw [ht] at hcell
    unfold Go.Cell.ok at hcell
    rw [ht] at hcell
    cases v <;> first | rfl | exact hcell.elim
  rw [hcs] at hf
  obtain ⟨E, l, h1, h2, h3⟩ := open_list A wf hA ht hc (fun a len cap he => by
    simp only [List.cons.injEq, and_true] at he
    exact spot_of_okWide ht hcell he) hf
  simp only [List.cons.injEq, and_true] at h1
  exact ⟨E, l, h1, h2, h3⟩
set_option maxRecDepth 100000 in
theorem ints_arg {r : Reach} {b0 : Nat} {v : Value} {d : DataW H} {ps : List MemPlace} (hval : Value.okWide Try.prog w r b0 62 v) (hd : DataW.Trod enc Try.prog w 0 (fun _ => true) true 62 v d ps) :
    ∃ (E : Addr × Nat) (l : List Int), v = Cell.conc (fun _ => E) (.slc (0, 0) 0 1 l.length none) ∧ (∀ x ∈ l, I64 x) ∧ SlOK w E (1, rowsOf (rI .i64) l) :=
  list_arg (rI .i64) I64 rd_int Try.underlying62 cells2 hval hd
end
end Go.Proofs.Ytcbgfjidamoilaa

