/- Shapes, lists of spots, vectors and numbers among a law's arguments. -/
import Derived.Test.YtcbgfjidamoilaaQshOpen2
import Derived.Test.YtcbgfjidamoilaaQshM1
set_option linter.unusedVariables false
namespace Go.Proofs.Ytcbgfjidamoilaa
open Go Go.AbsK Go.Bag Go.RowKit Go.ChangeShapes Go.WideShapes Go.ChangeAt

theorem tKids : Kids Try.prog (· < Try.prog.types.size) := kids_rows (by kernel_rfl) (by kernel_rfl)
theorem tFull : ∀ t e, t < Try.prog.types.size → Try.prog.underlying t = some (.slice e) → 0 < Try.prog.cellsOf e := slices_full_of Try.prog (by kernel_rfl)
theorem cells48 : Try.prog.cellsOf 48 = 2 := by kernel_rfl
theorem cells2 : Try.prog.cellsOf 2 = 1 := by kernel_rfl
theorem cells3 : Try.prog.cellsOf 3 = 1 := by kernel_rfl
theorem cells30 : Try.prog.cellsOf 30 = 1 := by kernel_rfl
theorem cells32 : Try.prog.cellsOf 32 = 5 := by kernel_rfl
def SpOK (s : Spot) : Prop := I64 s.X ∧ I64 s.Y
section
variable {H : Type} {enc : TypeId × Value → H} {w : World}
theorem rd_spot : ∀ n cs' y, DataW.trod enc Try.prog w 0 (fun _ => true) true n 48 cs' = some y → ∃ v : Spot, cs' = (rowOf (rSpot.enc v)).map (Cell.conc (fun _ => default)) ∧ SpOK v := by
  intro n cs' y h
  obtain ⟨y0, y1, m, rfl, hl, h0, h1⟩ := trod_struct2 Try.underlying48 h
  simp only [cells2] at h0 h1
  rw [cells48] at hl
  match cs', hl with
  | [c0, c1], _ =>
    obtain ⟨a, e0, -, wa⟩ := DataW.trod_int Try.underlying2 h0
    obtain ⟨b, e1, -, wb⟩ := DataW.trod_int Try.underlying2 h1
    simp at e0 e1
    subst e0 e1
    exact ⟨⟨a, b⟩, rfl, i64_wf wa, i64_wf wb⟩
/-- An argument that is a shape. -/
theorem shape_arg0 {P : Program} {ts tk ti tl : TypeId} {f0 f1 f2 f3 f4 : Field} (hs : P.underlying ts = some (.struct #[f0, f1, f2, f3, f4])) (k0 : f0.type = tk ∧ f0.offset = 0) (k1 : f1.type = ti ∧ f1.offset = 1) (k2 : f2.type = ti ∧ f2.offset = 2)
    (k3 : f3.type = ti ∧ f3.offset = 3) (k4 : f4.type = tl ∧ f4.offset = 4) (hk : P.underlying tk = some (.int .i64)) (hi : P.underlying ti = some (.int .i64)) {te : TypeId} (hl : P.underlying tl = some (.slice te))
    (ck : P.cellsOf tk = 1) (ci : P.cellsOf ti = 1) (cl : P.cellsOf tl = 1) (cs : P.cellsOf ts = 5) (ce : P.cellsOf te = 2) (hts' : P.cellTypes P.depth ts = some [tk, ti, ti, ti, tl])
    (hA : ∀ n cs' y, DataW.trod enc P w 0 (fun _ => true) true n te cs' = some y → ∃ v : Spot, cs' = (rowOf (rSpot.enc v)).map (Cell.conc (fun _ => default)) ∧ SpOK v)
    {r : Reach} {b0 : Nat} {v : Value} {d : DataW H} {ps : List MemPlace} (hval : Value.okWide P w r b0 ts v) (hd : DataW.Trod enc P w 0 (fun _ => true) true ts v d ps) :
    ∃ (k a b c : Int) (E : Addr × Nat) (l : List Spot), v = .agg #[.int .i64 k, .int .i64 a, .int .i64 b, .int .i64 c, Cell.conc (fun _ => E) (.slc (0, 0) 0 2 l.length none)] ∧
      (I64 k ∧ I64 a ∧ I64 b ∧ I64 c) ∧ (∀ x ∈ l, SpOK x) ∧ SlOK w E (2, rowsOf rSpot l) := by
  obtain ⟨cs0, rfl, hsz⟩ := okWide_struct hs hval
  obtain ⟨fuel, hf⟩ := hd
  obtain ⟨l0⟩ := cs0
  replace hf : DataW.trod enc P w 0 (fun _ => true) true fuel ts l0 = some (d, ps) := hf
  obtain ⟨xs, n, -, -, hlen, hxs, hget⟩ := DataW.trod_struct hs hf
  rw [cs] at hlen
  match l0, hlen with
  | [c0, c1, c2, c3, c4], _ =>
    have g0 := hget 0 f0 rfl
    have g1 := hget 1 f1 rfl
    have g2 := hget 2 f2 rfl
    have g3 := hget 3 f3 rfl
    have g4 := hget 4 f4 rfl
    have hx5 : xs.length = 5 := hxs
    match xs, hx5 with
    | [x0, x1, x2, x3, x4], _ =>
      rw [k0.1, k0.2, ck] at g0
      rw [k1.1, k1.2, ci] at g1
      rw [k2.1, k2.2, ci] at g2
      rw [k3.1, k3.2, ci] at g3
      rw [k4.1, k4.2, cl] at g4
      obtain ⟨k, e0, -, w0⟩ := DataW.trod_int hk g0
      obtain ⟨a, e1, -, w1⟩ := DataW.trod_int hi g1
      obtain ⟨b, e2, -, w2⟩ := DataW.trod_int hi g2
      obtain ⟨c, e3, -, w3⟩ := DataW.trod_int hi g3
      simp at e0 e1 e2 e3
      subst e0 e1 e2 e3
      have hcell : Go.Cell.okWide P w r b0 tl c4 := by
        unfold Value.okWide at hval
        rw [hs] at hval
        obtain ⟨cs1, he, -, hrow⟩ := hval
        obtain rfl := Value.agg.inj he
        obtain ⟨ts, hts, -, hall⟩ := hrow
        rw [hts'] at hts
        obtain rfl := Option.some.inj hts
        obtain ⟨u, hu, hc⟩ := hall 4 c4 rfl
        have : u = tl := by
          have hu' : some tl = some u := hu
          exact (Option.some.inj hu').symm
        rw [this] at hc
        exact hc
      obtain ⟨E, l, h1, h2, h3⟩ := open_list rSpot SpOK hA hl ce (fun q len cap he => by
        have he' : c4 = .slice (some q) len cap := by simpa using he
        exact spot_of_okWide hl hcell he') g4
      have h1' : c4 = Cell.conc (fun _ => E) (.slc (0, 0) 0 2 l.length none) := by
        have h1'' : [c4] = [Cell.conc (fun _ => E) (.slc (0, 0) 0 2 l.length none)] := h1
        exact List.head_eq_of_cons_eq h1''
      subst h1'
      exact ⟨k, a, b, c, E, l, rfl, ⟨i64_wf w0, i64_wf w1, i64_wf w2, i64_wf w3⟩, h2, h3⟩
theorem types32 : Try.prog.cellTypes Try.prog.depth 32 = some [3, 2, 2, 2, 30] := by kernel_rfl
set_option maxRecDepth 100000 in
theorem shape_arg {r : Reach} {b0 : Nat} {v : Value} {d : DataW H} {ps : List MemPlace} (hval : Value.okWide Try.prog w r b0 32 v) (hd : DataW.Trod enc Try.prog w 0 (fun _ => true) true 32 v d ps) :
    ∃ (k a b c : Int) (E : Addr × Nat) (l : List Spot), v = .agg #[.int .i64 k, .int .i64 a, .int .i64 b, .int .i64 c, Cell.conc (fun _ => E) (.slc (0, 0) 0 2 l.length none)] ∧
      (I64 k ∧ I64 a ∧ I64 b ∧ I64 c) ∧ (∀ x ∈ l, SpOK x) ∧ SlOK w E (2, rowsOf rSpot l) :=
  shape_arg0 Try.underlying32 ⟨rfl, rfl⟩ ⟨rfl, rfl⟩ ⟨rfl, rfl⟩ ⟨rfl, rfl⟩ ⟨rfl, rfl⟩ Try.underlying3 Try.underlying2 Try.underlying30 cells3 cells2 cells30 cells32 cells48 types32 rd_spot hval hd
end
end Go.Proofs.Ytcbgfjidamoilaa

