/- The polygon's corners as a range over a function sees them. -/
import Derived.Test.YtcbgfjidamoilaaGreatQroC
import Derived.Test.YtcbgfjidamoilaaGreatQroSpec
set_option linter.unusedVariables false
namespace Go.Proofs.YtcbgfjidamoilaaGreat
open Go.AbsK Go.RowKit Go.Proofs Go.Bag

/-- The corner that is handed over, cell by cell. -/
def itC (l : List Spot) (i : Nat) : List Cell :=
  [.i .i64 i, .i .i64 (sx l i), .i .i64 (sy l i), .i .i64 (sx l ((i + 1) % l.length)), .i .i64 (sy l ((i + 1) % l.length)), .i .i64 (sx l ((i + 2) % l.length)), .i .i64 (sy l ((i + 2) % l.length))]
def encC (l : List Spot) (i : Nat) : Value := cornerV (sx l) (sy l) l.length (i % l.length)
theorem itC_plain {l : List Spot} {i : Nat} : ∀ c ∈ itC l i, Go.AbsK.Cell.ok (fun _ => False) c := fun c hc => plainC_of (List.all_eq_true.1 (show (itC l i).all plainC = true from rfl) c hc)
theorem itC_row {l : List Spot} {i : Nat} : ∀ r ∈ [itC l i], ∀ c ∈ r, Go.AbsK.Cell.ok (fun _ => False) c := fun r hr c hc => by
  rw [List.mem_singleton.1 hr] at hc
  exact itC_plain c hc
/-- The box holds the slice, the slice's array the spots. -/
def OKc (l : List Spot) (cap : Option Nat) (jb jl : Nm) (νa : Env) (W : World) : Prop :=
  W.cell? (νa jb).1 = some ((Cell.slc jl 0 2 l.length cap).conc νa) ∧
  ∀ j, j < l.length → W.cell? ((νa jl).1.add (j * 2 + 0)) = some (.int .i64 (sx l j)) ∧ W.cell? ((νa jl).1.add (j * 2 + 1)) = some (.int .i64 (sy l j))
theorem add_zero' (A : Addr) : A.add 0 = A := by
  obtain ⟨b, o, s⟩ := A
  rfl
theorem add_off (B o j : Nat) : (⟨B, o, none⟩ : Addr).add j = ⟨B, o + j, none⟩ := by
  unfold Addr.add
  split
  · rename_i hj; subst hj; rfl
  · rfl
theorem okc_of {base : Nat} {w0 : Anch} {νa : Env} {h : Nm → Option Blk} {gen : Nat} {W : World} (hR : HRel base w0 νa h gen W) {l : List Spot} {cap : Option Nat} {jb jl : Nm} {tyb tyl : TypeId} {ob ol : Bool} {cb cl : Option Nat}
    (h1 : h jb = some ⟨[[.slc jl 0 2 l.length cap]], 1, tyb, ob, cb⟩) (h2 : h jl = some ⟨rowsOf rSpot l, 2, tyl, ol, cl⟩) : OKc l cap jb jl νa W := by
  refine ⟨?_, fun j hj => ?_⟩
  · have := ((hR.heap _ _ h1).read 0 _ 0 _ rfl rfl).2.1
    simpa [add_zero'] using this
  · have hr : (rowsOf rSpot l)[j]? = some [.i .i64 (sx l j), .i .i64 (sy l j)] := by
      unfold rowsOf
      rw [List.getElem?_map, List.getElem?_eq_getElem hj]
      unfold sx sy
      rw [List.getD_eq_getElem?_getD, List.getElem?_eq_getElem hj]
      rfl
    exact ⟨((hR.heap _ _ h2).read j _ 0 _ hr rfl).2.1, ((hR.heap _ _ h2).read j _ 1 _ hr rfl).2.1⟩
theorem okc_turn {l : List Spot} {cap : Option Nat} {jb jl : Nm} (νa : Env) (W : World) (b : Nat) (o o' : Obj) (h : OKc l cap jb jl νa W) (h1 : W.heap[b]? = some o) (h2 : o.isCells = false) : OKc l cap jb jl νa (W.putObj b o') := by
  have hg := grownBy_putObj' W b o'
  have hr : ∀ r, some b = some r → ∃ o : Obj, W.heap[r]? = some o ∧ o.isCells = false := fun r e => by cases e; exact ⟨o, h1, h2⟩
  exact ⟨cell_kept h.1 hg hr, fun j hj => ⟨cell_kept (h.2 j hj).1 hg hr, cell_kept (h.2 j hj).2 hg hr⟩⟩
theorem corners_seq {base : Nat} {w0 : Anch} {νa : Env} {h : Nm → Option Blk} {gen : Nat} {W : World} (hR : HRel base w0 νa h gen W) {l : List Spot} {cap : Option Nat} {jb jl : Nm} {tyb tyl : TypeId} {ol : Bool} {cb cl : Option Nat}
    (h1 : h jb = some ⟨[[.slc jl 0 2 l.length cap]], 1, tyb, true, cb⟩) (h2 : h jl = some ⟨rowsOf rSpot l, 2, tyl, ol, cl⟩) (hl1 : l.length ≤ 1000) :
    SeqStopsK Fence.wide 2 Tryz.prog 116 (concs νa [.ptr jb 0 1 0]) (fun i => #[encC l i]) (fun A B => OKc l cap jb jl νa A → OKc l cap jb jl νa B)
      (fun xs => xs = List.range l.length) (fun pre => ∃ k, k < l.length ∧ pre = List.range (k + 1)) l.length W := by
  intro lb J Jx W' hb hJ hJx hY h0
  have hbs : (νa jb).1.spot = none := by
    cases hs : (νa jb).1.spot with
    | none => rfl
    | some s =>
      have := ((hR.heap _ _ h1).nil (by rw [hs]; simp)).1
      cases this
  have hbo : (νa jb).1.off = 0 := ((hR.heap _ _ h1).own rfl hbs).1
  have hA : (νa jb).1 = ⟨(νa jb).1.block, 0, none⟩ := by
    generalize (νa jb).1 = A at hbs hbo
    obtain ⟨b, o, s⟩ := A
    simp only at hbs hbo
    subst hbs hbo
    rfl
  obtain ⟨sa, hsa, hslc, hB⟩ : ∃ sa : Option Addr, (sa = some ⟨(νa jl).1.block, (νa jl).1.off, none⟩ ∨ l.length = 0) ∧ (Cell.slc jl 0 2 l.length cap).conc νa = .slice sa l.length (cap.getD (νa jl).2) ∧ (0 < l.length → (νa jl).1 = ⟨(νa jl).1.block, (νa jl).1.off, none⟩) := by
    cases hs : (νa jl).1.spot with
    | none =>
      have hB : (νa jl).1 = ⟨(νa jl).1.block, (νa jl).1.off, none⟩ := by
        generalize (νa jl).1 = A at hs
        obtain ⟨b, o, s⟩ := A
        simp only at hs
        subst hs
        rfl
      refine ⟨_, .inl rfl, ?_, fun _ => hB⟩
      show Value.slice (if (νa jl).1.spot.isSome then none else some ((νa jl).1.add (0 * 2))) l.length (cap.getD (νa jl).2) = _
      rw [hs, Nat.zero_mul, add_zero']
      rw [← hB]
      rfl
    | some s =>
      have := ((hR.heap _ _ h2).nil (by rw [hs]; simp)).1
      replace this : rowsOf rSpot l = [] := this
      unfold rowsOf at this
      rw [List.map_eq_nil_iff] at this
      refine ⟨none, .inr (by rw [this]; rfl), ?_, fun h => by rw [this] at h; cases h⟩
      show Value.slice (if (νa jl).1.spot.isSome then none else some ((νa jl).1.add (0 * 2))) l.length (cap.getD (νa jl).2) = _
      rw [hs]
      rfl
  have hOK : ∀ V, OKc l cap jb jl νa V ↔ (V.cell? ⟨(νa jb).1.block, 0, none⟩ = some (.slice sa l.length (cap.getD (νa jl).2)) ∧ ∀ j, j < l.length → V.cell? ⟨(νa jl).1.block, (νa jl).1.off + j * 2, none⟩ = some (.int .i64 (sx l j)) ∧ V.cell? ⟨(νa jl).1.block, (νa jl).1.off + j * 2 + 1, none⟩ = some (.int .i64 (sy l j))) := by
    intro V
    unfold OKc
    rw [hslc, hA]
    have e1 : ∀ j, j < l.length → (νa jl).1.add (j * 2 + 0) = ⟨(νa jl).1.block, (νa jl).1.off + j * 2, none⟩ := by
      intro j hj
      rw [hB (by omega), add_off]
      rfl
    have e2 : ∀ j, j < l.length → (νa jl).1.add (j * 2 + 1) = ⟨(νa jl).1.block, (νa jl).1.off + j * 2 + 1, none⟩ := by
      intro j hj
      rw [hB (by omega), add_off]
      rfl
    exact ⟨fun h => ⟨h.1, fun j hj => by rw [← e1 j hj, ← e2 j hj]; exact h.2 j hj⟩, fun h => ⟨h.1, fun j hj => by rw [e1 j hj, e2 j hj]; exact h.2 j hj⟩⟩
  have hW := okc_of hR h1 h2
  have hW' : OKc l cap jb jl νa W' := by
    obtain ⟨g1, g2⟩ := (hOK W).1 hW
    exact (hOK W').2 ⟨(hb.cell (World.block_lt_of_cell? W _ g1)).trans g1, fun j hj => ⟨(hb.cell (World.block_lt_of_cell? W _ (g2 j hj).1)).trans (g2 j hj).1, (hb.cell (World.block_lt_of_cell? W _ (g2 j hj).2)).trans (g2 j hj).2⟩⟩
  have hcap : (#[.func (.yield lb) #[] #[]] ++ concs νa [.ptr jb 0 1 0] : Array Value) = #[.func (.yield lb) #[] #[], .pointer (some ⟨(νa jb).1.block, 0, none⟩)] := by
    show (#[.func (.yield lb) #[] #[], .pointer (some ((νa jb).1.add (0 * 1 + 0)))] : Array Value) = _
    rw [show (0 * 1 + 0 : Nat) = 0 from rfl, add_zero', ← hA]
  rw [hcap]
  have := corners1_in 2 (by omega) lb (νa jb).1.block (νa jl).1.block (νa jl).1.off l.length (cap.getD (νa jl).2) sa hsa (sx l) (sy l) hl1 J Jx (OKc l cap jb jl νa) hOK
    (fun s V V' hs hbl => hJ s V V' none hs ⟨hbl.os, hbl.tape, hbl.output, hbl.size, fun k hk _ => hbl.block k hk⟩ (fun r e => by cases e)) (fun pre x V hx hv hp => (by have := hY pre x V hv hp; have e : encC l x = cornerV (sx l) (sy l) l.length x := (by unfold encC; rw [Nat.mod_eq_of_lt hx]); simp only [e] at this; exact this)) W' hW' h0
  exact this
theorem enter_of {P : Program} {f : FuncId} {fn : Func} {c : Code} (hf : P.funcs[f]? = some fn) (hname : (fn.name == "runtime.NumGoroutine") = false) (hb : fn.body = some c) (args : Array Value) (w : World) : (callFunc f args).run P w = .ok (.enter f args) w := by
  have h1 : ¬ fn.name = "runtime.NumGoroutine" := by simpa using hname
  simp [callFunc, hf, h1, hb]
theorem enter116 : ∀ args w, (callFunc 116 args).run Tryz.prog w = .ok (.enter 116 args) w := fun args w => enter_of Tryz.func116 (by kernel_rfl) rfl args w
def o_plane_corners (l : List Spot) (c0 : Option Nat) : POfn := tplON [.c (.slc (0, 0) 0 2 l.length c0)] [(2, rowsOf rSpot l)] True (.fn 116 [.ptr (900, 1) 0 1 0]) [((900, 1), ⟨[[.slc (0, 0) 0 2 l.length c0]], 1, 26, true, some 1⟩)]
theorem ok_plane_corners (l : List Spot) (c0 : Option Nat) : FOK Tryz.prog 73 (o_plane_corners l c0) := by
  unfold o_plane_corners
  refine fok_tplN (g := 1000) (fn := Tryz.f73) (c := Tryz.f73.body.getD .skip) tabOK eqOK follows ⟨Tryz.func73, by kernel_rfl, by kernel_rfl, by kernel_rfl, Nat.le_of_ble_eq_true (by kernel_rfl)⟩ (by kernel_rfl) (by intro q hq; simp only [List.mem_cons, List.not_mem_nil, or_false] at hq; rcases hq with rfl; exact rowsOf_plain _ _) (by intro q hq r hr c hc; simp only [List.mem_cons, List.not_mem_nil, or_false] at hq; subst hq; simp only [List.mem_cons, List.not_mem_nil, or_false] at hr; subst hr; simp only [List.mem_cons, List.not_mem_nil, or_false] at hc; subst hc; exact .inl ⟨rfl, Nat.zero_lt_one⟩) ?_
  intro _
  exact of_runG (rl := [((900, 1), some (1, 1))]) (ds := []) (B := ((((True ∧ True) ∧ (.fn 116 [.ptr (1, 1) 0 1 0] : AV) = .fn 116 [.ptr (1, 1) 0 1 0]) ∧ True) ∧ (HG (rnOf [((900, 1), some (1, 1))]) (900, 1) ⟨[[.slc (0, 0) 0 2 l.length c0]], 1, 26, true, some 1⟩ (some ⟨[[.slc (0, 0) 0 2 l.length c0]], 1, 26, true, some 1⟩) ∧ HG (rnOf [((900, 1), some (1, 1))]) (0, 0) ⟨rowsOf rSpot l, 2, 0, false, none⟩ (some ⟨rowsOf rSpot l, 2, 0, false, none⟩) ∧ True) ∧ 1 = 1 ∧ (((rnOf [((900, 1), some (1, 1))]) (0, 0) = some (0, 0) ∧ true = true) ∧ True) ∧ injB (rnOf [((900, 1), some (1, 1))]) [((900, 1), ⟨[[.slc (0, 0) 0 2 l.length c0]], 1, 26, true, some 1⟩), ((0, 0), ⟨rowsOf rSpot l, 2, 0, false, none⟩)] = true ∧ closL [(0, .fn 116 [.ptr (900, 1) 0 1 0])] [((900, 1), ⟨[[.slc (0, 0) 0 2 l.length c0]], 1, 26, true, some 1⟩), ((0, 0), ⟨rowsOf rSpot l, 2, 0, false, none⟩)] 1000 1)) (by kernel_rfl) ⟨⟨⟨⟨trivial, trivial⟩, rfl⟩, trivial⟩, ⟨(HG_lit (m := (1, 1)) rfl rfl (by intro r hr; simp only [List.mem_cons, List.not_mem_nil, or_false] at hr; subst hr; exact ⟨trivial, trivial⟩)), (HG_rows (A := rSpot) rfl rfl), trivial⟩, rfl, ⟨⟨rfl, rfl⟩, trivial⟩, by kernel_rfl, closL_of ⟨fun c hc => (by simp only [List.mem_cons, List.not_mem_nil, or_false] at hc; subst hc; exact rfl), trivial⟩ ⟨⟨fun q hq c hc => (by simp only [List.mem_cons, List.not_mem_nil, or_false] at hq; subst hq; simp only [List.mem_cons, List.not_mem_nil, or_false] at hc; subst hc; exact rfl), by decide⟩, ⟨rows_okAll (A := rSpot) rfl _, by decide⟩, trivial⟩⟩
end Go.Proofs.YtcbgfjidamoilaaGreat

