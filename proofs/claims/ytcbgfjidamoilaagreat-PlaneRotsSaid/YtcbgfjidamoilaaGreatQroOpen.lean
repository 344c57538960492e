/- Numbers and vectors among a law's arguments: their cells out of their reading, and back. -/
import Derived.Test.YtcbgfjidamoilaaGreatProg
import Derived.ProofKit
import Derived.OpenShut
set_option linter.unusedVariables false
namespace Go.AbsK
open Go.RowKit Go.ChangeShapes Go.WideShapes Go.ChangeAt

section
variable {H : Type} {enc : TypeId × Value → H} {P : Program} {w : World} {base : Nat} {spare : Nat → Bool} {held : Bool}
theorem openNum {tn ti tb : TypeId} {fa fb : Field} (h : P.underlying tn = some (.struct #[fa, fb])) (ha : fa.type = ti ∧ fa.offset = 0) (hb : fb.type = tb ∧ fb.offset = 1) (hi : P.underlying ti = some (.int .i64)) (hbo : P.underlying tb = some .bool)
    (ci : P.cellsOf ti = 1) (cb : P.cellsOf tb = 1) (cn : P.cellsOf tn = 2) {fuel : Nat} {cs : List Value} {x : DataW H × List MemPlace} (hx : DataW.trod enc P w base spare held fuel tn cs = some x) :
    ∃ a b, cs = [.int .i64 a, .bool b] ∧ x = (.agg [.lit (.int .i64 a), .lit (.bool b)], []) ∧ (Lit.int .i64 a).wf = true := by
  obtain ⟨y0, y1, n, rfl, hl, h0, h1⟩ := trod_struct2 h hx
  rw [ha.1, ha.2, ci] at h0
  rw [hb.1, hb.2, cb] at h1
  rw [cn] at hl
  match cs, hl with
  | [c0, c1], _ =>
    obtain ⟨a, e0, rfl, wa⟩ := DataW.trod_int hi h0
    obtain ⟨b, e1, rfl⟩ := DataW.trod_bool hbo h1
    simp at e0 e1
    subst e0 e1
    exact ⟨a, b, rfl, rfl, wa⟩
/-- The types: a number, its fields. -/
structure NumT (P : Program) (tn ti tb : TypeId) : Prop where
  str : ∃ fa fb, P.underlying tn = some (.struct #[fa, fb]) ∧ (fa.type = ti ∧ fa.offset = 0) ∧ (fb.type = tb ∧ fb.offset = 1)
  int : P.underlying ti = some (.int .i64)
  bool : P.underlying tb = some .bool
  ci : P.cellsOf ti = 1
  cb : P.cellsOf tb = 1
  cn : P.cellsOf tn = 2
/-- A struct of two numbers. -/
structure PairT (P : Program) (tv tn ti tb : TypeId) : Prop extends NumT P tn ti tb where
  str2 : ∃ fa fb, P.underlying tv = some (.struct #[fa, fb]) ∧ (fa.type = tn ∧ fa.offset = 0) ∧ (fb.type = tn ∧ fb.offset = 2)
  cv : P.cellsOf tv = 4
def dNum (a : Int) (b : Bool) : DataW H := .agg [.lit (.int .i64 a), .lit (.bool b)]
theorem NumT.open {tn ti tb : TypeId} (T : NumT P tn ti tb) {fuel : Nat} {cs : List Value} {x : DataW H × List MemPlace} (hx : DataW.trod enc P w base spare held fuel tn cs = some x) :
    ∃ a b, cs = [.int .i64 a, .bool b] ∧ x = (dNum a b, []) ∧ (Lit.int .i64 a).wf = true := by
  obtain ⟨fa, fb, h, ha, hb⟩ := T.str
  exact openNum h ha hb T.int T.bool T.ci T.cb T.cn hx
theorem PairT.open {tv tn ti tb : TypeId} (T : PairT P tv tn ti tb) {fuel : Nat} {cs : List Value} {x : DataW H × List MemPlace} (hx : DataW.trod enc P w base spare held fuel tv cs = some x) :
    ∃ a b c d, cs = [.int .i64 a, .bool b, .int .i64 c, .bool d] ∧ x = (.agg [dNum a b, dNum c d], []) ∧ (Lit.int .i64 a).wf = true ∧ (Lit.int .i64 c).wf = true := by
  obtain ⟨fa, fb, h, ha, hb⟩ := T.str2
  obtain ⟨y0, y1, n, rfl, hl, h0, h1⟩ := trod_struct2 h hx
  rw [ha.1, ha.2, T.cn] at h0
  rw [hb.1, hb.2, T.cn] at h1
  rw [T.cv] at hl
  match cs, hl with
  | [c0, c1, c2, c3], _ =>
    obtain ⟨a, b, e0, rfl, wa⟩ := T.toNumT.open h0
    obtain ⟨c, d, e1, rfl, wc⟩ := T.toNumT.open h1
    simp at e0 e1
    obtain ⟨rfl, rfl⟩ := e0
    obtain ⟨rfl, rfl⟩ := e1
    exact ⟨a, b, c, d, rfl, rfl, wa, wc⟩
/-- An argument that is a number; an argument that is a pair of them. -/
theorem NumT.arg {tn ti tb : TypeId} (T : NumT P tn ti tb) {r : Reach} {b0 : Nat} {v : Value} {d : DataW H} {ps : List MemPlace} (hval : Value.okWide P w r b0 tn v) (hd : DataW.Trod enc P w base spare held tn v d ps) :
    ∃ a b, v = .agg #[.int .i64 a, .bool b] ∧ d = dNum a b ∧ ps = [] ∧ (Lit.int .i64 a).wf = true := by
  obtain ⟨fa, fb, h, -, -⟩ := T.str
  obtain ⟨cs, rfl, -⟩ := okWide_struct h hval
  obtain ⟨fuel, hf⟩ := hd
  obtain ⟨a, b, e, e2, wa⟩ := T.open hf
  simp only [Prod.mk.injEq] at e2
  obtain ⟨rfl, rfl⟩ := e2
  obtain ⟨l⟩ := cs
  obtain rfl : l = [.int .i64 a, .bool b] := e
  exact ⟨a, b, rfl, rfl, rfl, wa⟩
theorem PairT.arg {tv tn ti tb : TypeId} (T : PairT P tv tn ti tb) {r : Reach} {b0 : Nat} {v : Value} {d : DataW H} {ps : List MemPlace} (hval : Value.okWide P w r b0 tv v) (hd : DataW.Trod enc P w base spare held tv v d ps) :
    ∃ a b c e, v = .agg #[.int .i64 a, .bool b, .int .i64 c, .bool e] ∧ d = .agg [dNum a b, dNum c e] ∧ ps = [] ∧ (Lit.int .i64 a).wf = true ∧ (Lit.int .i64 c).wf = true := by
  obtain ⟨fa, fb, h, -, -⟩ := T.str2
  obtain ⟨cs, rfl, -⟩ := okWide_struct h hval
  obtain ⟨fuel, hf⟩ := hd
  obtain ⟨a, b, c, e, e1, e2, wa, wc⟩ := T.open hf
  simp only [Prod.mk.injEq] at e2
  obtain ⟨rfl, rfl⟩ := e2
  obtain ⟨l⟩ := cs
  obtain rfl : l = [.int .i64 a, .bool b, .int .i64 c, .bool e] := e1
  exact ⟨a, b, c, e, rfl, rfl, rfl, wa, wc⟩
/-- A struct of two such pairs. -/
structure PoseT (P : Program) (tp tv tr tn ti tb : TypeId) : Prop where
  fst : PairT P tv tn ti tb
  snd : PairT P tr tn ti tb
  str3 : ∃ fa fb, P.underlying tp = some (.struct #[fa, fb]) ∧ (fa.type = tv ∧ fa.offset = 0) ∧ (fb.type = tr ∧ fb.offset = 4)
  cp : P.cellsOf tp = 8
theorem PoseT.open {tp tv tr tn ti tb : TypeId} (T : PoseT P tp tv tr tn ti tb) {fuel : Nat} {cs : List Value} {x : DataW H × List MemPlace} (hx : DataW.trod enc P w base spare held fuel tp cs = some x) :
    ∃ a b c d a' b' c' d', cs = [.int .i64 a, .bool b, .int .i64 c, .bool d, .int .i64 a', .bool b', .int .i64 c', .bool d'] ∧ x = (.agg [.agg [dNum a b, dNum c d], .agg [dNum a' b', dNum c' d']], []) ∧
      (Lit.int .i64 a).wf = true ∧ (Lit.int .i64 c).wf = true ∧ (Lit.int .i64 a').wf = true ∧ (Lit.int .i64 c').wf = true := by
  obtain ⟨fa, fb, h, ha, hb⟩ := T.str3
  obtain ⟨y0, y1, n, rfl, hl, h0, h1⟩ := trod_struct2 h hx
  rw [ha.1, ha.2, T.fst.cv] at h0
  rw [hb.1, hb.2, T.snd.cv] at h1
  rw [T.cp] at hl
  match cs, hl with
  | [c0, c1, c2, c3, c4, c5, c6, c7], _ =>
    obtain ⟨a, b, c, d, e0, rfl, wa, wc⟩ := T.fst.open h0
    obtain ⟨a', b', c', d', e1, rfl, wa', wc'⟩ := T.snd.open h1
    simp at e0 e1
    obtain ⟨rfl, rfl, rfl, rfl⟩ := e0
    obtain ⟨rfl, rfl, rfl, rfl⟩ := e1
    exact ⟨a, b, c, d, a', b', c', d', rfl, rfl, wa, wc, wa', wc'⟩
theorem PoseT.arg {tp tv tr tn ti tb : TypeId} (T : PoseT P tp tv tr tn ti tb) {r : Reach} {b0 : Nat} {v : Value} {d : DataW H} {ps : List MemPlace} (hval : Value.okWide P w r b0 tp v) (hd : DataW.Trod enc P w base spare held tp v d ps) :
    ∃ a b c e a' b' c' e', v = .agg #[.int .i64 a, .bool b, .int .i64 c, .bool e, .int .i64 a', .bool b', .int .i64 c', .bool e'] ∧ d = .agg [.agg [dNum a b, dNum c e], .agg [dNum a' b', dNum c' e']] ∧ ps = [] ∧
      (Lit.int .i64 a).wf = true ∧ (Lit.int .i64 c).wf = true ∧ (Lit.int .i64 a').wf = true ∧ (Lit.int .i64 c').wf = true := by
  obtain ⟨fa, fb, h, -, -⟩ := T.str3
  obtain ⟨cs, rfl, -⟩ := okWide_struct h hval
  obtain ⟨fuel, hf⟩ := hd
  obtain ⟨a, b, c, e, a', b', c', e', e1, e2, w1, w2, w3, w4⟩ := T.open hf
  simp only [Prod.mk.injEq] at e2
  obtain ⟨rfl, rfl⟩ := e2
  obtain ⟨l⟩ := cs
  obtain rfl : l = [.int .i64 a, .bool b, .int .i64 c, .bool e, .int .i64 a', .bool b', .int .i64 c', .bool e'] := e1
  exact ⟨a, b, c, e, a', b', c', e', rfl, rfl, rfl, w1, w2, w3, w4⟩
end
end Go.AbsK

namespace Go.Proofs.YtcbgfjidamoilaaGreat
open Go.AbsK
theorem numT : NumT Tryz.prog 30 2 4 := ⟨⟨_, _, Tryz.underlying30, ⟨rfl, rfl⟩, ⟨rfl, rfl⟩⟩, Tryz.underlying2, Tryz.underlying4, by kernel_rfl, by kernel_rfl, by kernel_rfl⟩
theorem vecT : PairT Tryz.prog 32 30 2 4 := ⟨numT, ⟨_, _, Tryz.underlying32, ⟨rfl, rfl⟩, ⟨rfl, rfl⟩⟩, by kernel_rfl⟩
theorem rotT : PairT Tryz.prog 34 30 2 4 := ⟨numT, ⟨_, _, Tryz.underlying34, ⟨rfl, rfl⟩, ⟨rfl, rfl⟩⟩, by kernel_rfl⟩
end Go.Proofs.YtcbgfjidamoilaaGreat

