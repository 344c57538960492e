/- Arguments that are slices, or structs with a slice: opened as lists; what was read reads as it did behind a call that writes nothing that was there. -/
import Derived.Test.YtcbgfjidamoilaaGreatQroOpen
import Derived.Test.YtcbgfjidamoilaaGreatQroFin
import Derived.ReadAgain
import Derived.Deep.Slices
set_option linter.unusedVariables false
namespace Go.AbsK
open Go.RowKit Go.ChangeShapes Go.WideShapes Go.ChangeAt

section
variable {H : Type} {enc : TypeId × Value → H} {P : Program}
/-- Arguments read again behind a call that leaves the old blocks alone. -/
theorem trodAll_again {T : TypeId → Prop} (K : Kids P T) (hz : ∀ t e, T t → P.underlying t = some (.slice e) → 0 < P.cellsOf e) {W W' : World} (hb : Below W.heap.size W W') {sp : Nat → Bool} :
    ∀ {ts : List TypeId} {vs : List Value} {ds : List (DataW H)} {ps : List MemPlace}, (∀ t ∈ ts, T t) → DataW.TrodAll enc P W 0 (fun _ => true) true ts vs ds ps → (∀ p ∈ ps, p.block < W.heap.size) → (∀ p ∈ ps, sp p.block = true) →
      DataW.TrodAll enc P W' 0 sp true ts vs ds ps := by
  intro ts vs ds ps hT h hlt hs
  have h2 : ∀ {ts : List TypeId} {vs : List Value} {ds : List (DataW H)} {ps : List MemPlace}, DataW.TrodAll enc P W 0 (fun _ => true) true ts vs ds ps → (∀ p ∈ ps, p.block < W.heap.size) → DataW.TrodAll enc P W' 0 (fun _ => true) true ts vs ds ps := by
    intro ts
    induction ts with
    | nil =>
      intro vs ds ps h _
      match vs, ds, h with
      | [], [], h => exact h
    | cons t ts ih =>
      intro vs ds ps h hlt
      match vs, ds, h with
      | v :: vs, d :: ds, ⟨p, q, ⟨n, h1⟩, h2, e⟩ =>
        subst e
        exact ⟨p, q, ⟨n, DataW.trod_carry n t _ _ h1 (fun x hx => hb.same (hlt x (List.mem_append_left _ hx)))⟩, ih h2 (fun x hx => hlt x (List.mem_append_right _ hx)), rfl⟩
  exact DataW.TrodAll.respare K hz hT (h2 h hlt) hs
/-- A slice that came in: its place and capacity, its rows. -/
def SlOK (w : World) (E : Addr × Nat) (q : Nat × List (List Cell)) : Prop :=
  (∀ r ∈ q.2, r.length = q.1) ∧
  (∀ row r j c, q.2[row]? = some r → r[j]? = some c → c.ok (fun _ => False) ∧ w.cell? (E.1.add (row * q.1 + j)) = some (c.conc (fun _ => default)) ∧ E.1.block < w.heap.size) ∧
  (E.1.spot ≠ none → q.2 = [] ∧ E.2 = 0)
theorem law_slices {P : Program} {f : FuncId} {fn : Func} {c : Code} (hf : P.funcs[f]? = some fn) (hname : (fn.name == "runtime.NumGoroutine") = false) (hb : fn.body = some c) {O : POfn} (hO : FOK P f O)
    {args : List AV} {p : Prop} {w : World} (Es : List ((Addr × Nat) × (Nat × List (List Cell)))) (hE : ∀ q ∈ Es, SlOK w q.1 q.2) (he : O args (Es.map (fun q => tblk q.2)) (mkNames 0 0) = some (p, .c (.b true), [])) (hp : p)
    (hnm : namesOf args = (List.range Es.length).map (fun i => (i, 0))) (hok : args.all (okB (hdB Es.length)) = true) {vs : Array Value} (hvs : vs = (args.map (AV.conc (fun n => (Es.getD n.1 default).1))).toArray) :
    Calls P f vs w fun e w' => e = .returned (.bool true) ∧ Below w.heap.size w w' := by
  rw [hvs]
  obtain ⟨h, hh⟩ : ∃ h : Nm → Option Blk, h = fun n => if n.2 = 0 then (Es[n.1]?).map (fun q => tblk q.2) else none := ⟨_, rfl⟩
  have hsome : ∀ n b, h n = some b → ∃ q, n.2 = 0 ∧ Es[n.1]? = some q ∧ b = tblk q.2 := by
    intro n b hn
    rw [hh] at hn
    by_cases h0 : n.2 = 0
    · simp only [h0, if_true, Option.map_eq_some_iff] at hn
      obtain ⟨q, h1, h2⟩ := hn
      exact ⟨q, h0, h1, h2.symm⟩
    · simp only [h0, if_false] at hn
      cases hn
  have hget : ∀ (i : Nat) q, Es[i]? = some q → Es.getD i default = q := by
    intro i q hq
    rw [List.getD_eq_getElem?_getD, hq]
    rfl
  refine law_calls hf hname hb hO he hp (h := h) (gen := 0) ⟨fun n b hn => ?_, fun n n' b b' hn hn' ho => ?_, Below.refl _ _, fun n hn => hn.elim, Nat.le_refl _, fun d g hg => ?_, KeepsOthers.refl _⟩ (mkNames_ok 0 0) ?_ ?_
  · obtain ⟨q, h0, h1, rfl⟩ := hsome n b hn
    obtain ⟨k1, k2, k3⟩ := hE q (List.mem_of_getElem? h1)
    refine ⟨k1, fun row r j c hr hc => ?_, fun hs => ?_, fun ho => by cases ho⟩
    · simp only [hget _ _ h1]
      obtain ⟨m1, m2, m3⟩ := k2 row r j c hr hc
      refine ⟨Cell.ok_mono (fun _ h => h.elim) m1, ?_, fun _ => m3⟩
      rw [Cell.conc_eq (D := fun _ => False) (ν := fun _ => default) (fun _ h => h.elim) m1]
      exact m2
    · simp only [hget _ _ h1] at hs ⊢
      obtain ⟨m1, m2⟩ := k3 hs
      exact ⟨m1, m2, fun c hc => by cases hc⟩
  · obtain ⟨q, h0, h1, rfl⟩ := hsome n b hn
    cases ho
  · rw [hh]
    simp only
    rw [if_neg (by omega)]
  · rw [hnm, List.map_map, List.map_map]
    apply List.ext_getElem?
    intro i
    rw [List.getElem?_map, List.getElem?_map]
    by_cases hi : i < Es.length
    · rw [List.getElem?_range hi, List.getElem?_eq_getElem hi]
      simp only [Option.map_some, Function.comp, hh, if_true, List.getElem?_eq_getElem hi]
    · rw [List.getElem?_eq_none (by simpa using hi), List.getElem?_eq_none (by simpa using hi)]
      rfl
  · intro v hv
    refine AV.ok_mono (fun n hn => ?_) (okB_ok (List.all_eq_true.1 hok v hv))
    obtain ⟨h1, h2⟩ := hdB_spec hn
    have hn' : h n = some (tblk (Es[n.1]).2) := by
      rw [hh]
      simp only [h1, if_true, List.getElem?_eq_getElem h2, Option.map_some]
    show (h n).isSome = true
    rw [hn']
    rfl
end
end Go.AbsK

