/- Arguments that are slices, or structs with a slice: opened as lists; what was read reads as it did behind a call that writes nothing that was there. -/
import Derived.Test.YtcbgfjidamoilaaQtuOpen
import Derived.Test.YtcbgfjidamoilaaQtuFin
import Derived.ReadAgain
import Derived.Deep.Slices
set_option linter.unusedVariables false
namespace Go.AbsK
open Go.RowKit Go.ChangeShapes Go.WideShapes Go.ChangeAt

section
variable {H : Type} {enc : TypeId × Value → H} {P : Program}
/-- Arguments read again behind a call that leaves the old blocks alone. -/
theorem trodAll_again {T : TypeId → Prop} (K : Kids P T) (hz : ∀ t e, T t → P.underlying t = some (.slice e) → 0 < P.cellsOf e) {W W' : World} (hb : Below W.heap.size W W') {sp : Nat → Bool} :
    ∀ {ts : List TypeId} {vs : List Value} {ds : List (DataW H)} {ps : List MemPlace}, (∀ t ∈ ts, T t) → DataW.TrodAll enc P W 0 (fun _ => true) true ts vs ds ps → (∀ p ∈ ps, p.block < W.heap.size) → (∀ p ∈ ps, sp p.block = true) →
      DataW.TrodAll enc P W' 0 sp true ts vs ds ps := by
  intro ts vs ds ps hT h hlt hs
  have h2 : ∀ {ts : List TypeId} {vs : List Value} {ds : List (DataW H)} {ps : List MemPlace}, DataW.TrodAll enc P W 0 (fun _ => true) true ts vs ds ps → (∀ p ∈ ps, p.block < W.heap.size) → DataW.TrodAll enc P W' 0 (fun _ => true) true ts vs ds ps := by
    intro ts
    induction ts with
    | nil =>
      intro vs ds ps h _
      match vs, ds, h with
      | [], [], h => exact h
    | cons t ts ih =>
      intro vs ds ps h hlt
      match vs, ds, h with
      | v :: vs, d :: ds, ⟨p, q, ⟨n, h1⟩, h2, e⟩ =>
        subst e
        exact ⟨p, q, ⟨n, DataW.trod_carry n t _ _ h1 (fun x hx => hb.same (hlt x (List.mem_append_left _ hx)))⟩, ih h2 (fun x hx => hlt x (List.mem_append_right _ hx)), rfl⟩
  exact DataW.TrodAll.respare K hz hT (h2 h hlt) hs
/-- A slice that came in: its place and capacity, its rows. -/
def SlOK (w : World) (E : Addr × Nat) (q : Nat × List (List Cell)) : Prop :=
  (∀ r ∈ q.2, r.length = q.1) ∧
  (∀ row r j c, q.2[row]? = some r → r[j]? = some c → c.ok (fun _ => False) ∧ w.cell? (E.1.add (row * q.1 + j)) = some (c.conc (fun _ => default)) ∧ E.1.block < w.heap.size) ∧
  (E.1.spot ≠ none → q.2 = [] ∧ E.2 = 0)
theorem law_slices {P : Program} {f : FuncId} {fn : Func} {c : Code} (hf : P.funcs[f]? = some fn) (hname : (fn.name == "runtime.NumGoroutine") = false) (hb : fn.body = some c) {O : POfn} (hO : FOK P f O)
    {args : List AV} {p : Prop} {w : World} (Es : List ((Addr × Nat) × (Nat × List (List Cell)))) (hE : ∀ q ∈ Es, SlOK w q.1 q.2) (he : O args (Es.map (fun q => tblk q.2)) (mkNames 0 0) = some (p, .c (.b true), [])) (hp : p)
    (hnm : namesOf args = (List.range Es.length).map (fun i => (i, 0))) (hok : args.all (okB (hdB Es.length)) = true) {vs : Array Value} (hvs : vs = (args.map (AV.conc (fun n => (Es.getD n.1 default).1))).toArray) :
    Calls P f vs w fun e w' => e = .returned (.bool true) ∧ Below w.heap.size w w' := by
  rw [hvs]
  obtain ⟨h, hh⟩ : ∃ h : Nm → Option Blk, h = fun n => if n.2 = 0 then (Es[n.1]?).map (fun q => tblk q.2) else none := ⟨_, rfl⟩
  have hsome : ∀ n b, h n = some b → ∃ q, n.2 = 0 ∧ Es[n.1]? = some q ∧ b = tblk q.2 := by
    intro n b hn
    rw [hh] at hn
    by_cases h0 : n.2 = 0
    · simp only [h0, if_true, Option.map_eq_some_iff] at hn
      obtain ⟨q, h1, h2⟩ := hn
      exact ⟨q, h0, h1, h2.symm⟩
    · simp only [h0, if_false] at hn
      cases hn
  have hget : ∀ (i : Nat) q, Es[i]? = some q → Es.getD i default = q := by
    intro i q hq
    rw [List.getD_eq_getElem?_getD, hq]
    rfl
  refine law_calls hf hname hb hO he hp (h := h) (gen := 0) ⟨fun n b hn => ?_, fun n n' b b' hn hn' ho => ?_, Below.refl _ _, fun n hn => hn.elim, Nat.le_refl _, fun d g hg => ?_, KeepsOthers.refl _⟩ (mkNames_ok 0 0) ?_ ?_
  · obtain ⟨q, h0, h1, rfl⟩ := hsome n b hn
    obtain ⟨k1, k2, k3⟩ := hE q (List.mem_of_getElem? h1)
    refine ⟨k1, fun row r j c hr hc => ?_, fun hs => ?_, fun ho => by cases ho⟩
    · simp only [hget _ _ h1]
      obtain ⟨m1, m2, m3⟩ := k2 row r j c hr hc
      refine ⟨Cell.ok_mono (fun _ h => h.elim) m1, ?_, fun _ => m3⟩
      rw [Cell.conc_eq (D := fun _ => False) (ν := fun _ => default) (fun _ h => h.elim) m1]
      exact m2
    · simp only [hget _ _ h1] at hs ⊢
      obtain ⟨m1, m2⟩ := k3 hs
      exact ⟨m1, m2, fun c hc => by cases hc⟩
  · obtain ⟨q, h0, h1, rfl⟩ := hsome n b hn
    cases ho
  · rw [hh]
    simp only
    rw [if_neg (by omega)]
  · rw [hnm, List.map_map, List.map_map]
    apply List.ext_getElem?
    intro i
    rw [List.getElem?_map, List.getElem?_map]
    by_cases hi : i < Es.length
    · rw [List.getElem?_range hi, List.getElem?_eq_getElem hi]
      simp only [Option.map_some, Function.comp, hh, if_true, List.getElem?_eq_getElem hi]
    · rw [List.getElem?_eq_none (by simpa using hi), List.getElem?_eq_none (by simpa using hi)]
      rfl
  · intro v hv
    refine AV.ok_mono (fun n hn => ?_) (okB_ok (List.all_eq_true.1 hok v hv))
    obtain ⟨h1, h2⟩ := hdB_spec hn
    have hn' : h n = some (tblk (Es[n.1]).2) := by
      rw [hh]
      simp only [h1, if_true, List.getElem?_eq_getElem h2, Option.map_some]
    show (h n).isSome = true
    rw [hn']
    rfl
/-- A slice of coded values, opened. -/
theorem open_list {α : Type} (A : Row α) (wf : α → Prop) {t e : TypeId} {w : World} {fuel : Nat} {cs : List Value} {x : DataW H × List MemPlace}
    (hA : ∀ n cs' y, DataW.trod enc P w 0 (fun _ => true) true n e cs' = some y → ∃ v, cs' = (rowOf (A.enc v)).map (Cell.conc (fun _ => default)) ∧ wf v)
    (ht : P.underlying t = some (.slice e)) (hc : P.cellsOf e = A.w) (hsp : ∀ a len cap, cs = [.slice (some a) len cap] → a.spot = none)
    (h : DataW.trod enc P w 0 (fun _ => true) true fuel t cs = some x) :
    ∃ (E : Addr × Nat) (l : List α), cs = [Cell.conc (fun _ => E) (.slc (0, 0) 0 A.w l.length none)] ∧ (∀ v ∈ l, wf v) ∧ SlOK w E (A.w, rowsOf A l) := by
  rcases Go.Deep.open_slice ht h with ⟨rfl, rfl⟩ | ⟨a, len, cap, m, n, D, Pl, rfl, hb, hl, hm, hmm, rfl, hx⟩
  · refine ⟨(⟨0, 0, some 0⟩, 0), [], rfl, (fun v hv => by cases hv), (fun r hr => by cases hr), (fun row r j c hr => by cases hr), fun _ => ⟨rfl, rfl⟩⟩
  have hspot := hsp a len cap rfl
  simp only [if_true] at hmm
  subst hmm
  have hex : ∀ i, i < len → ∃ v, w.cells? 0 (a.add (i * P.cellsOf e)) (P.cellsOf e) = some ((rowOf (A.enc v)).map (Cell.conc (fun _ => default))) ∧ wf v := by
    intro i hi
    obtain ⟨cs', h1, h2⟩ := hx i (by omega)
    obtain ⟨v, rfl, hv⟩ := hA _ _ _ h2
    exact ⟨v, h1, hv⟩
  have hlist : ∀ k, k ≤ len → ∃ l : List α, l.length = k ∧ ∀ i v, l[i]? = some v → w.cells? 0 (a.add (i * P.cellsOf e)) (P.cellsOf e) = some ((rowOf (A.enc v)).map (Cell.conc (fun _ => default))) ∧ wf v := by
    intro k
    induction k with
    | zero => exact fun _ => ⟨[], rfl, fun i v hi => by cases hi⟩
    | succ k ih =>
      intro hk
      obtain ⟨l, hl1, hl2⟩ := ih (by omega)
      obtain ⟨v, hv⟩ := hex k (by omega)
      refine ⟨l ++ [v], by simp [hl1], fun i u hi => ?_⟩
      by_cases hik : i < k
      · rw [List.getElem?_append_left (by omega)] at hi
        exact hl2 i u hi
      · rw [List.getElem?_append_right (by omega)] at hi
        have : i = k := by
          have := (List.getElem?_eq_some_iff.1 hi).1
          simp at this
          omega
        subst this
        rw [hl1, Nat.sub_self] at hi
        simp at hi
        subst hi
        exact hv
  obtain ⟨l, hl1, hl2⟩ := hlist len (Nat.le_refl _)
  refine ⟨(a, m), l, ?_, fun v hv => ?_, fun r hr => ?_, fun row r j c hr hj => ?_, fun hs => absurd hspot hs⟩
  · show [Value.slice (some a) len m] = [Value.slice (if a.spot.isSome then none else some (a.add (0 * A.w))) l.length m]
    rw [hspot, hl1, Nat.zero_mul]
    rfl
  · obtain ⟨i, hi⟩ := List.getElem?_of_mem hv
    exact (hl2 i v hi).2
  · obtain ⟨v, -, rfl⟩ := List.mem_map.1 hr
    exact A.row_len v
  · rw [rowsOf, List.getElem?_map, Option.map_eq_some_iff] at hr
    obtain ⟨v, hv, rfl⟩ := hr
    have hcell : plainC c = true := A.row_pl v c (List.mem_of_getElem? hj)
    have hjw : j < A.w := by
      have := (List.getElem?_eq_some_iff.1 hj).1
      rw [A.row_len] at this
      exact this
    obtain ⟨h1, -⟩ := hl2 row v hv
    have h2 := (World.cells?_some h1).2.2 j (by rw [hc]; exact hjw)
    have h3 : w.cell? (a.add (row * A.w + j)) = some (c.conc (fun _ => default)) := by
      rw [hc] at h2
      rw [← Go.Deep.add_add, h2, List.getElem?_map, hj]
      rfl
    refine ⟨plainC_of hcell, h3, ?_⟩
    unfold World.cell? at h3
    split at h3
    · rename_i heq
      have := (Array.getElem?_eq_some_iff.1 heq).1
      rw [Go.ChangeShapes.block_add] at this
      exact this
    · cases h3
/-- The value of a slice is at a plain address. -/
theorem spot_of_okWide {t e : TypeId} {w : World} {r : Reach} {b0 : Nat} {v : Value} (ht : P.underlying t = some (.slice e)) (h : Cell.okWide P w r b0 t v) {a : Addr} {len cap : Nat} (hv : v = .slice (some a) len cap) : a.spot = none := by
  subst hv
  unfold Cell.okWide at h
  rw [ht] at h
  simp only at h
  unfold Go.Cell.ok at h
  rw [ht] at h
  simp only at h
  exact h.2.2.2.1
end
end Go.AbsK

