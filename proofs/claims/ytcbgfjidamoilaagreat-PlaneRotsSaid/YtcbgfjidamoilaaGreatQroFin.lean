/- From a law's contract to the call that the statement speaks of. -/
import Derived.Test.YtcbgfjidamoilaaGreatQroR
import Derived.ProofKit
set_option linter.unusedVariables false
namespace Go.AbsK
open Go.RowKit Go.ChangeShapes Go.WideShapes Go.ChangeAt

theorem law_calls {P : Program} {f : FuncId} {fn : Func} {c : Code} (hf : P.funcs[f]? = some fn) (hname : (fn.name == "runtime.NumGoroutine") = false) (hb : fn.body = some c) {O : POfn} (hO : FOK P f O)
    {args : List AV} {bs : List Blk} {mk : Nat → Nm} {p : Prop} (he : O args bs mk = some (p, .c (.b true), [])) (hp : p) {h : Nm → Option Blk} {ν : Env} {gen : Nat} {w : World}
    (hR : HRel w.heap.size ⟨w, fun _ => False, ν, []⟩ ν h gen w) (hmk : MkOK mk gen) (hn : (namesOf args).map h = bs.map some) (hok : ∀ v ∈ args, v.ok (bd h)) :
    Calls P f (args.map (AV.conc ν)).toArray w fun e w' => e = .returned (.bool true) ∧ Below w.heap.size w w' := by
  rcases hO.sem args bs mk p _ _ he hp h _ ν w _ gen hmk hR hn hok (fun q hq => by cases hq) with ⟨fn', h1, h2, h3, h4⟩ | ⟨v, w', h1, -⟩
  · refine h4.mono fun e w' ⟨v, hv, hc⟩ => ?_
    obtain ⟨ν', k1, k2, k3, -, -⟩ := hc
    subst hv
    rcases k3 with k3 | ⟨-, k3⟩
    · cases k3
    · exact ⟨by rw [k3]; rfl, k2⟩
  · rw [Go.Proofs.YtcbgfjidamoilaaGreat.enter_of hf hname hb] at h1
    cases h1
/-- The row's last step where nothing is known of the new blocks but that the old ones stand. -/
theorem post_below {H : Type} {enc : TypeId × Value → H} {P : Program} {f : Func} {s : ChangeSpec} {apart fresh handsOn again : Bool} {W W' : World} {args : Array Value} {v : Value} {ds gs : List (DataW H)} {before pa pv : List MemPlace}
    (hW : DataW.Whole enc P f.params.toList s.vars apart W args.toList ds gs before)
    (hres : ∀ (b : Nat) (sp : Nat → Bool) (hd : Bool), DataW.TrodAll enc P W' b sp hd f.resultTypes.toList (v.resultList f.resultTypes.size) (s.fn H (ds ++ gs)).results [])
    (hargs : ∀ sp : Nat → Bool, (∀ q ∈ before, sp q.block = true) → DataW.TrodAll enc P W' 0 sp true f.params.toList args.toList (s.fn H (ds ++ gs)).args pa)
    (hvars : ∀ sp : Nat → Bool, (∀ q ∈ before, sp q.block = true) → DataW.TrodVars enc P W' sp s.vars (s.fn H (ds ++ gs)).vars pv)
    (hps : before = pa ++ pv) (hb : Below W.heap.size W W')
    (hok : ∀ (j : Nat) (t : TypeId) (r : Value), f.resultTypes[j]? = some t → (v.resultList f.resultTypes.size)[j]? = some r → Value.okWide P W' .any 0 t r) :
    s.post enc P f apart fresh handsOn again W args v W' := by
  have hlt := hW.lt
  obtain ⟨_, _, _, _, _, hz, hn⟩ := id hW
  have hin : ∀ q : MemPlace, q ∈ before ↔ q ∈ ([] ++ pa) ++ pv := fun q => by rw [hps, List.nil_append]
  refine ⟨ds, gs, before, [], pa, pv, hW, hres _ _ _, hargs _ (fun q hq => decide_eq_true (hlt q hq)), hvars _ (fun q hq => decide_eq_true (hlt q hq)),
    World.keptBut_mono (fun q hq => ⟨hq, .inr (List.mem_append.1 (hps ▸ hq))⟩) (hb.frame _), fun _ =>
    ⟨hok, _, _, ([] ++ pa) ++ pv, ⟨[] ++ pa, pv, trodAll_append (hargs _ (fun _ _ => rfl)) (hres _ _ _), hvars _ (fun _ _ => rfl), rfl, fun b off hq => ?_, fun ha => ?_⟩, fun q hq _ => (hin q).2 hq⟩⟩
  · have hq' := (hin _).2 hq
    rw [hb.frozen (p := ⟨b, off, none⟩) (hlt _ hq')]
    exact hz b off hq'
  · have := hn ha
    rw [hps] at this
    simpa using this
end Go.AbsK

