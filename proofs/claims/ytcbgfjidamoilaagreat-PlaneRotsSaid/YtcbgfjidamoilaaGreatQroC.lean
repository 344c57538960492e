/- The corners of a polygon come one after the other, whatever the loop's body does that keeps them. -/
import Derived.RangeFuncBox
import Derived.RangeFuncLeaves
import Derived.RangeFuncNested
import Derived.WalkKit
import Derived.OwnWalkIn
import Derived.TacticsInMore
import Derived.LoopNIn
import Derived.LoopIn
import Derived.Test.YtcbgfjidamoilaaGreatQroBase
set_option linter.unusedVariables false
namespace Go.Proofs.YtcbgfjidamoilaaGreat
open Go.AbsK Go.RowKit Go.Proofs
attribute [local go_sem] Oper.semAt_some
def regsOf : Code → List (Array Oper)
  | .region _ ops _ => [ops]
  | .seq x y => regsOf x ++ regsOf y
  | .cond _ x y => regsOf x ++ regsOf y
  | .block _ x => regsOf x
  | .loop x => regsOf x
  | .scope x => regsOf x
  | .rangeFunc _ _ x y => regsOf x ++ regsOf y
  | _ => []
noncomputable def cops : Array Oper := (regsOf (Tryz.f116.body.getD .skip)).getD 4 #[]
noncomputable def cops' : Array Oper := (cops.toList.take 21).toArray
def spotRows (px py : Nat → Int) (len : Nat) : List (List Cell) := (List.range len).map fun j => [.i .i64 (px j), .i .i64 (py j)]
/-- The state ahead of the corner that is handed over. -/
def cst (y : Value) (px py : Nat → Int) (len cap : Nat) (k : Int) (v2 v5 v6 v7 v8 : Value) : St :=
  { slots := fun s => match s with
      | 0 => .ext y
      | 1 => .c (.ptr (0, 0) 0 1 0)
      | 2 => .ext v2
      | 3 => .c (.i .i64 len)
      | 4 => .c (.i .i64 k)
      | 5 => .ext v5
      | 6 => .ext v6
      | 7 => .ext v7
      | 8 => .ext v8
      | _ => .und
    heap := fun n => match n with
      | (0, 0) => some ⟨[[.slc (1, 0) 0 2 len (some cap)]], 1, 26, false, none⟩
      | (1, 0) => some ⟨spotRows px py len, 2, 53, false, none⟩
      | _ => none
    gen := 1
    k := 2 }
def clook (s : St) : List AV := [s.slots 0, s.slots 1, s.slots 2, s.slots 3, s.slots 5, s.slots 6, s.slots 7, s.slots 8, s.slots 11, s.slots 31]
theorem creg_run (y : Value) (px py : Nat → Int) (len cap : Nat) (k : Int) (v2 v5 v6 v7 v8 : Value) (x0 y0 x1 y1 x2 y2 : Int) (r : List AV) :
    regD tab EQ Tryz.prog cops' cops'.toList (cst y px py len cap k v2 v5 v6 v7 v8) [] [.row [.slc (1, 0) 0 2 len (some cap)], .row [.i .i64 x0, .i .i64 y0], .row [.slc (1, 0) 0 2 len (some cap)], .row [.i .i64 x1, .i .i64 y1], .row [.slc (1, 0) 0 2 len (some cap)], .row [.i .i64 x2, .i .i64 y2]]
      (fun hf st' _ => chk (drawOK cops' hf) (clook st' = r)) =
    ((([[Cell.slc (1, 0) 0 2 len (some cap)]] : List (List Cell))[0]? = some [.slc (1, 0) 0 2 len (some cap)]) ∧ (0 ≤ k ∧ k < (len : Nat)) ∧ 0 + k.toNat < (spotRows px py len).length ∧ (spotRows px py len)[0 + k.toNat]? = some [.i .i64 x0, .i .i64 y0] ∧
     (([[Cell.slc (1, 0) 0 2 len (some cap)]] : List (List Cell))[0]? = some [.slc (1, 0) 0 2 len (some cap)]) ∧ ((len : Nat) : Int) ≠ 0 ∧ (0 ≤ (IntKind.i64.wrap (k + 1)).tmod (len : Nat) ∧ (IntKind.i64.wrap (k + 1)).tmod (len : Nat) < (len : Nat)) ∧ 0 + ((IntKind.i64.wrap (k + 1)).tmod (len : Nat)).toNat < (spotRows px py len).length ∧ (spotRows px py len)[0 + ((IntKind.i64.wrap (k + 1)).tmod (len : Nat)).toNat]? = some [.i .i64 x1, .i .i64 y1] ∧
     (([[Cell.slc (1, 0) 0 2 len (some cap)]] : List (List Cell))[0]? = some [.slc (1, 0) 0 2 len (some cap)]) ∧ ((len : Nat) : Int) ≠ 0 ∧ (0 ≤ (IntKind.i64.wrap (k + 2)).tmod (len : Nat) ∧ (IntKind.i64.wrap (k + 2)).tmod (len : Nat) < (len : Nat)) ∧ 0 + ((IntKind.i64.wrap (k + 2)).tmod (len : Nat)).toNat < (spotRows px py len).length ∧ (spotRows px py len)[0 + ((IntKind.i64.wrap (k + 2)).tmod (len : Nat)).toNat]? = some [.i .i64 x2, .i .i64 y2] ∧
     [AV.ext y, .c (.ptr (0, 0) 0 1 0), .ext v2, .c (.i .i64 len), .ext v5, .ext v6, .ext v7, .ext v8, .ext y, .agg [.i .i64 k, .i .i64 x0, .i .i64 y0, .i .i64 x1, .i .i64 y1, .i .i64 x2, .i .i64 y2]] = r) := by
  kernel_rfl
def cenv (Bs b off cap : Nat) : Env := fun n => match n with
  | (0, 0) => (⟨Bs, 0, none⟩, 1)
  | _ => (⟨b, off, none⟩, cap)
theorem spotRows_get (px py : Nat → Int) (len j : Nat) (h : j < len) : (spotRows px py len)[j]? = some [.i .i64 (px j), .i .i64 (py j)] := by
  unfold spotRows
  rw [List.getElem?_map, List.getElem?_range h]
  rfl
theorem spotRows_len (px py : Nat → Int) (len : Nat) : (spotRows px py len).length = len := by
  unfold spotRows
  rw [List.length_map, List.length_range]
def cornerV (px py : Nat → Int) (n i : Nat) : Value :=
  .agg #[.int .i64 i, .int .i64 (px i), .int .i64 (py i), .int .i64 (px ((i + 1) % n)), .int .i64 (py ((i + 1) % n)), .int .i64 (px ((i + 2) % n)), .int .i64 (py ((i + 2) % n))]
theorem tmod_at {k len : Nat} (h : 0 < len) (j : Nat) (hk : k + j < 2 ^ 62) : (IntKind.i64.wrap ((k : Int) + (j : Nat))).tmod (len : Nat) = (((k + j) % len : Nat) : Int) := by
  rw [IntWalk.i64_in _ (by omega), ← Int.natCast_add, ← Int.ofNat_tmod]
theorem put_same {a : Act} {d : Nat} {v : Value} (h : d < a.tmps.size) : (a.put (some d) v).tmps.getD d undef = v := by
  simp only [Act.put]
  rw [Array.getD_eq_getD_getElem?, Array.getElem?_setIfInBounds_self, if_pos h]
  rfl
theorem put_ne {a : Act} {d s : Nat} {v : Value} (h : s ≠ d) : (a.put (some d) v).tmps.getD s undef = a.tmps.getD s undef := by
  simp only [Act.put]
  rw [Array.getD_eq_getD_getElem?, Array.getElem?_setIfInBounds_ne (Ne.symm h), ← Array.getD_eq_getD_getElem?]
theorem corners_reg {n : Nat} {Q : Exit → Act → World → Prop} {y v2 v5 v6 v7 v8 : Value} {px py : Nat → Int} {len cap k Bs b off : Nat} {a : Act} {w : World}
    (hk : k < len) (hlen : len ≤ 1000) (hd : a.defers = []) (hsz : a.tmps.size = 35) (h0 : a.tmps.getD 0 undef = y) (h1 : a.tmps.getD 1 undef = .pointer (some ⟨Bs, 0, none⟩)) (h2 : a.tmps.getD 2 undef = v2) (h3 : a.tmps.getD 3 undef = .int .i64 len) (h4 : a.tmps.getD 4 undef = .int .i64 k)
    (h5 : a.tmps.getD 5 undef = v5) (h6 : a.tmps.getD 6 undef = v6) (h7 : a.tmps.getD 7 undef = v7) (h8 : a.tmps.getD 8 undef = v8)
    (hB : w.cell? ⟨Bs, 0, none⟩ = some (.slice (some ⟨b, off, none⟩) len cap)) (hc : ∀ j, j < len → w.cell? ⟨b, off + j * 2, none⟩ = some (.int .i64 (px j)) ∧ w.cell? ⟨b, off + j * 2 + 1, none⟩ = some (.int .i64 (py j)))
    {l : Nat} (hyv : y = .func (.yield l) #[] #[]) {Post : Bool → World → Prop}
    (hY : ∀ w', Below w.heap.size w w' → ∃ fn tmps assign body, (Instr.yield l #[cornerV px py len k]).run Tryz.prog w' = .ok (.round l fn tmps assign body) w' ∧ RoundIn Fence.wide (n - 1) Tryz.prog l fn tmps assign body w' fun e w'' => ∃ bo : Bool, e = .returned (.bool bo) ∧ Post bo w'')
    (hK : ∀ bo a' w'', Post bo w'' → a'.defers = [] → a'.tmps.size = 35 → a'.tmps.getD 0 undef = y → a'.tmps.getD 1 undef = .pointer (some ⟨Bs, 0, none⟩) → a'.tmps.getD 2 undef = v2 → a'.tmps.getD 3 undef = .int .i64 len → a'.tmps.getD 5 undef = v5 → a'.tmps.getD 6 undef = v6 → a'.tmps.getD 7 undef = v7 → a'.tmps.getD 8 undef = v8 →
      a'.tmps.getD 33 undef = .bool (!bo) → Q .normal a' w'') :
    (Code.region 4 cops true).wpIn Fence.wide n Tryz.prog Q a w := by
  have hpos : 0 < len := by omega
  have hblt : b < w.heap.size := World.block_lt_of_cell? w _ (hc k hk).1
  have hBlt : Bs < w.heap.size := World.block_lt_of_cell? w _ hB
  have hadd : ∀ (B o j : Nat), (⟨B, o, none⟩ : Addr).add j = ⟨B, o + j, none⟩ := by
    intro B o j
    unfold Addr.add
    split
    · rename_i hj; subst hj; rfl
    · rfl
  have hR : Rel w.heap.size ⟨w, handed 2, cenv Bs b off cap, []⟩ 35 (cenv Bs b off cap) (cst y px py len cap k v2 v5 v6 v7 v8) a w := by
    refine ⟨hd, hsz, fun s => ?_, ⟨fun m blk hm => ?_, fun m m' blk blk' hm hm' ho => ?_, Below.refl _ _, fun m hm => ⟨hm.1, ?_, rfl⟩, Nat.le_refl _, fun d g hg => ?_, KeepsOthers.refl _⟩, fun m hm => hm.2⟩
    · show RV _ _ (a.tmps.getD s undef) _
      unfold cst
      simp only
      split
      · exact .inr ⟨trivial, h0⟩
      · exact .inr ⟨rfl, h1⟩
      · exact .inr ⟨trivial, h2⟩
      · exact .inr ⟨trivial, h3⟩
      · exact .inr ⟨trivial, h4⟩
      · exact .inr ⟨trivial, h5⟩
      · exact .inr ⟨trivial, h6⟩
      · exact .inr ⟨trivial, h7⟩
      · exact .inr ⟨trivial, h8⟩
      · exact .inl rfl
    · unfold cst at hm
      simp only at hm
      split at hm
      · injection hm with hm
        subst hm
        refine ⟨fun r hr => (by simp at hr; subst hr; rfl), fun row r j c hr hc' => ?_, fun h => absurd rfl h, fun ho _ => by cases ho⟩
        cases row with
        | succ row => simp at hr
        | zero =>
          simp only [List.getElem?_cons_zero, Option.some.injEq] at hr
          subst hr
          cases j with
          | succ j => simp at hc'
          | zero =>
            simp only [List.getElem?_cons_zero, Option.some.injEq] at hc'
            subst hc'
            refine ⟨rfl, ?_, fun _ => hBlt⟩
            show w.cell? ((⟨Bs, 0, none⟩ : Addr).add (0 * 1 + 0)) = _
            rw [hadd]
            show w.cell? ⟨Bs, 0, none⟩ = _
            rw [hB]
            show _ = some (Value.slice (some ((⟨b, off, none⟩ : Addr).add (0 * 2))) len cap)
            rw [hadd]
            simp
      · injection hm with hm
        subst hm
        refine ⟨fun r hr => ?_, fun row r j c hr hc' => ?_, fun h => absurd rfl h, fun ho _ => by cases ho⟩
        · unfold spotRows at hr
          obtain ⟨x, -, rfl⟩ := List.mem_map.1 hr
          rfl
        · have hrl : row < len := by
            have := (List.getElem?_eq_some_iff.1 hr).1
            simpa [spotRows] using this
          rw [spotRows_get px py len row hrl] at hr
          injection hr with hr
          subst hr
          obtain ⟨c1, c2⟩ := hc row hrl
          match j, hc' with
          | 0, hc' =>
            simp only [List.getElem?_cons_zero, Option.some.injEq] at hc'
            subst hc'
            refine ⟨trivial, ?_, fun _ => hblt⟩
            show w.cell? ((⟨b, off, none⟩ : Addr).add (row * 2 + 0)) = _
            rw [hadd]
            exact c1
          | 1, hc' =>
            simp only [List.getElem?_cons_succ, List.getElem?_cons_zero, Option.some.injEq] at hc'
            subst hc'
            refine ⟨trivial, ?_, fun _ => hblt⟩
            show w.cell? ((⟨b, off, none⟩ : Addr).add (row * 2 + 1)) = _
            rw [hadd]
            exact c2
          | j + 2, hc' => simp at hc'
      · cases hm
    · unfold cst at hm
      simp only at hm
      split at hm
      · injection hm with hm; subst hm; cases ho
      · injection hm with hm; subst hm; cases ho
      · cases hm
    · obtain ⟨h, h'⟩ := hm
      obtain ⟨m1, m2⟩ := m
      simp only at h h'
      subst h
      have : m1 = 0 ∨ m1 = 1 := by omega
      rcases this with rfl | rfl <;> rfl
    · unfold cst
      simp only
      split
      · rename_i he; injection he with h1 h2; omega
      · rename_i he; injection he with h1 h2; omega
      · rfl
  have hrun := (creg_run y px py len cap k v2 v5 v6 v7 v8 (px k) (py k) (px ((k + 1) % len)) (py ((k + 1) % len)) (px ((k + 2) % len)) (py ((k + 2) % len)) _).mpr
    (show _ from ⟨rfl, ⟨by omega, by omega⟩, by rw [spotRows_len]; omega, by rw [Nat.zero_add]; exact spotRows_get px py len k hk, rfl, by omega,
      by rw [show ((k : Int) + 1) = (k : Int) + ((1 : Nat) : Int) from rfl, tmod_at hpos 1 (by omega)]; have := Nat.mod_lt (k + 1) hpos; omega,
      by rw [spotRows_len, show ((k : Int) + 1) = (k : Int) + ((1 : Nat) : Int) from rfl, tmod_at hpos 1 (by omega)]; have := Nat.mod_lt (k + 1) hpos; omega,
      by rw [show ((k : Int) + 1) = (k : Int) + ((1 : Nat) : Int) from rfl, tmod_at hpos 1 (by omega), Nat.zero_add]; exact spotRows_get px py len _ (Nat.mod_lt _ hpos), rfl, by omega,
      by rw [show ((k : Int) + 2) = (k : Int) + ((2 : Nat) : Int) from rfl, tmod_at hpos 2 (by omega)]; have := Nat.mod_lt (k + 2) hpos; omega,
      by rw [spotRows_len, show ((k : Int) + 2) = (k : Int) + ((2 : Nat) : Int) from rfl, tmod_at hpos 2 (by omega)]; have := Nat.mod_lt (k + 2) hpos; omega,
      by rw [show ((k : Int) + 2) = (k : Int) + ((2 : Nat) : Int) from rfl, tmod_at hpos 2 (by omega), Nat.zero_add]; exact spotRows_get px py len _ (Nat.mod_lt _ hpos), rfl⟩)
  refine wpIn_region_any follows ?_
  have hsz23 : cops.size = 23 := by kernel_rfl
  have hsz21 : cops'.size = 21 := by kernel_rfl
  have hlst : ∀ i, lst (Array.replicate 23 false) i = false := by
    intro i
    unfold lst
    rw [Array.getD_eq_getD_getElem?, Array.getElem?_replicate]
    split <;> rfl
  have hany := any_sound (ro := none) (rm := n) (ops := cops') (Q := offN Q (wpAnyIn Fence.wide n Tryz.prog .any cops Q 2 (upto 21 23))) tabOK eqOK (cok_all _) (N := 35) (fun o ho d hd => ?_) (regGo_mono _ _ _ _ _ (fun hf st' ⟨ds', hk⟩ => chk_spec hk) (regD_sound hrun)) hR ?_
  · refine wpAnyIn_prefix (ops := cops) (ops' := cops') (s := 21) (by rw [hsz23]; omega) ?_ hsz21 (by kernel_rfl) (offN_same (wpAnyIn Fence.wide n Tryz.prog .any cops Q 2 (upto 21 23))) (fun a w h => by rw [hsz23]; exact h) 21 (Array.replicate 23 false) (Array.replicate 21 false) a _ (by rw [hsz23]; rfl) rfl ?_ ?_ (fun i _ => hlst i) (by kernel_rfl) ?_
    · intro i hi
      unfold cops'
      rw [List.getElem?_toArray, List.getElem?_take, if_pos hi, Array.getElem?_toList]
    · intro i hi
      rw [Array.getElem?_replicate, Array.getElem?_replicate, if_pos hi, if_pos (by omega)]
    · intro i o _ h
      rw [hlst] at h
      cases h
    · rw [← hsz21]
      exact hany
  · have : (cops'.toList.all fun o => match o.dst with | some d => decide (d < 35) | none => true) = true := by kernel_rfl
    have := List.all_eq_true.1 this o ho
    rw [hd] at this
    simpa using this
  · intro st' ν' a' w' hlook hR'
    simp only [clook, List.cons.injEq, and_true] at hlook
    obtain ⟨g0, g1, g2, g3, g5, g6, g7, g8, g11, g31⟩ := hlook
    have hget : ∀ s v, st'.slots s = v → v ≠ .und → a'.tmps.getD s undef = v.conc ν' := by
      intro s v hs hv
      rcases hR'.slots s with h | ⟨-, h⟩
      · rw [hs] at h; exact absurd h hv
      · rw [hs] at h; exact h
    have hν : ν' (0, 0) = (⟨Bs, 0, none⟩, 1) := (hR'.hr.anc (0, 0) ⟨rfl, by decide⟩).2.2
    have k0 := hget 0 _ g0 (by simp)
    have k1 := hget 1 _ g1 (by simp)
    have k2 := hget 2 _ g2 (by simp)
    have k3 := hget 3 _ g3 (by simp)
    have k5 := hget 5 _ g5 (by simp)
    have k6 := hget 6 _ g6 (by simp)
    have k7 := hget 7 _ g7 (by simp)
    have k8 := hget 8 _ g8 (by simp)
    have k11 := hget 11 _ g11 (by simp)
    have k31 := hget 31 _ g31 (by simp)
    have k1' : a'.tmps.getD 1 undef = .pointer (some ⟨Bs, 0, none⟩) := by
      rw [k1]
      simp only [AV.conc, Cell.conc, hν]
      rfl
    have hsz' := hR'.size
    have hdf' := hR'.defers
    have hone : ∀ {i fuel : Nat} {listed : Array Bool} {o : Oper} {a : Act} {w : World}, Region.ready .any cops listed = [i] → cops[i]? = some o → o.guard = none →
        o.wpIn Fence.wide n Tryz.prog a w (wpAnyIn Fence.wide n Tryz.prog .any cops Q fuel (listed.setIfInBounds i true)) Q → wpAnyIn Fence.wide n Tryz.prog .any cops Q (fuel + 1) listed a w := by
      intro i fuel listed o a w hr ho hg h
      refine ⟨fun h0 => (by rw [hr] at h0; cases h0), fun j hj => ?_⟩
      rw [hr] at hj
      obtain rfl : j = i := by simpa using hj
      unfold wpOpIn
      rw [ho]
      simp only [Region.wanted, hg, if_true]
      exact h
    show wpAnyIn Fence.wide n Tryz.prog .any cops Q (1 + 1) (upto 21 23) a' w'
    obtain ⟨fn, tmps, assign, body, hy, hround⟩ := hY w' hR'.hr.below
    obtain ⟨o21, ho21, hop21, hd21, hg21⟩ : ∃ o, cops[21]? = some o ∧ o.op = .call { callee := .value (.tmp 11), args := #[.tmp 31], argTypes := #[133] } ∧ o.dst = some 32 ∧ o.guard = none := ⟨_, rfl, rfl, rfl, rfl⟩
    obtain ⟨o22, ho22, hop22, hd22, hg22⟩ : ∃ o, cops[22]? = some o ∧ o.op = .unOp .not 4 (.tmp 32) ∧ o.dst = some 33 ∧ o.guard = none := ⟨_, rfl, rfl, rfl, rfl⟩
    refine hone (i := 21) (by kernel_rfl) ho21 hg21 ?_
    refine wpIn_of_run (ro := none) (fun c hc => by rw [hop21] at hc; cases hc) ?_
    have e11 : a'.eval (.tmp 11) = .func (.yield l) #[] #[] := by show a'.tmps.getD 11 undef = _; rw [k11]; exact hyv
    have e31 : a'.eval (.tmp 31) = cornerV px py len k := by show a'.tmps.getD 31 undef = _; rw [k31]; rfl
    have hrun21 : (execOp a'.eval o21).run Tryz.prog w' = .ok (.round l fn tmps assign body) w' := by
      simp only [execOp, hop21, resolve, e11, Deferred.ofValue, invoke, Sem.run_bind, Sem.run_pure, Result.andThen, Array.empty_append]
      have hmap : Array.map a'.eval #[Operand.tmp 31] = #[cornerV px py len k] := by
        simp [e31]
      rw [hmap]
      exact hy
    rw [hrun21, Oper.uponIn_round]
    refine ⟨fun h => (by cases h), hround.mono fun e w'' hh => ?_⟩
    obtain ⟨bo, rfl, hpost⟩ := hh
    refine hone (i := 22) (by kernel_rfl) ho22 hg22 ?_
    refine wpIn_of_run (ro := none) (fun c hc => by rw [hop22] at hc; cases hc) ?_
    have e32 : (a'.put o21.dst (.bool bo)).eval (.tmp 32) = .bool bo := by
      show (a'.put o21.dst (.bool bo)).tmps.getD 32 undef = _
      rw [hd21]
      exact put_same (by rw [hsz']; omega)
    have hrun22 : (execOp (a'.put o21.dst (.bool bo)).eval o22).run Tryz.prog w'' = .ok (.value (.bool (!bo))) w'' := by
      simp [execOp, hop22, e32, Op.unary]
    rw [hrun22, Oper.uponIn_value]
    refine wpAnyIn_done (by kernel_rfl) ?_ 0
    rw [hd21, hd22]
    refine hK bo _ w'' hpost hdf' (by simp only [Act.put, Array.size_setIfInBounds]; exact hsz') ?_ ?_ ?_ ?_ ?_ ?_ ?_ ?_ ?_
    · rw [put_ne (by omega), put_ne (by omega)]; exact k0
    · rw [put_ne (by omega), put_ne (by omega)]; exact k1'
    · rw [put_ne (by omega), put_ne (by omega)]; exact k2
    · rw [put_ne (by omega), put_ne (by omega)]; exact k3
    · rw [put_ne (by omega), put_ne (by omega)]; exact k5
    · rw [put_ne (by omega), put_ne (by omega)]; exact k6
    · rw [put_ne (by omega), put_ne (by omega)]; exact k7
    · rw [put_ne (by omega), put_ne (by omega)]; exact k8
    · exact put_same (by simp only [Act.put, Array.size_setIfInBounds]; rw [hsz']; omega)
theorem list35 {tl : List Value} {d : List Deferred} (h : (⟨⟨tl⟩, d⟩ : Act).tmps.size = 35) : ∃ t0 t1 t2 t3 t4 t5 t6 t7 t8 t9 t10 t11 t12 t13 t14 t15 t16 t17 t18 t19 t20 t21 t22 t23 t24 t25 t26 t27 t28 t29 t30 t31 t32 t33 t34, tl = [t0, t1, t2, t3, t4, t5, t6, t7, t8, t9, t10, t11, t12, t13, t14, t15, t16, t17, t18, t19, t20, t21, t22, t23, t24, t25, t26, t27, t28, t29, t30, t31, t32, t33, t34] := by
  have h : tl.length = 35 := h
  rcases tl with _ | ⟨t0, tl⟩
  · simp at h
  rcases tl with _ | ⟨t1, tl⟩
  · simp at h
  rcases tl with _ | ⟨t2, tl⟩
  · simp at h
  rcases tl with _ | ⟨t3, tl⟩
  · simp at h
  rcases tl with _ | ⟨t4, tl⟩
  · simp at h
  rcases tl with _ | ⟨t5, tl⟩
  · simp at h
  rcases tl with _ | ⟨t6, tl⟩
  · simp at h
  rcases tl with _ | ⟨t7, tl⟩
  · simp at h
  rcases tl with _ | ⟨t8, tl⟩
  · simp at h
  rcases tl with _ | ⟨t9, tl⟩
  · simp at h
  rcases tl with _ | ⟨t10, tl⟩
  · simp at h
  rcases tl with _ | ⟨t11, tl⟩
  · simp at h
  rcases tl with _ | ⟨t12, tl⟩
  · simp at h
  rcases tl with _ | ⟨t13, tl⟩
  · simp at h
  rcases tl with _ | ⟨t14, tl⟩
  · simp at h
  rcases tl with _ | ⟨t15, tl⟩
  · simp at h
  rcases tl with _ | ⟨t16, tl⟩
  · simp at h
  rcases tl with _ | ⟨t17, tl⟩
  · simp at h
  rcases tl with _ | ⟨t18, tl⟩
  · simp at h
  rcases tl with _ | ⟨t19, tl⟩
  · simp at h
  rcases tl with _ | ⟨t20, tl⟩
  · simp at h
  rcases tl with _ | ⟨t21, tl⟩
  · simp at h
  rcases tl with _ | ⟨t22, tl⟩
  · simp at h
  rcases tl with _ | ⟨t23, tl⟩
  · simp at h
  rcases tl with _ | ⟨t24, tl⟩
  · simp at h
  rcases tl with _ | ⟨t25, tl⟩
  · simp at h
  rcases tl with _ | ⟨t26, tl⟩
  · simp at h
  rcases tl with _ | ⟨t27, tl⟩
  · simp at h
  rcases tl with _ | ⟨t28, tl⟩
  · simp at h
  rcases tl with _ | ⟨t29, tl⟩
  · simp at h
  rcases tl with _ | ⟨t30, tl⟩
  · simp at h
  rcases tl with _ | ⟨t31, tl⟩
  · simp at h
  rcases tl with _ | ⟨t32, tl⟩
  · simp at h
  rcases tl with _ | ⟨t33, tl⟩
  · simp at h
  rcases tl with _ | ⟨t34, tl⟩
  · simp at h
  rcases tl with _ | ⟨z, tl⟩
  · exact ⟨t0, t1, t2, t3, t4, t5, t6, t7, t8, t9, t10, t11, t12, t13, t14, t15, t16, t17, t18, t19, t20, t21, t22, t23, t24, t25, t26, t27, t28, t29, t30, t31, t32, t33, t34, rfl⟩
  · simp at h
set_option maxRecDepth 100000 in
set_option maxHeartbeats 4000000 in
/-- The closure that plane.corners hands back: every corner in its turn, till the loop's body says no. -/
theorem corners1_in (n : Nat) (hn : 1 ≤ n) (l Bs b off len cap : Nat) (sa : Option Addr) (hsa : sa = some ⟨b, off, none⟩ ∨ len = 0) (px py : Nat → Int) (hlen : len ≤ 1000) (J Jx : List Nat → World → Prop)
    (OK : World → Prop) (hOK : ∀ W, OK W ↔ (W.cell? ⟨Bs, 0, none⟩ = some (.slice sa len cap) ∧ ∀ j, j < len → W.cell? ⟨b, off + j * 2, none⟩ = some (.int .i64 (px j)) ∧ W.cell? ⟨b, off + j * 2 + 1, none⟩ = some (.int .i64 (py j))))
    (hJ : ∀ s W W', J s W → Below W.heap.size W W' → J s W')
    (hY : ∀ pre x W, x < len → J pre W → pre.length < len → YieldAt Fence.wide (n - 1) Tryz.prog l #[cornerV px py len x] W fun e W' =>
      (e = .returned (.bool true) ∧ J (pre ++ [x]) W' ∧ (OK W → OK W')) ∨ (e = .returned (.bool false) ∧ Jx (pre ++ [x]) W'))
    (W : World) (hW : OK W) (h0 : J [] W) :
    CallsIn Fence.wide n Tryz.prog 116 #[.func (.yield l) #[] #[], .pointer (some ⟨Bs, 0, none⟩)] W fun e W' => (∃ v, e = .returned v) ∧
      ((∃ ys, ys = List.range len ∧ J ys W') ∨ (∃ pre, (∃ k, k < len ∧ pre = List.range (k + 1)) ∧ Jx pre W')) := by
  have hOKb : ∀ W W', OK W → Below W.heap.size W W' → OK W' := by
    intro W W' h hb
    obtain ⟨h1, h2⟩ := (hOK W).1 h
    exact (hOK W').2 ⟨(hb.cell (World.block_lt_of_cell? W _ h1)).trans h1, fun j hj => ⟨(hb.cell (World.block_lt_of_cell? W _ (h2 j hj).1)).trans (h2 j hj).1, (hb.cell (World.block_lt_of_cell? W _ (h2 j hj).2)).trans (h2 j hj).2⟩⟩
  refine callsIn_of_wp Tryz.func116 rfl trivial ?_ rfl
  simp only [Tryz.ntmps116, List.size_toArray, List.length_cons, List.length_nil, Nat.reduceAdd, Nat.reduceSub, Array.replicate_succ, Array.replicate_zero, List.push_toArray, List.append_toArray, List.nil_append, List.cons_append]
  have hbs := ((hOK W).1 hW).1
  gi_wp2
  gi_loopw [8] (fun i wr => ∃ k : Nat, k ≤ len ∧ i = .int .i64 k ∧ J (List.range k) wr ∧ OK wr)
    (fun i _ => len - (intOf i).toNat)
  case atStart => exact ⟨0, Nat.zero_le _, rfl, h0, hW⟩
  case round =>
    obtain ⟨k, hk, rfl, hJs, hnx⟩ := hrel
    by_cases hlt : k < len
    · obtain ⟨hc0, hcs⟩ := (hOK _).1 hnx
      rw [show sa = some ⟨b, off, none⟩ from hsa.resolve_right (by omega)] at hc0
      gi_wp2
      refine corners_reg (n := n) (y := .func (.yield l) #[] #[]) (px := px) (py := py) (len := len) (cap := cap) (k := k) (Bs := Bs) (b := b) (off := off) hlt hlen rfl rfl rfl rfl rfl rfl rfl rfl rfl rfl rfl hc0 hcs (l := l) rfl
        (Post := fun bo W' => (bo = true ∧ J (List.range (k + 1)) W' ∧ OK W') ∨ (bo = false ∧ Jx (List.range (k + 1)) W')) ?_ ?_
      · intro w' hb
        obtain ⟨fn, tmps, assign, body, hy, hR⟩ := hY _ k w' hlt (hJ _ _ _ hJs hb) (by rw [List.length_range]; exact hlt)
        refine ⟨fn, tmps, assign, body, hy, hR.mono ?_⟩
        rintro e W' (⟨rfl, h1, h2⟩ | ⟨rfl, h1⟩)
        · exact ⟨true, rfl, .inl ⟨rfl, by rw [List.range_succ]; exact h1, h2 (hOKb _ _ hnx hb)⟩⟩
        · exact ⟨false, rfl, .inr ⟨rfl, by rw [List.range_succ]; exact h1⟩⟩
      · rintro bo ⟨⟨tl⟩, dl⟩ w3 hpost hdf hsz k0 k1 k2 k3 k5 k6 k7 k8 k33
        simp only at hdf
        subst hdf
        obtain ⟨t0, t1, t2, t3, t4, t5, t6, t7, t8, t9, t10, t11, t12, t13, t14, t15, t16, t17, t18, t19, t20, t21, t22, t23, t24, t25, t26, t27, t28, t29, t30, t31, t32, t33, t34, rfl⟩ : ∃ t0 t1 t2 t3 t4 t5 t6 t7 t8 t9 t10 t11 t12 t13 t14 t15 t16 t17 t18 t19 t20 t21 t22 t23 t24 t25 t26 t27 t28 t29 t30 t31 t32 t33 t34, tl = [t0, t1, t2, t3, t4, t5, t6, t7, t8, t9, t10, t11, t12, t13, t14, t15, t16, t17, t18, t19, t20, t21, t22, t23, t24, t25, t26, t27, t28, t29, t30, t31, t32, t33, t34] := list35 hsz
        simp [Array.getD] at k0 k1 k2 k3 k5 k6 k7 k8 k33
        subst k0 k1 k2 k3 k5 k6 k7 k8 k33
        rcases hpost with ⟨rfl, hJ3, hO3⟩ | ⟨rfl, hJx⟩
        · gi_wp2
          go_roundw
          case rel => exact ⟨k + 1, by omega, by simp, hJ3, hO3⟩
          case measure => simp [intOf]; omega
        · gi_wp2
          refine bodyPost_ret (results_none rfl _ _ _) rfl ?_
          exact ⟨⟨_, rfl⟩, .inr ⟨List.range (k + 1), ⟨k, hlt, (by first | rfl | rw [List.range_succ])⟩, hJx⟩⟩
    · obtain rfl : k = len := by omega
      gi_wp2
      go_end0
      exact ⟨⟨_, rfl⟩, .inl ⟨_, rfl, hJs⟩⟩
end Go.Proofs.YtcbgfjidamoilaaGreat

