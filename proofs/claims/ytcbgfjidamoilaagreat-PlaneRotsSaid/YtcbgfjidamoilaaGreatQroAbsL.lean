/- The abstract machine run by the kernel; contracts of functions; loops; ranges over functions. -/
import Derived.Test.YtcbgfjidamoilaaGreatQroAbsK
set_option linter.unusedVariables false

set_option linter.unusedVariables false
namespace Go.AbsK
open Go.RowKit

/-- New names as a list. -/
def rnOf : List (Nm × Option Nm) → Rn
  | [], n => some n
  | (m, o) :: l, n => if n = m then o else rnOf l n
/-- What is handed to the run: which way a test goes; a row of a block; how often a loop goes round, or where it comes to; what is known of a function that is called. -/
inductive Dec where
  | br (b : Bool)
  | row (r : List Cell)
  | fuel (n : Nat)
  | to (sl : List (Nat × AV)) (hp : List (Nm × Blk)) (g k : Nat) (e : Exit) (s' : St)
  | tog (rl : List (Nm × Option Nm)) (sl : List (Nat × AV)) (hp : List (Nm × Blk)) (g k : Nat) (e : Exit) (s' : St)
  | use (O : POfn)
def chk (b : Bool) (K : Prop) : Prop := match b with
  | true => K
  | false => False
theorem chk_spec {b : Bool} {K : Prop} (h : chk b K) : b = true ∧ K := by
  cases b
  · exact h.elim
  · exact ⟨rfl, h⟩
def rowD (blk : Blk) (row : Nat) (ds : List Dec) (K : List Cell → List Dec → Prop) : Prop := match ds with
  | .row r :: ds' => blk.rows[row]? = some r ∧ K r ds'
  | ds => match blk.rows[row]? with
    | some r => K r ds
    | none => False
def orElse (o : Option Eff) (K : Eff → Prop) : Prop := match o with
  | some e => K e
  | none => False
def lk : List (Nat × AV) → Nat → AV
  | [], _ => .und
  | (s, v) :: r, k => if k = s then v else lk r k
def mkS (sl : List (Nat × AV)) (hp : List (Nm × Blk)) (g k : Nat) : St := { slots := lk sl, heap := updH none1 hp, gen := g, k := k }
def slotsL : List (Nat × AV) → St → Prop
  | [], _ => True
  | (s, v) :: r, t => t.slots s = v ∧ slotsL r t
def heapL : List (Nm × Blk) → St → Prop
  | [], _ => True
  | (n, b) :: r, t => t.heap n = some b ∧ heapL r t
def zeroL (hp : List (Nm × Blk)) (t : St) : Nat → Prop
  | 0 => True
  | i + 1 => updH none1 hp (i, 0) = t.heap (i, 0) ∧ zeroL hp t i
def closL (sl : List (Nat × AV)) (hp : List (Nm × Blk)) (g k : Nat) : Prop := (mkS sl hp g k).Closed
/-- The state that is written out says no more than t. -/
def LeL (sl : List (Nat × AV)) (hp : List (Nm × Blk)) (g k : Nat) (t : St) : Prop := slotsL sl t ∧ heapL hp t ∧ t.k = k ∧ zeroL hp t k ∧ closL sl hp g k
theorem leL_le {sl : List (Nat × AV)} {hp : List (Nm × Blk)} {g k : Nat} {t : St} (h : LeL sl hp g k t) : Le (mkS sl hp g k) t := by
  obtain ⟨h1, h2, h3, h4, h5⟩ := h
  refine ⟨fun s => ?_, fun n b hn => ?_, ⟨h3.symm, fun i hi => ?_⟩, h5⟩
  · show lk sl s = .und ∨ lk sl s = t.slots s
    clear h5
    induction sl with
    | nil => exact .inl rfl
    | cons p r ih =>
      obtain ⟨s', v⟩ := p
      unfold lk
      split
      · rename_i he; subst he; exact .inr h1.1.symm
      · exact ih h1.2
  · replace hn : updH none1 hp n = some b := hn
    clear h5 h4
    induction hp with
    | nil => cases hn
    | cons p r ih =>
      obtain ⟨m, b'⟩ := p
      replace hn : (if n = m then some b' else updH none1 r n) = some b := hn
      split at hn
      · rename_i he; injection hn with hn; subst he hn; exact h2.1
      · exact ih h2.2 hn
  · show updH none1 hp (i, 0) = t.heap (i, 0)
    rw [h3] at hi
    clear h3 h5
    induction k with
    | zero => omega
    | succ k ih =>
      by_cases hik : i = k
      · subst hik; exact h4.1
      · exact ih h4.2 (by omega)
def slotsG (ρ : Rn) : List (Nat × AV) → St → Prop
  | [], _ => True
  | (s, v) :: r, t => (v.ghOK ρ ∧ t.slots s = v.gh ρ) ∧ slotsG ρ r t
/-- The block b is, under the new names, the block tb; or it is a nil slice. -/
def HG (ρ : Rn) (n : Nm) (b : Blk) (tb : Option Blk) : Prop := match ρ n with
  | some _ => tb = some (b.gh ρ) ∧ ∀ r ∈ b.rows, ∀ c ∈ r, c.ghOK ρ
  | none => b.rows = [] ∧ b.cap.getD 0 = 0
def heapG (ρ : Rn) : List (Nm × Blk) → St → Prop
  | [], _ => True
  | (n, b) :: r, t => HG ρ n b (match ρ n with
    | some m => t.heap m
    | none => none) ∧ heapG ρ r t
def zeroG (ρ : Rn) (hp : List (Nm × Blk)) (t : St) : Nat → Prop
  | 0 => True
  | i + 1 => (ρ (i, 0) = some (i, 0) ∧ (t.heap (i, 0)).isSome = (updH none1 hp (i, 0)).isSome) ∧ zeroG ρ hp t i
def injB (ρ : Rn) : List (Nm × Blk) → Bool
  | [] => true
  | (n, _) :: r => (match ρ n with
    | some m => r.all (fun q => decide (q.1 = n) || !(decide (ρ q.1 = some m)))
    | none => true) && injB ρ r
def LeLG (ρ : Rn) (sl : List (Nat × AV)) (hp : List (Nm × Blk)) (g k : Nat) (t : St) : Prop := slotsG ρ sl t ∧ heapG ρ hp t ∧ t.k = k ∧ zeroG ρ hp t k ∧ injB ρ hp = true ∧ closL sl hp g k
theorem injB_spec {ρ : Rn} : ∀ {hp : List (Nm × Blk)}, injB ρ hp = true → ∀ n n' m, bd (updH none1 hp) n → bd (updH none1 hp) n' → ρ n = some m → ρ n' = some m → n = n'
  | [], _, n, n', m, h1, _, _, _ => by cases h1
  | (k, b) :: r, h, n, n', m, h1, h2, h3, h4 => by
    simp only [injB, Bool.and_eq_true] at h
    obtain ⟨ha, hb⟩ := h
    have hmem : ∀ x, x ≠ k → bd (updH none1 ((k, b) :: r)) x → bd (updH none1 r) x ∧ ∃ q ∈ r, q.1 = x := by
      intro x hx hbx
      unfold bd at hbx ⊢
      replace hbx : (if x = k then some b else updH none1 r x).isSome = true := hbx
      rw [if_neg hx] at hbx
      obtain ⟨bb, hbb⟩ := Option.isSome_iff_exists.1 hbx
      exact ⟨hbx, _, mem_updH hbb, rfl⟩
    by_cases e1 : n = k
    · by_cases e2 : n' = k
      · rw [e1, e2]
      · obtain ⟨-, q, hq, rfl⟩ := hmem n' e2 h2
        subst e1
        rw [h3] at ha
        simp only at ha
        have := List.all_eq_true.1 ha q hq
        simp only [h4, decide_true, Bool.not_true, Bool.or_false, decide_eq_true_eq] at this
        exact absurd this e2
    · by_cases e2 : n' = k
      · obtain ⟨-, q, hq, rfl⟩ := hmem n e1 h1
        subst e2
        rw [h4] at ha
        simp only at ha
        have := List.all_eq_true.1 ha q hq
        simp only [h3, decide_true, Bool.not_true, Bool.or_false, decide_eq_true_eq] at this
        exact absurd this e1
      · exact injB_spec hb n n' m (hmem n e1 h1).1 (hmem n' e2 h2).1 h3 h4
theorem leLG_cov {ρ : Rn} {sl : List (Nat × AV)} {hp : List (Nm × Blk)} {g k : Nat} {t : St} (h : LeLG ρ sl hp g k t) : LeG ρ (mkS sl hp g k) t := by
  obtain ⟨h1, h2, h3, h4, h5, h6⟩ := h
  refine ⟨fun s => ?_, fun n b hn => ?_, injB_spec h5, h3.symm, fun i hi => ?_, h6⟩
  · show lk sl s = .und ∨ ((lk sl s).ghOK ρ ∧ t.slots s = (lk sl s).gh ρ)
    clear h6
    induction sl with
    | nil => exact .inl rfl
    | cons p r ih =>
      obtain ⟨s', v⟩ := p
      unfold lk
      split
      · rename_i he; subst he; exact .inr h1.1
      · exact ih h1.2
  · replace hn : updH none1 hp n = some b := hn
    clear h6 h5 h4
    induction hp with
    | nil => cases hn
    | cons p r ih =>
      obtain ⟨m, b'⟩ := p
      replace hn : (if n = m then some b' else updH none1 r n) = some b := hn
      split at hn
      · rename_i he
        injection hn with hn
        subst he hn
        have h2 := h2.1
        unfold HG at h2
        cases hq : ρ n with
        | none => rw [hq] at h2; exact h2
        | some m => rw [hq] at h2; exact h2
      · exact ih h2.2 hn
  · rw [h3] at hi
    clear h3 h6
    induction k with
    | zero => omega
    | succ k ih =>
      by_cases hik : i = k
      · subst hik
        refine ⟨h4.1.1, fun hb => ?_⟩
        unfold bd at hb ⊢
        rw [h4.1.2] at hb
        exact hb
      · exact ih h4.2 (by omega)
/-- The loop, from s on, is left in the way e, and then s' is true. -/
def LoopTo (tab : Tab) (EQ : TypeId → Option Shp) (P : Program) (x : Code) (s : St) (e : Exit) (s' : St) : Prop :=
  e ≠ .normal ∧ ∃ I : Nat → St → Prop, (∃ n, I n s) ∧ ∀ n s1, I n s1 → wpC tab EQ (allC P) x (fun e2 st' => match e2 with
    | .normal => ∃ m s2, m < n ∧ I m s2 ∧ Cov s2 st'
    | e2 => e2 = e ∧ Cov s' st') s1
/-- Rounds until a result is there. -/
def iterO {σ ρ : Type} (step : σ → Option (σ ⊕ ρ)) : Nat → σ → Option ρ
  | 0, _ => none
  | n + 1, s => match step s with
    | none => none
    | some (.inl s') => iterO step n s'
    | some (.inr r) => some r
/-- What is to be shown of a round. -/
def RoundOK {σ ρ : Type} (tab : Tab) (EQ : TypeId → Option Shp) (P : Program) (x : Code) (step : σ → Option (σ ⊕ ρ)) (H : σ → St) (X : ρ → Exit × St) (s : σ) : Prop :=
  match step s with
  | none => True
  | some (.inl s') => wpC tab EQ (allC P) x (fun e2 st' => e2 = .normal ∧ Cov (H s') st') (H s)
  | some (.inr r) => (X r).1 ≠ .normal ∧ wpC tab EQ (allC P) x (fun e2 st' => e2 = (X r).1 ∧ Cov (X r).2 st') (H s)
theorem round_none {σ ρ : Type} {tab : Tab} {EQ : TypeId → Option Shp} {P : Program} {x : Code} {step : σ → Option (σ ⊕ ρ)} {H : σ → St} {X : ρ → Exit × St} {s : σ} (h : step s = none) : RoundOK tab EQ P x step H X s := by
  unfold RoundOK; rw [h]; trivial
theorem round_inl {σ ρ : Type} {tab : Tab} {EQ : TypeId → Option Shp} {P : Program} {x : Code} {step : σ → Option (σ ⊕ ρ)} {H : σ → St} {X : ρ → Exit × St} {s s' : σ} (h : step s = some (.inl s'))
    (hw : wpC tab EQ (allC P) x (fun e2 st' => e2 = .normal ∧ Cov (H s') st') (H s)) : RoundOK tab EQ P x step H X s := by
  unfold RoundOK; rw [h]; exact hw
theorem round_inr {σ ρ : Type} {tab : Tab} {EQ : TypeId → Option Shp} {P : Program} {x : Code} {step : σ → Option (σ ⊕ ρ)} {H : σ → St} {X : ρ → Exit × St} {s : σ} {r : ρ} {e : Exit} {s' : St} (h : step s = some (.inr r)) (hx : X r = (e, s')) (hne : e ≠ .normal)
    (hw : wpC tab EQ (allC P) x (fun e2 st' => e2 = e ∧ Cov s' st') (H s)) : RoundOK tab EQ P x step H X s := by
  unfold RoundOK; rw [h]; simp only [hx]; exact ⟨hne, hw⟩
theorem loopTo_iter {tab : Tab} {EQ : TypeId → Option Shp} {P : Program} {x : Code} {σ ρ : Type} {step : σ → Option (σ ⊕ ρ)} (H : σ → St) (X : ρ → Exit × St)
    (hround : ∀ s, RoundOK tab EQ P x step H X s)
    {n : Nat} {s : σ} {r : ρ} (h : iterO step n s = some r) : LoopTo tab EQ P x (H s) (X r).1 (X r).2 := by
  have hne : (X r).1 ≠ .normal := by
    induction n generalizing s with
    | zero => cases h
    | succ n ih =>
      unfold iterO at h
      have hr := hround s
      unfold RoundOK at hr
      split at h
      · cases h
      · exact ih h
      · rename_i r' hq
        injection h with h
        subst h
        rw [hq] at hr
        exact hr.1
  refine ⟨hne, fun m s1 => ∃ s, s1 = H s ∧ iterO step m s = some r, ⟨n, s, rfl, h⟩, ?_⟩
  rintro m s1 ⟨s, rfl, h⟩
  cases m with
  | zero => cases h
  | succ m =>
    unfold iterO at h
    have hr := hround s
    unfold RoundOK at hr
    split at h
    · cases h
    · rename_i s' hq
      rw [hq] at hr
      refine wpC_mono x _ _ _ (fun e2 st' hh => ?_) hr
      obtain ⟨rfl, hh⟩ := hh
      exact ⟨m, H s', Nat.lt_succ_self m, ⟨s', rfl, h⟩, hh⟩
    · rename_i r' hq
      injection h with h
      subst h
      rw [hq] at hr
      refine wpC_mono x _ _ _ (fun e2 st' hh => ?_) hr.2
      obtain ⟨rfl, hh⟩ := hh
      cases he : (X r').1 <;> first | exact absurd he hne | (rw [he] at hh; exact ⟨rfl, hh⟩) | exact ⟨rfl, hh⟩
section
variable (tab : Tab) (EQ : TypeId → Option Shp) (P : Program) (st : St)
def loadD (t : TypeId) (x : Operand) (ds : List Dec) (K : Eff → List Dec → Prop) : Prop :=
  match tab t, st.ev x with
  | some ti, .c (.ptr n row w col) => match st.heap n with
    | some blk => chk (blk.w == w) (rowD blk row ds fun r ds' => match cut ti.d.isAgg r col ti.sz with
      | some v => K ⟨v, [], [n]⟩ ds'
      | none => False)
    | none => False
  | _, _ => False
def storeD (d : Option Tmp) (t : TypeId) (x y : Operand) (ds : List Dec) (K : Eff → List Dec → Prop) : Prop :=
  match d, tab t, st.ev x, (st.ev y).cells with
  | none, some ti, .c (.ptr n row w col), some cs => match st.heap n with
    | some blk => chk ((blk.w == w) && blk.own && (cs.length == ti.sz)) (rowD blk row ds fun r ds' =>
      chk (decide (col + cs.length ≤ r.length)) (K ⟨.und, [(n, { blk with rows := blk.rows.set row (over r col cs) })], [n]⟩ ds'))
    | none => False
  | _, _, _, _ => False
def indexD (o : Oper) (t : TypeId) (x ix : Operand) (ds : List Dec) (K : Eff → List Dec → Prop) : Prop :=
  match tab t, st.ev x, st.ev ix with
  | some ti, .c (.slc n row w len _), .c (.i _ v) => match ti.d with
    | .slice e => match tab e with
      | some te => match st.heap n with
        | some blk => chk (te.sz == w) ((0 ≤ v ∧ v < len) ∧ row + v.toNat < blk.rows.length ∧ K ⟨.c (.ptr n (row + v.toNat) w 0), [], [n]⟩ ds)
        | none => False
      | none => False
    | _ => False
  | _, _, _ => orElse (evOp tab EQ st o) fun e => K e ds
def strD (o : Oper) (t : TypeId) (x ix : Operand) (ds : List Dec) (K : Eff → List Dec → Prop) : Prop :=
  match tab t, st.ev x, st.ev ix, ds with
  | some ti, .c (.str s), .c (.i _ v), .row [.i _ n] :: ds' => match ti.d with
    | .string => strAt s v = some n ∧ K ⟨.c (.i .u8 n), [], []⟩ ds'
    | _ => False
  | _, _, _, _ => orElse (evOp tab EQ st o) fun e => K e ds
def binD (o : Oper) (op : BinOp) (x y : Operand) (ds : List Dec) (K : Eff → List Dec → Prop) : Prop :=
  match op, st.ev x, st.ev y with
  | .quo, .c (.i k a), .c (.i k' b) => chk (decide (k = k')) (b ≠ 0 ∧ K ⟨.c (.i k (k.wrap (a.tdiv b))), [], []⟩ ds)
  | .rem, .c (.i k a), .c (.i k' b) => chk (decide (k = k')) (b ≠ 0 ∧ K ⟨.c (.i k (a.tmod b)), [], []⟩ ds)
  | .shl, .c (.i k a), .c (.i _ b) => 0 ≤ b ∧ K ⟨.c (.i k (k.wrap (a * 2 ^ (min b.toNat k.bits)))), [], []⟩ ds
  | .shr, .c (.i k a), .c (.i _ b) => 0 ≤ b ∧ K ⟨.c (.i k (a.fdiv (2 ^ (min b.toNat k.bits)))), [], []⟩ ds
  | _, _, _ => orElse (evOp tab EQ st o) fun e => K e ds
def makeD (d : Option Tmp) (t : TypeId) (l c : Operand) (ds : List Dec) (K : Eff → List Dec → Prop) : Prop :=
  match tab t, st.ev l, st.ev c with
  | some ti, .c (.i .i64 n), .c (.i .i64 n') => match ti.d with
    | .slice e => match tab e with
      | some te => chk (decide (0 < te.sz)) ((n = n' ∧ 0 ≤ n ∧ n ≤ 9223372036854775807 ∧ te.by_ * n ≤ 281474976710656) ∧
        orElse (newA st d fun m => (.c (.slc m 0 te.sz n.toNat (some n.toNat)), ⟨List.replicate n.toNat te.zero, te.sz, e, true, some n.toNat⟩)) fun e => K e ds)
      | none => False
    | _ => False
  | _, _, _ => False
def sliceD (t : TypeId) (x lo : Operand) (ds : List Dec) (K : Eff → List Dec → Prop) : Prop :=
  match tab t, st.ev x, st.ev lo with
  | some ti, .c (.slc n row w len (some cp)), .c (.i .i64 v) => match ti.d with
    | .slice e => match tab e with
      | some te => chk (te.sz == w) ((0 ≤ v ∧ v ≤ len) ∧ K ⟨.c (.slc n (if cp = v.toNat then row else row + v.toNat) w (len - v.toNat) (some (cp - v.toNat))), [], []⟩ ds)
      | none => False
    | _ => False
  | _, _, _ => False
def callD (d : Option Tmp) (x : Operand) (args : Array Operand) (ds : List Dec) (K : Eff → List Dec → Prop) : Prop :=
  match st.ev x, evArgs st args.toList, d with
  | .fn f caps, some vs, some d => match st.blksOf (namesOf (vs ++ caps.map .c)), ds with
    | some bs, .use O :: ds' => match O (vs ++ caps.map .c) bs (mkNames d st.gen) with
      | some (p, r, nb) => FOK P f O ∧ p ∧ chk (nb.all (fun q => (st.heap q.1).isNone)) (K ⟨r, nb, namesOf (vs ++ caps.map .c) ++ nb.map (·.1)⟩ ds')
      | none => False
    | _, _ => False
  | _, _, _ => False
def appendD (d : Option Tmp) (args : Array Operand) (tys : Array TypeId) (ds : List Dec) (K : Eff → List Dec → Prop) : Prop :=
  match args.toList, tys.toList with
  | [s, x], [t, t'] => chk (t == t') (match tab t with
    | some ti => match ti.d with
      | .slice e => match tab e with
        | some te => match st.ev x, st.ev s with
          | .c .nils, .c .nils => K ⟨.c .nils, [], []⟩ ds
          | .c .nils, .c (.slc ns row ws ls (some cs)) => ls ≤ cs ∧ K ⟨.c (.slc ns row ws ls (some cs)), [], []⟩ ds
          | .c (.slc nx 0 wx lx _), .c .nils => match st.heap nx with
            | some bx => chk ((wx == te.sz) && (bx.w == te.sz) && decide (0 < te.sz) && decide (0 < te.by_)) (lx ≤ bx.rows.length ∧
              lx * te.by_ ≤ 140737488355328 ∧ orElse (newA st d fun n => (.c (.slc n 0 te.sz lx none), ⟨bx.rows.take lx, te.sz, e, true, none⟩)) fun f => K { f with rd := nx :: f.rd } ds)
            | none => False
          | .c (.slc nx 0 wx lx _), .c (.slc ns 0 ws ls cs) => match st.heap nx, st.heap ns with
            | some bx, some bs => chk ((wx == te.sz) && (bx.w == te.sz) && decide (0 < te.sz) && decide (0 < te.by_) && (ws == te.sz) && (bs.w == te.sz) && bs.own && (bs.ty == e) && !(decide (ns = nx)))
              (lx ≤ bx.rows.length ∧ ls = bs.rows.length ∧ cs = bs.cap ∧ (ls + lx) * te.by_ ≤ 140737488355328 ∧
              orElse (newA st d fun n => (.c (.slc n 0 te.sz (ls + lx) none), ⟨bs.rows ++ bx.rows.take lx, te.sz, e, true, none⟩)) fun f => K { f with blks := f.blks ++ [(ns, dead bs)], rd := nx :: ns :: f.rd } ds)
            | _, _ => False
          | _, _ => False
        | none => False
      | _ => False
    | none => False)
  | _, _ => False
def evD (o : Oper) (ds : List Dec) (K : Eff → List Dec → Prop) : Prop :=
  match o.op with
  | .pick c a b => match st.ev c, ds with
    | .c (.b t), .br v :: ds' => t = v ∧ K ⟨(match v with | true => st.ev a | false => st.ev b), [], []⟩ ds'
    | _, _ => False
  | .load t x => loadD tab st t x ds K
  | .store t x y => storeD tab st o.dst t x y ds K
  | .indexAddr t x ix => indexD tab EQ st o t x ix ds K
  | .index t x ix => strD tab EQ st o t x ix ds K
  | .binOp op _ x y _ => binD tab EQ st o op x y ds K
  | .makeSlice t l c => makeD tab st o.dst t l c ds K
  | .slice t x (some lo) none none => sliceD tab st t x lo ds K
  | .call { callee := .value x, args, argTypes := _ } => callD P st o.dst x args ds K
  | .call { callee := .builtin .append, args, argTypes } => appendD tab st o.dst args argTypes ds K
  | _ => orElse (evOp tab EQ st o) fun e => K e ds
end

def opD (tab : Tab) (EQ : TypeId → Option Shp) (P : Program) (all : Array Oper) (o : Oper) (st : St) (ds : List Dec) (K : HF → St → List Dec → Prop) : Prop :=
  match o.guard with
  | none => evD tab EQ P st o ds fun e ds' => K (hfOf e) (st.app o.dst e) ds'
  | some (j, want) => match (all[j]?).bind (·.dst) with
    | some s => match st.slots s with
      | .c (.b t) => (match ds with
        | .br v :: ds' => t = v ∧ (match v == want with
          | true => evD tab EQ P st o ds' fun e ds' => K (hfOf e) (st.app o.dst e) ds'
          | false => K ([], []) (st.app o.dst undE) ds')
        | _ => False)
      | .ext v => chk (!isBoolV v) (K ([], []) (st.app o.dst undE) ds)
      | _ => False
    | _ => False
def regD (tab : Tab) (EQ : TypeId → Option Shp) (P : Program) (all : Array Oper) : List Oper → St → List HF → List Dec → (List HF → St → List Dec → Prop) → Prop
  | [], st, acc, ds, K => K acc st ds
  | o :: os, st, acc, ds, K => opD tab EQ P all o st ds fun hf st' ds' => regD tab EQ P all os st' (acc ++ [hf]) ds' K
/-- A loop, round by round. -/
def loopD (body : (Exit → St → List Dec → Prop) → St → List Dec → Prop) (Q : Exit → St → List Dec → Prop) : Nat → St → List Dec → Prop
  | 0, _, _ => False
  | n + 1, st, ds => body (fun e st' ds' => match e with
      | .normal => loopD body Q n st' ds'
      | e => Q e st' ds') st.bump ds
noncomputable def wpD (tab : Tab) (EQ : TypeId → Option Shp) (P : Program) : Code → (Exit → St → List Dec → Prop) → St → List Dec → Prop
  | .skip, Q, st, ds => Q .normal st ds
  | .region _ ops draw, Q, st, ds => regD tab EQ P ops ops.toList st [] ds fun hf st' ds' => chk (!draw || drawOK ops hf) (Q .normal st' ds')
  | .seq x y, Q, st, ds => wpD tab EQ P x (fun e st' ds' => match e with
      | .normal => wpD tab EQ P y Q st' ds'
      | e => Q e st' ds') st ds
  | .cond c x y, Q, st, ds => match st.ev c, ds with
      | .c (.b t), .br v :: ds' => t = v ∧ (match v with
        | true => wpD tab EQ P x Q st ds'
        | false => wpD tab EQ P y Q st ds')
      | _, _ => False
  | .block id x, Q, st, ds => wpD tab EQ P x (fun e st' ds' => match e with
      | .exit id' => (match id' == id with
        | true => Q .normal st' ds'
        | false => Q (.exit id') st' ds')
      | e => Q e st' ds') st ds
  | .loop x, Q, st, ds => match ds with
      | .fuel n :: ds' => loopD (wpD tab EQ P x) Q n st ds'
      | .to sl hp g k e s' :: ds' => LeL sl hp g k st ∧ LoopTo tab EQ P x (mkS sl hp g k) e s' ∧ Q e s' ds'
      | .tog rl sl hp g k e s' :: ds' => LeLG (rnOf rl) sl hp g k st ∧ LoopTo tab EQ P x (mkS sl hp g k) e s' ∧ Q e s' ds'
      | _ => False
  | .exit id, Q, st, ds => Q (.exit id) st ds
  | .ret, Q, st, ds => Q .ret st ds
  | .label _, Q, st, ds => Q .normal st ds
  | _, _, _, _ => False
section
variable {tab : Tab} {EQ : TypeId → Option Shp} {P : Program} {st : St}
theorem orElse_spec {o : Option Eff} {K : Eff → Prop} (h : orElse o K) : ∃ e, o = some e ∧ K e := by
  unfold orElse at h
  split at h
  · exact ⟨_, rfl, h⟩
  · exact h.elim
theorem rowD_spec {blk : Blk} {row : Nat} {ds : List Dec} {K : List Cell → List Dec → Prop} (h : rowD blk row ds K) : ∃ r ds', blk.rows[row]? = some r ∧ K r ds' := by
  unfold rowD at h
  split at h
  · exact ⟨_, _, h.1, h.2⟩
  · split at h
    · rename_i r hr
      exact ⟨r, _, hr, h⟩
    · exact h.elim
theorem evR_of {C : Orc} {o : Oper} {e : Eff} (h : evOp tab EQ st o = some e) : EvR tab EQ C st o e := by
  unfold EvR
  split
  · rename_i ho
    unfold evOp at h
    simp only [ho] at h
    cases h
  · exact h
theorem evD_sound {o : Oper} {ds : List Dec} {K : Eff → List Dec → Prop} (h : evD tab EQ P st o ds K) : ∃ e ds', EvR tab EQ (allC P) st o e ∧ K e ds' := by
  unfold evD at h
  split at h
  · rename_i c a b ho
    split at h
    · rename_i t v ds' hc
      obtain ⟨rfl, h⟩ := h
      refine ⟨_, _, evR_of ?_, h⟩
      unfold evOp
      simp only [ho, hc]
      cases t <;> rfl
    · exact h.elim
  · rename_i t x ho
    unfold loadD at h
    split at h
    · rename_i ti n row w col hti hx
      split at h
      · rename_i blk hb
        obtain ⟨h1, h⟩ := chk_spec h
        obtain ⟨r, ds', h2, h⟩ := rowD_spec h
        split at h
        · rename_i v hv
          refine ⟨_, _, evR_of ?_, h⟩
          unfold evOp
          simp only [ho, hti, hx, hb, if_pos (beq_iff_eq.1 h1), h2, hv, Option.map_some]
        · exact h.elim
      · exact h.elim
    · exact h.elim
  · rename_i t x y ho
    unfold storeD at h
    split at h
    · rename_i ti n row w col cs hd hti hx hy
      split at h
      · rename_i blk hb
        obtain ⟨h1, h⟩ := chk_spec h
        obtain ⟨r, ds', h2, h⟩ := rowD_spec h
        obtain ⟨h3, h⟩ := chk_spec h
        simp only [Bool.and_eq_true, beq_iff_eq] at h1
        refine ⟨_, _, evR_of ?_, h⟩
        unfold evOp
        simp only [ho, hd, hti, hx, hy, hb, if_pos (show blk.w = w ∧ blk.own = true ∧ cs.length = ti.sz from ⟨h1.1.1, h1.1.2, h1.2⟩), h2, if_pos (of_decide_eq_true h3)]
      · exact h.elim
    · exact h.elim
  · rename_i t x ix ho
    unfold indexD at h
    split at h
    · rename_i ti n row w len cap k v hti hx hi
      split at h
      · rename_i el hel
        split at h
        · rename_i te hte
          split at h
          · rename_i blk hblk
            obtain ⟨h1, h2, h3, h⟩ := chk_spec h
            refine ⟨_, _, evR_of ?_, h⟩
            unfold evOp
            simp only [ho, hti, hx, hi, hel, hte, hblk, if_pos (show te.sz = w ∧ (0 ≤ v ∧ v < len) ∧ row + v.toNat < blk.rows.length from ⟨beq_iff_eq.1 h1, h2, h3⟩)]
          · exact h.elim
        · exact h.elim
      · exact h.elim
    · obtain ⟨e, h1, h2⟩ := orElse_spec h
      exact ⟨e, _, evR_of h1, h2⟩
  · rename_i t x ix ho
    unfold strD at h
    split at h
    · rename_i ti s k v k' n ds' hti hx hi
      split at h
      · rename_i hfs
        obtain ⟨h1, h⟩ := h
        refine ⟨_, _, evR_of ?_, h⟩
        unfold evOp
        simp only [ho, hti, hx, hi, hfs, h1, Option.map_some]
      · exact h.elim
    · obtain ⟨e, h1, h2⟩ := orElse_spec h
      exact ⟨e, _, evR_of h1, h2⟩
  · rename_i op t x y yt ho
    unfold binD at h
    split at h
    · rename_i k a k' b hx hy
      obtain ⟨h1, h2, h⟩ := chk_spec h
      refine ⟨_, _, evR_of ?_, h⟩
      unfold evOp
      simp only [ho, hx, hy, binA, isShift, Bool.false_eq_true, if_false, if_pos (of_decide_eq_true h1), binInt, if_neg h2, Option.map_some]
    · rename_i k a k' b hx hy
      obtain ⟨h1, h2, h⟩ := chk_spec h
      refine ⟨_, _, evR_of ?_, h⟩
      unfold evOp
      simp only [ho, hx, hy, binA, isShift, Bool.false_eq_true, if_false, if_pos (of_decide_eq_true h1), binInt, if_neg h2, Option.map_some]
    · rename_i k a k' b hx hy
      obtain ⟨h2, h⟩ := h
      refine ⟨_, _, evR_of ?_, h⟩
      unfold evOp
      simp only [ho, hx, hy, binA, isShift, if_true, shiftInt, if_neg (show ¬ b < 0 by omega), Option.map_some]
    · rename_i k a k' b hx hy
      obtain ⟨h2, h⟩ := h
      refine ⟨_, _, evR_of ?_, h⟩
      unfold evOp
      simp only [ho, hx, hy, binA, isShift, if_true, shiftInt, if_neg (show ¬ b < 0 by omega), Option.map_some]
    · obtain ⟨e, h1, h2⟩ := orElse_spec h
      exact ⟨e, _, evR_of h1, h2⟩
  · rename_i t l c ho
    unfold makeD at h
    split at h
    · rename_i ti n n' hti hl hc
      split at h
      · rename_i el hel
        split at h
        · rename_i te hte
          obtain ⟨h1, ⟨rfl, h2, h3, h4⟩, hk⟩ := chk_spec h
          obtain ⟨e, h5, hk⟩ := orElse_spec hk
          refine ⟨e, _, evR_of ?_, hk⟩
          unfold evOp
          simp only [ho, hti, hl, hc, hel, hte, h5]
          rw [if_pos ⟨trivial, h2, of_decide_eq_true h1, h3, h4⟩]
        · exact h.elim
      · exact h.elim
    · exact h.elim
  · rename_i t x lo ho
    unfold sliceD at h
    split at h
    · rename_i ti n row w len cp v hti hx hi
      split at h
      · rename_i el hel
        split at h
        · rename_i te hte
          obtain ⟨h1, h2, h⟩ := chk_spec h
          refine ⟨_, _, evR_of ?_, h⟩
          unfold evOp
          simp only [ho, hti, hx, hi, hel, hte, if_pos (show te.sz = w ∧ 0 ≤ v ∧ v ≤ len from ⟨beq_iff_eq.1 h1, h2⟩)]
        · exact h.elim
      · exact h.elim
    · exact h.elim
  · rename_i x args tys ho
    unfold callD at h
    split at h
    · rename_i f caps vs d hx hvs hd
      split at h
      · rename_i bs O ds' hbs
        split at h
        · rename_i p r nb hp
          obtain ⟨hO, h1, h⟩ := h
          obtain ⟨h2, h⟩ := chk_spec h
          refine ⟨_, _, ?_, h⟩
          unfold EvR
          simp only [ho, hx, hvs]
          exact ⟨d, bs, r, nb, hd, hbs, ⟨O, hO, p, hp, h1⟩, h2, rfl⟩
        · exact h.elim
      · exact h.elim
    · exact h.elim
  · rename_i args tys ho
    unfold appendD at h
    split at h
    rotate_left
    · exact h.elim
    rename_i s x t t' hargs htys
    obtain ⟨h1, h9⟩ := chk_spec h
    clear h
    have htt := beq_iff_eq.1 h1
    clear h1
    subst htt
    have h := h9
    clear h9
    split at h
    rotate_left
    · exact h.elim
    rename_i ti hti
    split at h
    rotate_left
    · exact h.elim
    rename_i el hel
    split at h
    rotate_left
    · exact h.elim
    rename_i te hte
    have hev : ∀ e, appendA tab t st o.dst (st.ev s) (st.ev x) = some e → evOp tab EQ st o = some e := by
      intro e he
      unfold evOp
      simp only [ho, hargs, htys, if_true, he]
    split at h
    · rename_i hx hs
      refine ⟨_, _, evR_of (hev _ ?_), h⟩
      unfold appendA
      simp only [hti, hel, hte, hx, hs]
    · rename_i ns row ws ls cs hx hs
      obtain ⟨h2, h⟩ := h
      refine ⟨_, _, evR_of (hev _ ?_), h⟩
      unfold appendA
      simp only [hti, hel, hte, hx, hs, if_pos h2]
    · rename_i nx wx lx cx hx hs
      split at h
      rotate_left
      · exact h.elim
      rename_i bx hbx
      obtain ⟨h2, h3, h5, h⟩ := chk_spec h
      simp only [Bool.and_eq_true, beq_iff_eq, decide_eq_true_eq] at h2
      obtain ⟨⟨⟨c1, c2⟩, c3⟩, c4⟩ := h2
      have hc : wx = te.sz ∧ bx.w = te.sz ∧ lx ≤ bx.rows.length ∧ 0 < te.sz ∧ 0 < te.by_ := ⟨c1, c2, h3, c3, c4⟩
      obtain ⟨f, hf, h⟩ := orElse_spec h
      refine ⟨_, _, evR_of (hev _ ?_), h⟩
      unfold appendA
      simp only [hti, hel, hte, hx, hs, hbx, if_pos hc, if_pos h5, hf, Option.map_some]
    · rename_i nx wx lx cx ns ws ls cs hx hs
      split at h
      rotate_left
      · exact h.elim
      rename_i bx bs hbx hbs
      obtain ⟨h2, h3, h4, h5, h6, h⟩ := chk_spec h
      simp only [Bool.and_eq_true, beq_iff_eq, decide_eq_true_eq, Bool.not_eq_true', decide_eq_false_iff_not] at h2
      obtain ⟨⟨⟨⟨⟨⟨⟨⟨c1, c2⟩, c3⟩, c4⟩, c5⟩, c6⟩, c7⟩, c8⟩, c9⟩ := h2
      have hc : wx = te.sz ∧ bx.w = te.sz ∧ lx ≤ bx.rows.length ∧ 0 < te.sz ∧ 0 < te.by_ := ⟨c1, c2, h3, c3, c4⟩
      obtain ⟨f, hf, h⟩ := orElse_spec h
      refine ⟨_, _, evR_of (hev _ ?_), h⟩
      unfold appendA
      simp only [hti, hel, hte, hx, hs, hbx, hbs, if_pos hc, if_pos (show ws = te.sz ∧ bs.w = te.sz ∧ bs.own = true ∧ bs.ty = el ∧ ls = bs.rows.length ∧ cs = bs.cap ∧ ns ≠ nx ∧ (ls + lx) * te.by_ ≤ 140737488355328 from ⟨c5, c6, c7, c8, h4, h5, c9, h6⟩), hf, Option.map_some]
    · exact h.elim
  · obtain ⟨e, h1, h2⟩ := orElse_spec h
    exact ⟨e, _, evR_of h1, h2⟩
theorem opD_sound {all : Array Oper} {o : Oper} {ds : List Dec} {K : HF → St → List Dec → Prop} (h : opD tab EQ P all o st ds K) : opGo tab EQ (allC P) all o st fun hf st' => ∃ ds', K hf st' ds' := by
  unfold opD at h
  unfold opGo guardA
  split at h
  · rename_i hg
    try rw [hg]
    obtain ⟨e, ds', h1, h2⟩ := evD_sound h
    exact ⟨fun _ => ⟨e, h1, ds', h2⟩, fun h => by cases h⟩
  · rename_i j want hg
    try rw [hg]
    split at h
    · rename_i s hs
      simp only [hs]
      split at h
      · rename_i t ht
        split at h
        · rename_i v ds'
          obtain ⟨rfl, hk⟩ := h
          simp only [ht]
          cases hq : t == want with
          | true =>
            rw [hq] at hk
            obtain ⟨e, ds', h1, h2⟩ := evD_sound hk
            exact ⟨fun _ => ⟨e, h1, ds', h2⟩, fun h => by cases h⟩
          | false =>
            rw [hq] at hk
            exact ⟨(fun h => by cases h), fun _ => ⟨_, hk⟩⟩
        · exact h.elim
      · rename_i v hv
        obtain ⟨h1, h2⟩ := chk_spec h
        have hb : isBoolV v = false := by simpa using h1
        simp only [hv, hb, Bool.false_eq_true, if_false]
        exact ⟨(fun h => by cases h), fun _ => ⟨_, h2⟩⟩
      · exact h.elim
    · exact h.elim
theorem opGo_mono {C : Orc} {all : Array Oper} {o : Oper} {K K' : HF → St → Prop} (h : opGo tab EQ C all o st K) (hk : ∀ f s, K f s → K' f s) : opGo tab EQ C all o st K' := by
  unfold opGo at h ⊢
  split at h
  · exact h.elim
  · refine ⟨fun hg => ?_, fun hg => hk _ _ (h.2 hg)⟩
    obtain ⟨e, he, h1⟩ := h.1 hg
    exact ⟨e, he, hk _ _ h1⟩
theorem regD_sound {all : Array Oper} : ∀ {os : List Oper} {st : St} {acc : List HF} {ds : List Dec} {K : List HF → St → List Dec → Prop}, regD tab EQ P all os st acc ds K → regGo tab EQ (allC P) all os st acc fun hf st' => ∃ ds', K hf st' ds'
  | [], st, acc, ds, K, h => ⟨ds, h⟩
  | o :: os, st, acc, ds, K, h => opGo_mono (opD_sound h) fun hf st' ⟨ds', h'⟩ => regD_sound (os := os) h'
theorem wpD_sound : ∀ (c : Code) (Q : Exit → St → List Dec → Prop) (st : St) (ds : List Dec), wpD tab EQ P c Q st ds → wpC tab EQ (allC P) c (fun e st' => ∃ ds', Q e st' ds') st
  | .skip, Q, st, ds, h => ⟨ds, h⟩
  | .region id ops draw, Q, st, ds, h => regGo_mono _ _ _ _ _ (fun hf st' ⟨ds', h'⟩ => by
      obtain ⟨h1, h2⟩ := chk_spec h'
      exact ⟨fun hd => by subst hd; simpa using h1, ds', h2⟩) (regD_sound h)
  | .seq x y, Q, st, ds, h => wpC_mono x _ _ st (fun e st' ⟨ds', h'⟩ => by
      cases e with
      | normal => exact wpD_sound y Q st' ds' h'
      | exit id => exact ⟨ds', h'⟩
      | goto l => exact ⟨ds', h'⟩
      | ret => exact ⟨ds', h'⟩
      | panic ch => exact ⟨ds', h'⟩
      | outgrown => exact ⟨ds', h'⟩) (wpD_sound x _ st ds h)
  | .cond c x y, Q, st, ds, h => by
    unfold wpD at h
    unfold wpC
    split at h
    · rename_i t v ds' ht
      obtain ⟨rfl, h⟩ := h
      simp only [ht]
      cases t with
      | true => exact ⟨fun _ => wpD_sound x Q st ds' h, fun h => by cases h⟩
      | false => exact ⟨(fun h => by cases h), fun _ => wpD_sound y Q st ds' h⟩
    · exact h.elim
  | .block id x, Q, st, ds, h => wpC_mono x _ _ st (fun e st' ⟨ds', h'⟩ => by
      cases e with
      | normal => exact ⟨ds', h'⟩
      | exit id' =>
        simp only at h' ⊢
        cases hq : id' == id with
        | true =>
          rw [hq] at h'
          rw [if_pos (beq_iff_eq.1 hq)]
          exact ⟨ds', h'⟩
        | false =>
          rw [hq] at h'
          rw [if_neg (by simpa using hq)]
          exact ⟨ds', h'⟩
      | goto l => exact ⟨ds', h'⟩
      | ret => exact ⟨ds', h'⟩
      | panic ch => exact ⟨ds', h'⟩
      | outgrown => exact ⟨ds', h'⟩) (wpD_sound x _ st ds h)
  | .loop x, Q, st, ds, h => by
    unfold wpD at h
    split at h
    · rename_i n ds'
      have key : ∀ n st ds, loopD (wpD tab EQ P x) Q n st ds → loopN (wpC tab EQ (allC P) x) (fun e st' => ∃ ds', Q e st' ds') n st := by
        intro n
        induction n with
        | zero => intro st ds h; exact h.elim
        | succ n ih =>
          intro st ds h
          refine wpC_mono x _ _ _ (fun e st' ⟨ds', h'⟩ => ?_) (wpD_sound x _ _ ds h)
          cases e with
          | normal => exact ih st' ds' h'
          | exit id => exact ⟨ds', h'⟩
          | goto l => exact ⟨ds', h'⟩
          | ret => exact ⟨ds', h'⟩
          | panic ch => exact ⟨ds', h'⟩
          | outgrown => exact ⟨ds', h'⟩
      exact .inl ⟨n, key n st ds' h⟩
    · rename_i sl hp g k e s' ds'
      obtain ⟨h1, ⟨he, I, ⟨n, hI⟩, hr⟩, h3⟩ := h
      refine .inr ⟨I, ⟨n, _, hI, (leL_le h1).cov⟩, fun n s1 hs1 => wpC_mono x _ _ _ (fun e2 st' h' => ?_) (hr n s1 hs1)⟩
      cases e2 with
      | normal => exact h'
      | exit id => obtain ⟨rfl, h'⟩ := h'; exact ⟨s', h', ds', h3⟩
      | goto l => obtain ⟨rfl, h'⟩ := h'; exact ⟨s', h', ds', h3⟩
      | ret => obtain ⟨rfl, h'⟩ := h'; exact ⟨s', h', ds', h3⟩
      | panic ch => obtain ⟨rfl, h'⟩ := h'; exact ⟨s', h', ds', h3⟩
      | outgrown => obtain ⟨rfl, h'⟩ := h'; exact ⟨s', h', ds', h3⟩
    · rename_i rl sl hp g k e s' ds'
      obtain ⟨h1, ⟨he, I, ⟨n, hI⟩, hr⟩, h3⟩ := h
      refine .inr ⟨I, ⟨n, _, hI, _, leLG_cov h1⟩, fun n s1 hs1 => wpC_mono x _ _ _ (fun e2 st' h' => ?_) (hr n s1 hs1)⟩
      cases e2 with
      | normal => exact h'
      | exit id => obtain ⟨rfl, h'⟩ := h'; exact ⟨s', h', ds', h3⟩
      | goto l => obtain ⟨rfl, h'⟩ := h'; exact ⟨s', h', ds', h3⟩
      | ret => obtain ⟨rfl, h'⟩ := h'; exact ⟨s', h', ds', h3⟩
      | panic ch => obtain ⟨rfl, h'⟩ := h'; exact ⟨s', h', ds', h3⟩
      | outgrown => obtain ⟨rfl, h'⟩ := h'; exact ⟨s', h', ds', h3⟩
    · exact h.elim
  | .exit id, Q, st, ds, h => ⟨ds, h⟩
  | .ret, Q, st, ds, h => ⟨ds, h⟩
  | .label l, Q, st, ds, h => ⟨ds, h⟩
  | .goto _, Q, st, ds, h => h.elim
  | .scope _, Q, st, ds, h => h.elim
  | .refuse _, Q, st, ds, h => h.elim
  | .rangeFunc .., Q, st, ds, h => h.elim
end
end Go.AbsK

set_option linter.unusedVariables false
namespace Go.AbsK
open Go.RowKit

def plainC : Cell → Bool
  | .ptr .. => false
  | .slc .. => false
  | _ => true
def plainL (l : List Cell) : Bool := l.all plainC
def plainA : AV → Bool
  | .und => false
  | .c x => plainC x
  | .agg l => plainL l
  | .fn _ l => plainL l
  | .t2 a b => plainA a && plainA b
  | .ext _ => true
theorem plainC_of {c : Cell} (h : plainC c = true) : c.ok (fun _ => False) := by
  cases c <;> first | trivial | cases h
theorem plain_of {v : AV} (h : plainA v = true) : plainV v := by
  unfold plainV
  induction v with
  | und => cases h
  | c x => exact plainC_of h
  | agg l => exact fun c hc => plainC_of (List.all_eq_true.1 h c hc)
  | fn f l => exact fun c hc => plainC_of (List.all_eq_true.1 h c hc)
  | t2 a b iha ihb =>
    simp only [plainA, Bool.and_eq_true] at h
    exact ⟨iha h.1, ihb h.2⟩
  | ext v => trivial
theorem not_t {x : Bool} (h : x = false) : (!x) = true := by rw [h]; rfl
theorem not_f {x : Bool} (h : x = true) : (!x) = false := by rw [h]; rfl
/-- The run has ended with this result. -/
def finD (tab : Tab) (fn : Func) (r : AV) : Exit → St → List Dec → Prop := fun e st' _ => match e with
  | .normal => resA tab st' fn.results.toList = some r
  | .ret => resA tab st' fn.results.toList = some r
  | _ => False
theorem finD_spec {tab : Tab} {fn : Func} {r : AV} {e : Exit} {st' : St} {ds : List Dec} (h : finD tab fn r e st' ds) : (e = .normal ∨ e = .ret) ∧ ∃ r', resA tab st' fn.results.toList = some r' ∧ r' = r := by
  unfold finD at h
  split at h
  · exact ⟨.inl rfl, r, h, rfl⟩
  · exact ⟨.inr rfl, r, h, rfl⟩
  · exact h.elim
def plainB (b : Blk) : Prop := ∀ r ∈ b.rows, ∀ c ∈ r, Cell.ok (fun _ => False) c
section
variable {P : Program} {tab : Tab} {EQ : TypeId → Option Shp}
/-- A function whose result is plain; its arguments may name blocks that it only reads. -/
theorem fok_read (hT : TabOK P tab) (hE : EqOK P EQ) (hm : P.follows .mixedOrders = true) {f : FuncId} {fn : Func} {c : Code} (hf : P.funcs[f]? = some fn) (hname : (fn.name == "runtime.NumGoroutine") = false) (hb : fn.body = some c) (hok : codeOK fn.ntmps c = true)
    {O : POfn} (hO : ∀ args bs mk p r nb, O args bs mk = some (p, r, nb) → p → nb = [] ∧ plainV r ∧ ∃ ns cargs, args = cargs.map (AV.ren ns) ∧ namesOf args = ns ∧ (ns.length = bs.length → (∀ v ∈ cargs, v.ok (handed bs.length)) ∧ (∀ b ∈ bs, plainB b) ∧ cargs.length ≤ fn.ntmps ∧
      wpC tab EQ (allC P) c (fun e st' => ∃ ds, finD tab fn r e st' ds) (entry bs cargs))) : FOK P f O := by
  refine ⟨fun args bs mk p r nb hp hpp h base ν w w0 gen _ hh hns _ _ => ?_, fun args bs mk p r nb hp hpp q hq => ?_⟩
  · obtain ⟨rfl, hr, ns, cargs, h1, h2, h3⟩ := hO args bs mk p r nb hp hpp
    have hlen : ns.length = bs.length := by
      have := congrArg List.length hns
      rw [h2] at this
      simpa using this
    obtain ⟨h4, h5, h6, h7⟩ := h3 hlen
    rw [h2] at hns
    have hwp := wpC_mono _ _ _ _ (fun e st' (hq : ∃ ds, finD tab fn r e st' ds) => let ⟨ds, hq⟩ := hq; finD_spec hq) h7
    rw [h1]
    refine (call_of_wpC hT hE (cok_all P) hm hf hname hb hok hh hns h5 h4 h6 hwp).mono fun v w' hv => ?_
    obtain ⟨r', st', ν', rfl, q1, q2, q3, q4⟩ := hv
    exact ⟨ν, fun _ _ => rfl, q4.below, .inr ⟨AV.ok_mono (fun _ h => h.elim) hr, by rw [q2]; exact plain_eq hr⟩, (fun n blk hn => by cases hn), (fun n n' blk blk' hn => by cases hn)⟩
  · obtain ⟨rfl, -⟩ := hO args bs mk p r nb hp hpp
    cases hq
theorem of_run {c : Code} {Q : Exit → St → List Dec → Prop} {st : St} {ds : List Dec} {B : Prop} (h : wpD tab EQ P c Q st ds = B) (hB : B) : wpC tab EQ (allC P) c (fun e st' => ∃ ds', Q e st' ds') st := wpD_sound _ _ _ ds (h ▸ hB)
end

def Cell.mp (ρ : Nm → Nm) : Cell → Cell
  | .ptr n row w col => .ptr (ρ n) row w col
  | .slc n row w len cap => .slc (ρ n) row w len cap
  | c => c
def AV.mp (ρ : Nm → Nm) : AV → AV
  | .und => .und
  | .c x => .c (x.mp ρ)
  | .agg l => .agg (l.map (Cell.mp ρ))
  | .fn f caps => .fn f (caps.map (Cell.mp ρ))
  | .t2 a b => .t2 (a.mp ρ) (b.mp ρ)
  | .ext v => .ext v
def Blk.mp (ρ : Nm → Nm) (b : Blk) : Blk := { b with rows := b.rows.map (List.map (Cell.mp ρ)) }
theorem Blk.mp_plain {ρ : Nm → Nm} {b : Blk} (h : plainB b) : b.mp ρ = b := by
  unfold Blk.mp
  have : b.rows.map (List.map (Cell.mp ρ)) = b.rows := map_same (fun r hr => map_same (fun c hc => by
    have := h r hr c hc
    cases c <;> first | rfl | exact this.elim))
  rw [this]
theorem Cell.conc_mp {ρ : Nm → Nm} {ν : Env} {c : Cell} : (c.mp ρ).conc ν = c.conc (fun n => ν (ρ n)) := by cases c <;> rfl
theorem AV.conc_mp {ρ : Nm → Nm} {ν : Env} {v : AV} : (v.mp ρ).conc ν = v.conc (fun n => ν (ρ n)) := by
  have hl : ∀ l : List Cell, concs ν (l.map (Cell.mp ρ)) = concs (fun n => ν (ρ n)) l := by
    intro l
    unfold concs
    rw [List.map_map]
    congr 2
    funext c
    exact Cell.conc_mp
  induction v with
  | und => rfl
  | c x => exact Cell.conc_mp
  | agg l => simp only [AV.mp, AV.conc, hl]
  | fn f l => simp only [AV.mp, AV.conc, hl]
  | t2 a b iha ihb => simp only [AV.mp, AV.conc, iha, ihb]
  | ext v => rfl
theorem Cell.ok_mp {ρ : Nm → Nm} {D D' : Nm → Prop} (h : ∀ n, D n → D' (ρ n)) {c : Cell} (hc : c.ok D) : (c.mp ρ).ok D' := by
  cases c <;> first | exact h _ hc | trivial
theorem AV.ok_mp {ρ : Nm → Nm} {D D' : Nm → Prop} (h : ∀ n, D n → D' (ρ n)) {v : AV} (hv : v.ok D) : (v.mp ρ).ok D' := by
  have hl : ∀ l : List Cell, (∀ c ∈ l, Cell.ok D c) → ∀ c ∈ l.map (Cell.mp ρ), Cell.ok D' c := by
    intro l hl c hc
    obtain ⟨c', hc', rfl⟩ := List.mem_map.1 hc
    exact Cell.ok_mp h (hl c' hc')
  induction v with
  | und => exact hv
  | c x => exact Cell.ok_mp h hv
  | agg l => exact hl l hv
  | fn f l => exact hl l hv
  | t2 a b iha ihb => exact ⟨iha hv.1, ihb hv.2⟩
  | ext v => trivial
/-- What is handed back, as a state: the result in slot 0, its blocks. -/
def resT (r : AV) (st : St) : St := { st with slots := fun s => if s = 0 then r else .und }
/-- From the names within a call to those of the caller; ms are the new blocks. -/
def outL (ns : List Nm) (mk : Nat → Nm) : Nat → List Nm → Nm → Nm
  | _, [], n => ns.getD n.1 (0, 0)
  | j, m :: ms, n => if n = m then mk j else outL ns mk (j + 1) ms n
def nbOf (mk : Nat → Nm) : Nat → List (Nm × Blk) → List (Nm × Blk)
  | _, [] => []
  | j, q :: l => (mk j, q.2) :: nbOf mk (j + 1) l
theorem outL_handed {ns : List Nm} {mk : Nat → Nm} : ∀ {ms : List Nm} {j : Nat} {n : Nm}, (∀ m ∈ ms, m.2 ≠ 0) → n.2 = 0 → outL ns mk j ms n = ns.getD n.1 (0, 0)
  | [], _, _, _, _ => rfl
  | m :: ms, j, n, h, hn => by
    unfold outL
    rw [if_neg (fun e => h m (List.mem_cons_self ..) (by rw [← e]; exact hn)), outL_handed (fun x hx => h x (List.mem_cons_of_mem _ hx)) hn]
theorem outL_mem {ns : List Nm} {mk : Nat → Nm} : ∀ {ms : List Nm} {j : Nat} {n : Nm}, n ∈ ms → ∃ i, outL ns mk j ms n = mk (j + i) ∧ ms[i]? = some n
  | m :: ms, j, n, h => by
    unfold outL
    by_cases e : n = m
    · rw [if_pos e, e]; exact ⟨0, rfl, rfl⟩
    · rw [if_neg e]
      obtain ⟨i, h1, h2⟩ := outL_mem (ns := ns) (mk := mk) (j := j + 1) ((List.mem_cons.1 h).resolve_left e)
      exact ⟨i + 1, by rw [h1]; congr 1; omega, h2⟩
  | [], _, _, h => by cases h
theorem nbOf_mem {mk : Nat → Nm} : ∀ {l : List (Nm × Blk)} {j : Nat} {q : Nm × Blk}, q ∈ nbOf mk j l → ∃ i m, q.1 = mk (j + i) ∧ l[i]? = some (m, q.2)
  | p :: l, j, q, h => by
    rcases List.mem_cons.1 h with rfl | h
    · exact ⟨0, p.1, rfl, rfl⟩
    · obtain ⟨i, m, h1, h2⟩ := nbOf_mem h
      exact ⟨i + 1, m, by rw [h1]; congr 1; omega, h2⟩
  | [], _, _, h => by cases h
theorem nbOf_get {mk : Nat → Nm} (hinj : ∀ i j, mk i = mk j → i = j) : ∀ {l : List (Nm × Blk)} {j i : Nat} {m : Nm} {b : Blk}, l[i]? = some (m, b) → updH none1 (nbOf mk j l) (mk (j + i)) = some b
  | p :: l, j, 0, m, b, h => by
    simp only [List.getElem?_cons_zero, Option.some.injEq] at h
    subst h
    show (if mk j = mk j then some b else _) = _
    rw [if_pos rfl]
  | p :: l, j, i + 1, m, b, h => by
    simp only [List.getElem?_cons_succ] at h
    show (if mk (j + (i + 1)) = mk j then some p.2 else updH none1 (nbOf mk (j + 1) l) (mk (j + (i + 1)))) = _
    rw [if_neg (fun e => by have := hinj _ _ e; omega), show j + (i + 1) = j + 1 + i by omega]
    exact nbOf_get hinj h
  | [], _, _, _, _, h => by simp at h
section
variable {P : Program} {tab : Tab} {EQ : TypeId → Option Shp}
/-- A function that hands back a value that may name blocks: those of its arguments, and new ones (hp). g: the round of the state that is written out. -/
theorem fok_genN (hT : TabOK P tab) (hE : EqOK P EQ) (hm : P.follows .mixedOrders = true) {f : FuncId} {fn : Func} {c : Code} (hf : P.funcs[f]? = some fn) (hname : (fn.name == "runtime.NumGoroutine") = false) (hb : fn.body = some c) (hok : codeOK fn.ntmps c = true)
    {O : POfn} (hO : ∀ args bs mk p r nb, O args bs mk = some (p, r, nb) → p → ∃ ns cargs r0 hp g, args = cargs.map (AV.ren ns) ∧ namesOf args = ns ∧ r = r0.mp (outL ns mk 0 (hp.map (·.1))) ∧ nb = nbOf mk 0 (hp.map fun q => (q.1, q.2.mp (outL ns mk 0 (hp.map (·.1))))) ∧
      (∀ q ∈ hp, q.1.2 ≠ 0 ∧ q.2.own = true ∧ ∀ r ∈ q.2.rows, ∀ c ∈ r, Cell.ok (fun n => handed bs.length n ∨ n ∈ hp.map (·.1)) c) ∧ (hp.map (·.1)).Nodup ∧ (ns.length = bs.length → r0.ok (fun n => handed bs.length n ∨ n ∈ hp.map (·.1)) ∧ (∀ v ∈ cargs, v.ok (handed bs.length)) ∧ (∀ b ∈ bs, plainB b) ∧ cargs.length ≤ fn.ntmps ∧
      wpC tab EQ (allC P) c (fun e st' => (e = .normal ∨ e = .ret) ∧ ∃ r', resA tab st' fn.results.toList = some r' ∧ Cov (mkS [(0, r0)] (hp ++ (bs.mapIdx fun i b => ((i, 0), b.ro))) g bs.length) (resT r' st')) (entry bs cargs))) : FOK P f O := by
  refine ⟨fun args bs mk p r nb hp0 hpp h base ν w w0 gen hmk hh hns hargs hfree => ?_, fun args bs mk p r nb hp0 hpp q hq => ?_⟩
  rotate_left
  · obtain ⟨ns, cargs, r0, hp, g, -, -, -, rfl, -⟩ := hO args bs mk p r nb hp0 hpp
    obtain ⟨i, m, h1, h2⟩ := nbOf_mem hq
    exact ⟨_, h1⟩
  obtain ⟨ns, cargs, r0, hp, g, h1, h2, rfl, rfl, hpo, hnd, h3⟩ := hO args bs mk p r nb hp0 hpp
  have hlen : ns.length = bs.length := by
    have := congrArg List.length hns
    rw [h2] at this
    simpa using this
  obtain ⟨hr0, h4, h5, h6, h7⟩ := h3 hlen
  rw [h2] at hns
  have hwp := wpC_mono _ _ _ _ (fun e st' (hq : (e = .normal ∨ e = .ret) ∧ ∃ r', resA tab st' fn.results.toList = some r' ∧ Cov (mkS [(0, r0)] (hp ++ (bs.mapIdx fun i b => ((i, 0), b.ro))) g bs.length) (resT r' st')) =>
    (⟨hq.1, hq.2.choose, hq.2.choose_spec.1, hq.2.choose_spec.2⟩ : (e = .normal ∨ e = .ret) ∧ ∃ r', resA tab st' fn.results.toList = some r' ∧ Cov (mkS [(0, r0)] (hp ++ (bs.mapIdx fun i b => ((i, 0), b.ro))) g bs.length) (resT r' st'))) h7
  rw [h1]
  refine (call_of_wpC hT hE (cok_all P) hm hf hname hb hok hh hns h5 h4 h6 (R := fun r' st' => Cov (mkS [(0, r0)] (hp ++ (bs.mapIdx fun i b => ((i, 0), b.ro))) g bs.length) (resT r' st')) hwp).mono fun v w' hv => ?_
  obtain ⟨r', st', νl, ⟨ρ, hcov⟩, q1, q2, q3, q4⟩ := hv
  -- the state that is written out
  have hRel : Rel w.heap.size ⟨w, handed bs.length, envOf ns ν, []⟩ 1 νl (resT r' st') { tmps := #[v], defers := [] } w' := by
    refine ⟨rfl, rfl, fun s => ?_, q4, fun n hn => ?_⟩
    · show RV νl (bd st'.heap) ((#[v] : Array Value).getD s undef) (if s = 0 then r' else .und)
      by_cases hs : s = 0
      · subst hs; simp only [if_true]; exact .inr ⟨q1, by rw [← q2]; rfl⟩
      · rw [if_neg hs]; exact .inl rfl
    · have := hcov.kk
      have hk : (resT r' st').k = bs.length := this.symm
      rw [hk]; exact hn.2
  have hW := hRel.weaken hcov
  obtain ⟨νs, hνs⟩ : ∃ νs, νs = ghE ρ νl := ⟨_, rfl⟩
  rw [← hνs] at hW
  have hms : ∀ m ∈ hp.map (·.1), m.2 ≠ 0 := by
    intro m hm
    obtain ⟨q, hq, rfl⟩ := List.mem_map.1 hm
    exact (hpo q hq).1
  have hheap : ∀ (i : Nat) (m : Nm) (b : Blk), hp[i]? = some (m, b) → (mkS [(0, r0)] (hp ++ (bs.mapIdx fun i b => ((i, 0), b.ro))) g bs.length).heap m = some b := by
    intro i m b hi
    show updH none1 (hp ++ _) m = some b
    clear hcov hW hwp hRel h7 hpo hms hr0 hfree hp0 h3
    induction hp generalizing i with
    | nil => simp at hi
    | cons q l ih =>
      show (if m = q.1 then some q.2 else updH none1 (l ++ _) m) = some b
      cases i with
      | zero =>
        simp only [List.getElem?_cons_zero, Option.some.injEq] at hi
        subst hi
        rw [if_pos rfl]
      | succ i =>
        simp only [List.getElem?_cons_succ] at hi
        rw [List.map_cons, List.nodup_cons] at hnd
        rw [if_neg (fun e => hnd.1 (by rw [← e]; exact List.mem_map.2 ⟨(m, b), List.mem_of_getElem? hi, rfl⟩))]
        exact ih hnd.2 i hi
  have hbnd : ∀ n, handed bs.length n → bd h (ns.getD n.1 (0, 0)) := by
    intro n hn
    have hl : n.1 < ns.length := by rw [hlen]; exact hn.2
    have := congrArg (fun l => l[n.1]?) hns
    simp only [List.getElem?_map] at this
    rw [List.getElem?_eq_getElem hl, List.getElem?_eq_getElem (by omega)] at this
    simp only [Option.map_some, Option.some.injEq] at this
    unfold bd
    rw [List.getD_eq_getElem?_getD, List.getElem?_eq_getElem hl]
    simp only [Option.getD_some, this, Option.isSome_some]
  -- where the new blocks stand
  let ν' : Env := fun n => match (List.range hp.length).find? (fun i => decide (n = mk i)) with
    | some i => νs ((hp.map Prod.fst).getD i (0, 0))
    | none => ν n
  have hνj : ∀ i m, (hp.map (·.1))[i]? = some m → ν' (mk i) = νs m := by
    intro i m hi
    have hil : i < hp.length := by simpa using (List.getElem?_eq_some_iff.1 hi).1
    have hf : (List.range hp.length).find? (fun j => decide (mk i = mk j)) = some i := by
      rw [List.find?_range_eq_some]
      refine ⟨by simp, List.mem_range.2 hil, fun j hj => ?_⟩
      simp only [Bool.not_eq_true', decide_eq_false_iff_not]
      intro e
      have := hmk.1 _ _ e
      omega
    show (match (List.range hp.length).find? (fun j => decide (mk i = mk j)) with
      | some i => νs ((hp.map Prod.fst).getD i (0, 0))
      | none => ν (mk i)) = _
    rw [hf]
    simp only [List.getD_eq_getElem?_getD, hi, Option.getD_some]
  have hν : ∀ n, bd h n → ν' n = ν n := by
    intro n hn
    have hf : (List.range hp.length).find? (fun j => decide (n = mk j)) = none := by
      rw [List.find?_eq_none]
      intro i hi
      have hil := List.mem_range.1 hi
      simp only [decide_eq_true_eq]
      intro e
      have : h (mk i) = none := by
        have h9 : hp[i]? = some hp[i] := List.getElem?_eq_getElem hil
        have h9' : (hp.map fun q => (q.1, q.2.mp (outL ns mk 0 (hp.map (·.1)))))[i]? = some (hp[i].1, hp[i].2.mp (outL ns mk 0 (hp.map (·.1)))) := by rw [List.getElem?_map, h9]; rfl
        have h8 := nbOf_get (j := 0) hmk.1 (m := hp[i].1) h9'
        rw [Nat.zero_add] at h8
        exact hfree (mk i, hp[i].2.mp (outL ns mk 0 (hp.map (·.1)))) (mem_updH h8)
      unfold bd at hn
      rw [e, this] at hn
      cases hn
    show (match (List.range hp.length).find? (fun j => decide (n = mk j)) with
      | some i => νs ((hp.map Prod.fst).getD i (0, 0))
      | none => ν n) = _
    rw [hf]
  have hcomp : ∀ n, (handed bs.length n ∨ n ∈ hp.map (·.1)) → ν' (outL ns mk 0 (hp.map (·.1)) n) = νs n := by
    intro n hn
    rcases hn with (hn : handed bs.length n) | hn
    · rw [outL_handed hms hn.1, hν _ (hbnd n hn)]
      exact (hW.hr.anc n hn).2.2.symm
    · obtain ⟨i, e1, e2⟩ := outL_mem (ns := ns) (mk := mk) (j := 0) hn
      rw [e1, Nat.zero_add]
      exact hνj i n e2
  have hD : ∀ n, (handed bs.length n ∨ n ∈ hp.map (·.1)) → bd (updH h (nbOf mk 0 (hp.map fun q => (q.1, q.2.mp (outL ns mk 0 (hp.map (·.1))))))) (outL ns mk 0 (hp.map (·.1)) n) := by
    intro n hn
    rcases hn with (hn : handed bs.length n) | hn
    · rw [outL_handed hms hn.1]
      exact bd_updH _ _ _ (hbnd n hn)
    · obtain ⟨i, e1, e2⟩ := outL_mem (ns := ns) (mk := mk) (j := 0) hn
      rw [e1]
      rw [List.getElem?_map, Option.map_eq_some_iff] at e2
      obtain ⟨q, e2, e3⟩ := e2
      unfold bd
      have e2' : (hp.map fun q => (q.1, q.2.mp (outL ns mk 0 (hp.map (·.1)))))[i]? = some (q.1, q.2.mp (outL ns mk 0 (hp.map (·.1)))) := by rw [List.getElem?_map, e2]; rfl
      rw [updH_some h _ _ (nbOf_get hmk.1 (m := q.1) e2')]
      rfl
  have hslot := hW.slots 0
  have hv0 : v = r0.conc νs := by
    rcases hslot with h9 | ⟨_, h9⟩
    · exfalso
      have : r0 = .und := h9
      rw [this] at hr0
      exact hr0
    · exact h9
  refine ⟨ν', hν, hW.hr.below, .inr ⟨AV.ok_mp hD hr0, ?_⟩, fun n blk hn => ?_, fun n n' blk blk' hn hn' hs hs' hne => ?_⟩
  · rw [hv0, AV.conc_mp]
    exact (AV.conc_eq hcomp hr0).symm
  · obtain ⟨i, m, e1, e2⟩ := nbOf_mem (mem_updH hn)
    rw [Nat.zero_add] at e1
    replace e1 : n = mk i := e1
    subst e1
    rw [List.getElem?_map, Option.map_eq_some_iff] at e2
    obtain ⟨⟨m', b0⟩, e2, e3⟩ := e2
    simp only [Prod.mk.injEq] at e3
    obtain ⟨rfl, e3⟩ := e3
    replace e3 : b0.mp (outL ns mk 0 (hp.map (·.1))) = blk := e3
    subst e3
    obtain ⟨o1, o2, o3⟩ := hpo _ (List.mem_of_getElem? e2)
    have hB := hW.hr.heap m' b0 (hheap i m' b0 e2)
    have hνm : ν' (mk i) = νs m' := hνj i m' (by rw [List.getElem?_map, e2]; rfl)
    refine ⟨o2, fun r hr => ?_, fun row r j x hr hx => ?_, fun hs => ?_, fun ho hs => ?_⟩
    · obtain ⟨r0, hr0, rfl⟩ := List.mem_map.1 hr
      rw [List.length_map]
      exact hB.width r0 hr0
    · simp only [Blk.mp, List.getElem?_map, Option.map_eq_some_iff] at hr
      obtain ⟨r0, hr0, rfl⟩ := hr
      simp only [List.getElem?_map, Option.map_eq_some_iff] at hx
      obtain ⟨x0, hx0, rfl⟩ := hx
      obtain ⟨g1, g2, g3⟩ := hB.read row r0 j x0 hr0 hx0
      have hxo := o3 r0 (List.mem_of_getElem? hr0) x0 (List.mem_of_getElem? hx0)
      refine ⟨Cell.ok_mp hD hxo, ?_, fun he => ?_⟩
      · rw [hνm, Cell.conc_mp, Cell.conc_eq hcomp hxo]
        exact g2
      · have he : b0.own = false := he
        have o2' : b0.own = true := o2
        rw [o2'] at he
        cases he
    · rw [hνm] at hs ⊢
      obtain ⟨k1, k2, k3⟩ := hB.nil hs
      exact ⟨by show b0.rows.map _ = []; rw [k1]; rfl, k2, k3⟩
    · rw [hνm] at hs ⊢
      obtain ⟨k1, k2, k3, k4⟩ := hB.own ho hs
      exact ⟨k1, k2, by show (b0.rows.map _).length ≤ _; rw [List.length_map]; exact k3, k4⟩
  · obtain ⟨i, m, e1, e2⟩ := nbOf_mem (mem_updH hn)
    obtain ⟨i', m', e1', e2'⟩ := nbOf_mem (mem_updH hn')
    rw [Nat.zero_add] at e1 e1'
    replace e1 : n = mk i := e1
    replace e1' : n' = mk i' := e1'
    subst e1 e1'
    rw [List.getElem?_map, Option.map_eq_some_iff] at e2 e2'
    obtain ⟨⟨n1, b1⟩, e2, -⟩ := e2
    obtain ⟨⟨n2, b2⟩, e2', -⟩ := e2'
    have hνm : ν' (mk i) = νs n1 := hνj i n1 (by rw [List.getElem?_map, e2]; rfl)
    have hνm' : ν' (mk i') = νs n2 := hνj i' n2 (by rw [List.getElem?_map, e2']; rfl)
    rw [hνm] at hs ⊢
    rw [hνm'] at hs' ⊢
    refine hW.hr.inj n1 n2 b1 b2 (hheap i n1 b1 e2) (hheap i' n2 b2 e2') (hpo _ (List.mem_of_getElem? e2)).2.1 (hpo _ (List.mem_of_getElem? e2')).2.1 hs hs' (fun e => hne ?_)
    have hi := (List.getElem?_eq_some_iff.1 e2).1
    have hi' := (List.getElem?_eq_some_iff.1 e2').1
    have := (List.getElem_inj (h₀ := by simpa using hi) (h₁ := by simpa using hi') hnd).1 (by
      simp only [List.getElem_map]
      rw [(List.getElem?_eq_some_iff.1 e2).2, (List.getElem?_eq_some_iff.1 e2').2]
      exact e)
    rw [this]
end

/-- The run has ended, and what is handed back is, under the names rl, the value r0 with the blocks hp. -/
def finG (tab : Tab) (fn : Func) (rl : List (Nm × Option Nm)) (r0 : AV) (hp : List (Nm × Blk)) (g k : Nat) : Exit → St → List Dec → Prop := fun e st' _ => match e with
  | .normal => (match resA tab st' fn.results.toList with
    | some r' => LeLG (rnOf rl) [(0, r0)] hp g k (resT r' st')
    | none => False)
  | .ret => (match resA tab st' fn.results.toList with
    | some r' => LeLG (rnOf rl) [(0, r0)] hp g k (resT r' st')
    | none => False)
  | _ => False
theorem finG_spec {tab : Tab} {fn : Func} {rl : List (Nm × Option Nm)} {r0 : AV} {hp : List (Nm × Blk)} {g k : Nat} {e : Exit} {st' : St} {ds : List Dec} (h : finG tab fn rl r0 hp g k e st' ds) :
    (e = .normal ∨ e = .ret) ∧ ∃ r', resA tab st' fn.results.toList = some r' ∧ Cov (mkS [(0, r0)] hp g k) (resT r' st') := by
  unfold finG at h
  split at h
  · split at h
    · rename_i r' hr; exact ⟨.inl rfl, r', hr, _, leLG_cov h⟩
    · exact h.elim
  · split at h
    · rename_i r' hr; exact ⟨.inr rfl, r', hr, _, leLG_cov h⟩
    · exact h.elim
  · exact h.elim
theorem of_runG {P : Program} {tab : Tab} {EQ : TypeId → Option Shp} {c : Code} {fn : Func} {rl : List (Nm × Option Nm)} {r0 : AV} {hp : List (Nm × Blk)} {g k : Nat} {st : St} {ds : List Dec} {B : Prop} (h : wpD tab EQ P c (finG tab fn rl r0 hp g k) st ds = B) (hB : B) :
    wpC tab EQ (allC P) c (fun e st' => (e = .normal ∨ e = .ret) ∧ ∃ r', resA tab st' fn.results.toList = some r' ∧ Cov (mkS [(0, r0)] hp g k) (resT r' st')) st :=
  wpC_mono _ _ _ _ (fun e st' ⟨ds', h'⟩ => finG_spec h') (of_run h hB)
def nlCs (mk : Nat → Nm) (W : Nat → Nat × Nat) : Nat → List Cell → List Cell × Nat
  | j, [] => ([], j)
  | j, x :: l => match x with
    | .nils => (.slc (mk (2 * j)) 0 (W j).1 0 none :: (nlCs mk W (j + 1) l).1, (nlCs mk W (j + 1) l).2)
    | x => (x :: (nlCs mk W j l).1, (nlCs mk W j l).2)
def nlV (mk : Nat → Nm) (W : Nat → Nat × Nat) (j : Nat) : AV → AV × Nat
  | .c .nils => (.c (.slc (mk (2 * j)) 0 (W j).1 0 none), j + 1)
  | .agg l => (.agg (nlCs mk W j l).1, (nlCs mk W j l).2)
  | v => (v, j)
def nlA (mk : Nat → Nm) (W : Nat → Nat × Nat) : Nat → List AV → List AV × Nat
  | j, [] => ([], j)
  | j, v :: l => ((nlV mk W j v).1 :: (nlA mk W (nlV mk W j v).2 l).1, (nlA mk W (nlV mk W j v).2 l).2)
def gblk (W : Nat → Nat × Nat) (j : Nat) : Blk := ⟨[], (W j).1, (W j).2, true, none⟩
def ghosts (mk : Nat → Nm) (W : Nat → Nat × Nat) (J : Nat) : List (Nm × Blk) := (List.range J).map fun j => (mk (2 * j), gblk W j)
def lookB : List (Nm × Blk) → Nm → Blk
  | [], _ => ⟨[], 0, 0, true, none⟩
  | (m, b) :: l, n => if n = m then b else lookB l n
/-- The oracle O, where slices may be nil: W tells the width of the rows of each, and their type. -/
def nilO (W : Nat → Nat × Nat) (O : POfn) : POfn := fun args bs mk =>
  match O (nlA mk W 0 args).1 ((namesOf (nlA mk W 0 args).1).map (lookB ((namesOf args).zip bs ++ ghosts mk W (nlA mk W 0 args).2))) (fun j => mk (2 * j + 1)) with
  | some (p, r, nb) => some (p, r, nb ++ ghosts mk W (nlA mk W 0 args).2)
  | none => none
theorem lookB_spec {h : Nm → Option Blk} : ∀ {l : List (Nm × Blk)}, (∀ q ∈ l, h q.1 = some q.2) → ∀ n, (∃ q ∈ l, q.1 = n) → h n = some (lookB l n)
  | [], _, n, ⟨q, hq, _⟩ => by cases hq
  | (m, b) :: l, hl, n, ⟨q, hq, e⟩ => by
    unfold lookB
    by_cases hn : n = m
    · rw [if_pos hn, hn]; exact hl (m, b) (List.mem_cons_self ..)
    · rw [if_neg hn]
      rcases List.mem_cons.1 hq with rfl | hq
      · exact absurd e.symm hn
      · exact lookB_spec (fun q hq => hl q (List.mem_cons_of_mem _ hq)) n ⟨q, hq, e⟩
section
variable {mk : Nat → Nm} {W : Nat → Nat × Nat}
theorem nlCs_spec {D : Nm → Prop} {ν ν' : Env} (hν : ∀ n, D n → ν' n = ν n) : ∀ (l : List Cell) (j : Nat), j ≤ (nlCs mk W j l).2 ∧ ((∀ k, k < (nlCs mk W j l).2 → ν' (mk (2 * k)) = nilA) → (∀ c ∈ l, Cell.ok D c) →
    (nlCs mk W j l).1.map (·.conc ν') = l.map (·.conc ν) ∧ (∀ c ∈ (nlCs mk W j l).1, Cell.ok (fun n => D n ∨ ∃ k, k < (nlCs mk W j l).2 ∧ n = mk (2 * k)) c) ∧
    ∀ n ∈ (nlCs mk W j l).1.flatMap Cell.names, n ∈ l.flatMap Cell.names ∨ ∃ k, k < (nlCs mk W j l).2 ∧ n = mk (2 * k))
  | [], j => ⟨Nat.le_refl _, fun _ _ => ⟨rfl, (fun c hc => by cases hc), fun n hn => by cases hn⟩⟩
  | x :: l, j => by
    have hother : ∀ c : Cell, c ≠ .nils → j ≤ (nlCs mk W j l).2 ∧ ((∀ k, k < (nlCs mk W j l).2 → ν' (mk (2 * k)) = nilA) → (∀ d ∈ c :: l, Cell.ok D d) →
        (c :: (nlCs mk W j l).1).map (·.conc ν') = (c :: l).map (·.conc ν) ∧ (∀ d ∈ c :: (nlCs mk W j l).1, Cell.ok (fun n => D n ∨ ∃ k, k < (nlCs mk W j l).2 ∧ n = mk (2 * k)) d) ∧
        ∀ n ∈ (c :: (nlCs mk W j l).1).flatMap Cell.names, n ∈ (c :: l).flatMap Cell.names ∨ ∃ k, k < (nlCs mk W j l).2 ∧ n = mk (2 * k)) := by
      intro c _
      obtain ⟨h1, h2⟩ := nlCs_spec hν l j
      refine ⟨h1, fun hg hok => ?_⟩
      obtain ⟨k1, k2, k3⟩ := h2 hg (fun d hd => hok d (List.mem_cons_of_mem _ hd))
      have hc := hok c (List.mem_cons_self ..)
      refine ⟨?_, fun d hd => ?_, fun n hn => ?_⟩
      · rw [List.map_cons, List.map_cons, k1, Cell.conc_eq hν hc]
      · rcases List.mem_cons.1 hd with rfl | hd
        · exact Cell.ok_mono (fun n hn => .inl hn) hc
        · exact k2 d hd
      · rw [List.flatMap_cons] at hn ⊢
        rcases List.mem_append.1 hn with hn | hn
        · exact .inl (List.mem_append.2 (.inl hn))
        · rcases k3 n hn with h | h
          · exact .inl (List.mem_append.2 (.inr h))
          · exact .inr h
    cases x with
    | nils =>
      obtain ⟨h1, h2⟩ := nlCs_spec hν l (j + 1)
      show j ≤ (nlCs mk W (j + 1) l).2 ∧ _
      refine ⟨by omega, fun hg hok => ?_⟩
      replace hg : ∀ k, k < (nlCs mk W (j + 1) l).2 → ν' (mk (2 * k)) = nilA := hg
      obtain ⟨k1, k2, k3⟩ := h2 hg (fun d hd => hok d (List.mem_cons_of_mem _ hd))
      show (Cell.slc (mk (2 * j)) 0 (W j).1 0 none :: (nlCs mk W (j + 1) l).1).map (·.conc ν') = _ ∧ (∀ c ∈ Cell.slc (mk (2 * j)) 0 (W j).1 0 none :: (nlCs mk W (j + 1) l).1, Cell.ok (fun n => D n ∨ ∃ k, k < (nlCs mk W (j + 1) l).2 ∧ n = mk (2 * k)) c) ∧
        ∀ n ∈ (Cell.slc (mk (2 * j)) 0 (W j).1 0 none :: (nlCs mk W (j + 1) l).1).flatMap Cell.names, n ∈ (Cell.nils :: l).flatMap Cell.names ∨ ∃ k, k < (nlCs mk W (j + 1) l).2 ∧ n = mk (2 * k)
      refine ⟨?_, fun d hd => ?_, fun n hn => ?_⟩
      · rw [List.map_cons, List.map_cons, k1]
        simp only [Cell.conc, hg j (by omega), nilA, Option.isSome_some, if_true, Option.getD_none]
      · rcases List.mem_cons.1 hd with rfl | hd
        · exact .inr ⟨j, by omega, rfl⟩
        · exact k2 d hd
      · rw [List.flatMap_cons] at hn ⊢
        rcases List.mem_append.1 hn with hn | hn
        · simp only [Cell.names, List.mem_singleton] at hn
          exact .inr ⟨j, by omega, hn⟩
        · rcases k3 n hn with h | h
          · exact .inl (List.mem_append.2 (.inr h))
          · exact .inr h
    | b x => exact hother _ (by simp)
    | i k n => exact hother _ (by simp)
    | ptr n r w c => exact hother _ (by simp)
    | slc n r w len cap => exact hother _ (by simp)
    | nilp => exact hother _ (by simp)
    | str s => exact hother _ (by simp)
theorem nlV_spec {D : Nm → Prop} {ν ν' : Env} (hν : ∀ n, D n → ν' n = ν n) (v : AV) (j : Nat) : j ≤ (nlV mk W j v).2 ∧ ((∀ k, k < (nlV mk W j v).2 → ν' (mk (2 * k)) = nilA) → v.ok D →
    (nlV mk W j v).1.conc ν' = v.conc ν ∧ (nlV mk W j v).1.ok (fun n => D n ∨ ∃ k, k < (nlV mk W j v).2 ∧ n = mk (2 * k)) ∧ ∀ n ∈ (nlV mk W j v).1.names, n ∈ v.names ∨ ∃ k, k < (nlV mk W j v).2 ∧ n = mk (2 * k)) := by
  have hother : ∀ u : AV, j ≤ j ∧ ((∀ k, k < j → ν' (mk (2 * k)) = nilA) → u.ok D → u.conc ν' = u.conc ν ∧ u.ok (fun n => D n ∨ ∃ k, k < j ∧ n = mk (2 * k)) ∧ ∀ n ∈ u.names, n ∈ u.names ∨ ∃ k, k < j ∧ n = mk (2 * k)) :=
    fun u => ⟨Nat.le_refl _, fun _ hok => ⟨AV.conc_eq hν hok, AV.ok_mono (fun n hn => .inl hn) hok, fun n hn => .inl hn⟩⟩
  cases v with
  | agg l =>
    obtain ⟨h1, h2⟩ := nlCs_spec (mk := mk) (W := W) hν l j
    refine ⟨h1, fun hg hok => ?_⟩
    obtain ⟨k1, k2, k3⟩ := h2 hg hok
    refine ⟨?_, k2, k3⟩
    show Value.agg (concs ν' _) = Value.agg (concs ν l)
    unfold concs
    rw [show (nlCs mk W j l).1.map (·.conc ν') = l.map (·.conc ν) from k1]
  | c x =>
    cases x with
    | nils =>
      refine ⟨Nat.le_succ _, fun hg _ => ⟨?_, .inr ⟨j, Nat.lt_succ_self _, rfl⟩, fun n hn => ?_⟩⟩
      · replace hg : ∀ k, k < j + 1 → ν' (mk (2 * k)) = nilA := hg
        show Cell.conc ν' (.slc (mk (2 * j)) 0 (W j).1 0 none) = _
        simp only [Cell.conc, hg j (by omega), nilA, Option.isSome_some, if_true, Option.getD_none, AV.conc]
      · replace hn : n ∈ [mk (2 * j)] := hn
        exact .inr ⟨j, Nat.lt_succ_self _, by simpa using hn⟩
    | b x => exact hother _
    | i k n => exact hother _
    | ptr n r w c => exact hother _
    | slc n r w len cap => exact hother _
    | nilp => exact hother _
    | str s => exact hother _
  | und => exact hother _
  | fn f l => exact hother _
  | t2 a b => exact hother _
  | ext v => exact hother _
theorem nlA_spec {D : Nm → Prop} {ν ν' : Env} (hν : ∀ n, D n → ν' n = ν n) : ∀ (l : List AV) (j : Nat), j ≤ (nlA mk W j l).2 ∧ ((∀ k, k < (nlA mk W j l).2 → ν' (mk (2 * k)) = nilA) → (∀ v ∈ l, v.ok D) →
    (nlA mk W j l).1.map (·.conc ν') = l.map (·.conc ν) ∧ (∀ v ∈ (nlA mk W j l).1, v.ok (fun n => D n ∨ ∃ k, k < (nlA mk W j l).2 ∧ n = mk (2 * k))) ∧
    ∀ n ∈ namesOf (nlA mk W j l).1, n ∈ namesOf l ∨ ∃ k, k < (nlA mk W j l).2 ∧ n = mk (2 * k))
  | [], j => ⟨Nat.le_refl _, fun _ _ => ⟨rfl, (fun c hc => by cases hc), fun n hn => by cases hn⟩⟩
  | v :: l, j => by
    obtain ⟨h1, h2⟩ := nlV_spec (mk := mk) (W := W) hν v j
    obtain ⟨h3, h4⟩ := nlA_spec hν l (nlV mk W j v).2
    show j ≤ (nlA mk W (nlV mk W j v).2 l).2 ∧ ((∀ k, k < (nlA mk W (nlV mk W j v).2 l).2 → _) → _ → ((nlV mk W j v).1 :: (nlA mk W (nlV mk W j v).2 l).1).map (·.conc ν') = _ ∧
      (∀ u ∈ (nlV mk W j v).1 :: (nlA mk W (nlV mk W j v).2 l).1, u.ok (fun n => D n ∨ ∃ k, k < (nlA mk W (nlV mk W j v).2 l).2 ∧ n = mk (2 * k))) ∧
      ∀ n ∈ (nlV mk W j v).1.names ++ namesOf (nlA mk W (nlV mk W j v).2 l).1, n ∈ v.names ++ namesOf l ∨ ∃ k, k < (nlA mk W (nlV mk W j v).2 l).2 ∧ n = mk (2 * k))
    refine ⟨by omega, fun hg hok => ?_⟩
    obtain ⟨k1, k2, k3⟩ := h2 (fun k hk => hg k (by omega)) (hok v (List.mem_cons_self ..))
    obtain ⟨k4, k5, k6⟩ := h4 hg (fun u hu => hok u (List.mem_cons_of_mem _ hu))
    refine ⟨by rw [List.map_cons, List.map_cons, k1, k4], fun u hu => ?_, fun n hn => ?_⟩
    · rcases List.mem_cons.1 hu with rfl | hu
      · exact AV.ok_mono (fun n hn => hn.imp id (fun ⟨k, hk, e⟩ => ⟨k, by omega, e⟩)) k2
      · exact k5 u hu
    · rcases List.mem_append.1 hn with hn | hn
      · rcases k3 n hn with h | ⟨k, hk, e⟩
        · exact .inl (List.mem_append.2 (.inl h))
        · exact .inr ⟨k, by omega, e⟩
      · rcases k6 n hn with h | h
        · exact .inl (List.mem_append.2 (.inr h))
        · exact .inr h
end

theorem ghosts_get {mk : Nat → Nm} {W : Nat → Nat × Nat} {J : Nat} {n : Nm} {b : Blk} (h : updH none1 (ghosts mk W J) n = some b) : ∃ j, j < J ∧ n = mk (2 * j) ∧ b = gblk W j := by
  have := mem_updH h
  obtain ⟨j, hj, e⟩ := List.mem_map.1 this
  simp only [Prod.mk.injEq] at e
  exact ⟨j, List.mem_range.1 hj, e.1.symm, e.2.symm⟩
theorem ghosts_has {mk : Nat → Nm} {W : Nat → Nat × Nat} (hinj : ∀ i j, mk i = mk j → i = j) {J j : Nat} (hj : j < J) : updH none1 (ghosts mk W J) (mk (2 * j)) = some (gblk W j) := by
  have key : ∀ l : List Nat, j ∈ l → updH none1 (l.map fun j => (mk (2 * j), gblk W j)) (mk (2 * j)) = some (gblk W j) := by
    intro l
    induction l with
    | nil => intro h; cases h
    | cons i l ih =>
      intro h
      show (if mk (2 * j) = mk (2 * i) then some (gblk W i) else updH none1 (l.map fun j => (mk (2 * j), gblk W j)) (mk (2 * j))) = _
      by_cases e : j = i
      · subst e; rw [if_pos rfl]
      · rw [if_neg (fun h' => e (by have := hinj _ _ h'; omega))]
        exact ih ((List.mem_cons.1 h).resolve_left e)
  exact key _ (List.mem_range.2 hj)
open Classical in
noncomputable def ghE2 (ν : Env) (mk : Nat → Nm) (J : Nat) : Env := fun n => if ∃ j, j < J ∧ n = mk (2 * j) then nilA else ν n
theorem HRel.ghosts {base : Nat} {w0 : Anch} {ν : Env} {h : Nm → Option Blk} {gen : Nat} {w : World} (hh : HRel base w0 ν h gen w) {mk : Nat → Nm} (hmk : MkOK mk gen) {W : Nat → Nat × Nat} {J : Nat} (hfree : ∀ j, j < J → h (mk (2 * j)) = none) :
    HRel base w0 (ghE2 ν mk J) (updH h (AbsK.ghosts mk W J)) gen w := by
  have hνo : ∀ n, bd h n → ghE2 ν mk J n = ν n := by
    intro n hn
    unfold ghE2
    rw [if_neg]
    rintro ⟨j, hj, rfl⟩
    unfold bd at hn
    rw [hfree j hj] at hn
    cases hn
  have hD : ∀ m, bd h m → bd (updH h (AbsK.ghosts mk W J)) m := fun m hm => bd_updH _ _ _ hm
  have hcase : ∀ n b, updH h (AbsK.ghosts mk W J) n = some b → (∃ j, j < J ∧ n = mk (2 * j) ∧ b = gblk W j) ∨ ((¬ ∃ j, j < J ∧ n = mk (2 * j)) ∧ h n = some b) := by
    intro n b hn
    by_cases hq : ∃ j, j < J ∧ n = mk (2 * j)
    · obtain ⟨j, hj, rfl⟩ := hq
      rw [updH_some h _ _ (ghosts_has hmk.1 hj)] at hn
      injection hn with hn
      exact .inl ⟨j, hj, rfl, hn.symm⟩
    · refine .inr ⟨hq, ?_⟩
      rw [← hn]
      refine (updH_none h _ n ?_).symm
      cases hz : updH none1 (AbsK.ghosts mk W J) n with
      | none => rfl
      | some b' => obtain ⟨j, hj, e, -⟩ := ghosts_get hz; exact absurd ⟨j, hj, e⟩ hq
  have hgh : ∀ j, j < J → ghE2 ν mk J (mk (2 * j)) = nilA := fun j hj => by unfold ghE2; rw [if_pos ⟨j, hj, rfl⟩]
  refine ⟨fun n b hn => ?_, fun n n' b b' hn hn' ho ho' hs hs' hne => ?_, hh.below, fun n hn => ⟨(hh.anc n hn).1, hD n (hh.anc n hn).2.1, (hνo n (hh.anc n hn).2.1).trans (hh.anc n hn).2.2⟩, hh.base_le, fun d g hg => ?_, hh.oth⟩
  · rcases hcase n b hn with ⟨j, hj, rfl, rfl⟩ | ⟨-, h1⟩
    · exact ⟨fun r hr => (by cases hr), fun row r j' c hr => (by simp [gblk] at hr), fun _ => ⟨rfl, by rw [hgh j hj]; rfl, fun c hc => by cases hc⟩, fun _ hs => (by rw [hgh j hj] at hs; cases hs)⟩
    · exact (hh.heap n b h1).grow (fun k hk _ _ => rfl) (hνo n (by unfold bd; rw [h1]; rfl)) hνo hD
  · rcases hcase n b hn with ⟨j, hj, rfl, rfl⟩ | ⟨-, h1⟩
    · rw [hgh j hj] at hs; cases hs
    rcases hcase n' b' hn' with ⟨j, hj, rfl, rfl⟩ | ⟨-, h2⟩
    · rw [hgh j hj] at hs'; cases hs'
    have e1 := hνo n (by unfold bd; rw [h1]; rfl)
    have e2 := hνo n' (by unfold bd; rw [h2]; rfl)
    rw [e1] at hs ⊢
    rw [e2] at hs' ⊢
    exact hh.inj n n' b b' h1 h2 ho ho' hs hs' hne
  · cases hq : updH h (AbsK.ghosts mk W J) (d, g) with
    | none => rfl
    | some b =>
      rcases hcase _ _ hq with ⟨j, hj, e, -⟩ | ⟨-, h1⟩
      · have := hmk.2 (2 * j)
        rw [← e] at this
        simp only at this
        omega
      · rw [hh.fresh d g hg] at h1; cases h1
theorem fok_nil {P : Program} {f : FuncId} {O : POfn} (W : Nat → Nat × Nat) (hO : FOK P f O) : FOK P f (nilO W O) := by
  refine ⟨fun args bs mk p r nb he hp h base ν w w0 gen hmk hh hns hargs hfree => ?_, fun args bs mk p r nb he hp q hq => ?_⟩
  rotate_left
  · unfold nilO at he
    split at he
    · rename_i p' r' nb' ho
      simp only [Option.some.injEq, Prod.mk.injEq] at he
      obtain ⟨rfl, rfl, rfl⟩ := he
      rcases List.mem_append.1 hq with hq | hq
      · obtain ⟨j, e⟩ := hO.names _ _ _ _ _ _ ho hp q hq
        exact ⟨_, e⟩
      · obtain ⟨j, -, rfl⟩ := List.mem_map.1 hq
        exact ⟨_, rfl⟩
    · cases he
  unfold nilO at he
  split at he
  rotate_left
  · cases he
  rename_i p' r' nb' ho
  simp only [Option.some.injEq, Prod.mk.injEq] at he
  obtain ⟨rfl, rfl, rfl⟩ := he
  obtain ⟨J, hJ⟩ : ∃ J, J = (nlA mk W 0 args).2 := ⟨_, rfl⟩
  rw [← hJ] at ho hfree ⊢
  have hfg : ∀ j, j < J → h (mk (2 * j)) = none := fun j hj => hfree (mk (2 * j), gblk W j) (List.mem_append.2 (.inr (List.mem_map.2 ⟨j, List.mem_range.2 hj, rfl⟩)))
  have hH := hh.ghosts hmk (W := W) hfg
  have hνo : ∀ n, bd h n → ghE2 ν mk J n = ν n := by
    intro n hn
    unfold ghE2
    rw [if_neg]
    rintro ⟨j, hj, rfl⟩
    unfold bd at hn
    rw [hfg j hj] at hn
    cases hn
  obtain ⟨k1, k2, k3⟩ := (nlA_spec (mk := mk) (W := W) hνo args 0).2 (fun k hk => by unfold ghE2; rw [if_pos ⟨k, by rw [hJ]; exact hk, rfl⟩]) hargs
  rw [← hJ] at k2 k3
  have hbdg : ∀ n, (bd h n ∨ ∃ k, k < J ∧ n = mk (2 * k)) → bd (updH h (ghosts mk W J)) n := by
    rintro n (hn | ⟨k, hk, rfl⟩)
    · exact bd_updH _ _ _ hn
    · unfold bd
      rw [updH_some h _ _ (ghosts_has hmk.1 hk)]
      rfl
  have hmk' : MkOK (fun j => mk (2 * j + 1)) gen := ⟨fun i j e => by have := hmk.1 _ _ e; omega, fun j => hmk.2 _⟩
  have hno : ∀ j, updH none1 (ghosts mk W J) (mk (2 * j + 1)) = none := by
    intro j
    cases hz : updH none1 (ghosts mk W J) (mk (2 * j + 1)) with
    | none => rfl
    | some b => obtain ⟨i, -, e, -⟩ := ghosts_get hz; have := hmk.1 _ _ e; omega
  have hcall := hO.sem _ _ _ _ _ _ ho hp (updH h (ghosts mk W J)) base (ghE2 ν mk J) w w0 gen hmk' hH ?_ (fun v hv => AV.ok_mono hbdg (k2 v hv)) (fun q hq => ?_)
  rotate_left
  · rw [List.map_map]
    refine List.map_congr_left (fun n hn => ?_)
    show updH h (ghosts mk W J) n = some (lookB _ n)
    refine lookB_spec (fun q hq => ?_) n ?_
    · rcases List.mem_append.1 hq with hq | hq
      · have hz : h q.1 = some q.2 := by
          obtain ⟨i, hi⟩ := List.getElem?_of_mem hq
          rw [List.getElem?_zip_eq_some] at hi
          have := congrArg (fun l => l[i]?) hns
          simp only [List.getElem?_map, hi.1, hi.2, Option.map_some, Option.some.injEq] at this
          exact this
        rw [updH_none h _ q.1 ?_]
        · exact hz
        · cases hq2 : updH none1 (ghosts mk W J) q.1 with
          | none => rfl
          | some b => obtain ⟨j, hj, e, -⟩ := ghosts_get hq2; rw [e, hfg j hj] at hz; cases hz
      · obtain ⟨j, hj, rfl⟩ := List.mem_map.1 hq
        exact updH_some h _ _ (ghosts_has hmk.1 (List.mem_range.1 hj))
    · rcases k3 n hn with hn | ⟨k, hk, rfl⟩
      · obtain ⟨i, hi⟩ := List.getElem?_of_mem hn
        have hl : i < bs.length := by
          have h1 := congrArg List.length hns
          simp only [List.length_map] at h1
          rw [← h1]
          exact (List.getElem?_eq_some_iff.1 hi).1
        refine ⟨(n, bs[i]), List.mem_append.2 (.inl (List.mem_of_getElem? (i := i) ?_)), rfl⟩
        rw [List.getElem?_zip_eq_some]
        exact ⟨hi, List.getElem?_eq_getElem hl⟩
      · exact ⟨(mk (2 * k), gblk W k), List.mem_append.2 (.inr (List.mem_map.2 ⟨k, List.mem_range.2 hk, rfl⟩)), rfl⟩
  · obtain ⟨j, e⟩ := hO.names _ _ _ _ _ _ ho hp q hq
    rw [e, updH_none h _ _ (hno j), ← e]
    exact hfree q (List.mem_append.2 (.inl hq))
  have hvals : (((nlA mk W 0 args).1.map (AV.conc (ghE2 ν mk J))).toArray : Array Value) = (args.map (AV.conc ν)).toArray := congrArg List.toArray k1
  rw [hvals] at hcall
  refine hcall.mono fun v w' hv => ?_
  obtain ⟨ν', q1, q2, q3, q4, q5⟩ := hv
  have hup : updH h (nb' ++ ghosts mk W J) = updH (updH h (ghosts mk W J)) nb' := updH_append _ _ _
  have hspl : ∀ n b, updH none1 (nb' ++ ghosts mk W J) n = some b → updH none1 nb' n = some b ∨ (∃ j, j < J ∧ n = mk (2 * j) ∧ b = gblk W j) := by
    intro n b hn
    rw [updH_append] at hn
    cases hz : updH none1 nb' n with
    | some b' => rw [updH_some _ _ _ hz] at hn; injection hn with hn; subst hn; exact .inl rfl
    | none =>
      rw [updH_none _ _ _ hz] at hn
      exact .inr (ghosts_get hn)
  have hgn : ∀ j, j < J → ν' (mk (2 * j)) = nilA := fun j hj => by
    rw [q1 _ (hbdg _ (.inr ⟨j, hj, rfl⟩))]
    unfold ghE2
    rw [if_pos ⟨j, hj, rfl⟩]
  refine ⟨ν', fun n hn => (q1 n (hbdg n (.inl hn))).trans (hνo n hn), q2, by rw [hup]; exact q3, fun n blk hn => ?_, fun n n' b b' hn hn' hs hs' hne => ?_⟩
  · rcases hspl n blk hn with hn | ⟨j, hj, rfl, rfl⟩
    · rw [hup]; exact q4 n blk hn
    · refine ⟨rfl, fun r hr => (by cases hr), fun row r j' c hr => (by simp [gblk] at hr), fun _ => ⟨rfl, by rw [hgn j hj]; rfl, fun c hc => by cases hc⟩, fun _ hs => (by rw [hgn j hj] at hs; cases hs)⟩
  · rcases hspl n b hn with hn | ⟨j, hj, rfl, rfl⟩
    rotate_left
    · rw [hgn j hj] at hs; cases hs
    rcases hspl n' b' hn' with hn' | ⟨j, hj, rfl, rfl⟩
    rotate_left
    · rw [hgn j hj] at hs'; cases hs'
    exact q5 n n' b b' hn hn' hs hs' hne
end Go.AbsK

set_option linter.unusedVariables false
namespace Go.AbsK
open Go.RowKit

section
variable {P : Program} {ops ops' : Array Oper} {Q Q' : Exit → Act → World → Prop} {F : Fence} {n : Nat}
/-- The exits other than the normal one are the same. -/
def SameOff (Q Q' : Exit → Act → World → Prop) : Prop := ∀ e a w, e ≠ .normal → Q' e a w → Q e a w
/-- K at the normal exit, Q at the others. -/
def offN (Q : Exit → Act → World → Prop) (K : Act → World → Prop) : Exit → Act → World → Prop
  | .normal, a, w => K a w
  | e, a, w => Q e a w
theorem offN_same (K : Act → World → Prop) : SameOff Q (offN Q K) := fun e a w he h => by cases e <;> first | exact h | exact absurd rfl he
theorem wpIn_off (hq : SameOff Q Q') {o : Oper} {a : Act} {w : World} {K K' : Act → World → Prop} (h : ∀ a w, K a w → K' a w) (hh : o.wpIn F n P a w K Q') : o.wpIn F n P a w K' Q := by
  unfold Oper.wpIn at *
  refine ⟨hh.1, ?_⟩
  have hh := hh.2
  have hl : LetsOut Q' → LetsOut Q := fun ⟨a, w, hw⟩ => ⟨a, w, hq _ _ _ (by simp) hw⟩
  generalize (o.semAt F.round a.eval).run P w = r at *
  cases r with
  | ok x w' =>
    cases x <;> simp only [Oper.uponIn] at hh ⊢ <;>
      first
        | exact h _ _ hh
        | exact ⟨hh.1, CallsIn.mono hh.2 (fun e w'' he => by cases e <;> first | exact h _ _ he | exact hq _ _ _ (by simp) he | exact hl he)⟩
        | exact ⟨hh.1, RowsIn.mono hh.2 (fun _ _ he => h _ _ he)⟩
        | exact ⟨hh.1, RoundIn.mono hh.2 (fun e w'' he => by cases e <;> first | exact h _ _ he | exact hq _ _ _ (by simp) he | exact hl he)⟩
  | halt x w' => cases x <;> simp only [Oper.uponIn] at hh ⊢ <;> first | exact hh.elim | exact hq _ _ _ (by simp) hh
/-- The first s have come, the others have not. -/
def upto (s k : Nat) : Array Bool := ((List.range k).map (fun i => decide (i < s))).toArray
theorem upto_get (s k i : Nat) : (upto s k)[i]? = if i < k then some (decide (i < s)) else none := by
  unfold upto
  rw [List.getElem?_toArray, List.getElem?_map]
  by_cases h : i < k
  · rw [if_pos h, List.getElem?_range h]; rfl
  · rw [if_neg h, List.getElem?_eq_none (by simpa using h)]; rfl
/-- What is to be checked: no guards; all of the first s stand before each of the others. -/
def barOK (ops : List Oper) (s : Nat) : Bool :=
  ops.all (fun o => o.guard.isNone) && edgesOK ops (ancs ops) && (List.range ops.length).all fun i => decide (i < s) || (List.range s).all fun j => ((ancs ops).getD i 0).testBit j
theorem wpAnyIn_prefix {s : Nat} (hs : s ≤ ops.size) (hpre : ∀ i, i < s → ops'[i]? = ops[i]?) (hsz' : ops'.size = s) (hchk : barOK ops.toList s = true) (hq : SameOff Q Q')
    (hQ : ∀ a w, Q' .normal a w → wpAnyIn F n P .any ops Q (ops.size - s) (upto s ops.size) a w) :
    ∀ (fuel : Nat) (listed listed' : Array Bool) (a : Act) (w : World), listed.size = ops.size → listed'.size = s → (∀ i, i < s → listed'[i]? = listed[i]?) → Closed ops listed → (∀ i, s ≤ i → lst listed i = false) →
      (List.range s).countP (fun i => !lst listed i) = fuel → wpAnyIn F n P .any ops' Q' fuel listed' a w → wpAnyIn F n P .any ops Q (fuel + (ops.size - s)) listed a w := by
  unfold barOK at hchk
  simp only [Bool.and_eq_true] at hchk
  obtain ⟨⟨hg, hedges⟩, hbar⟩ := hchk
  have hguard : ∀ (i : Nat) (o : Oper), ops[i]? = some o → o.guard = none := fun i o ho => by
    have := List.all_eq_true.1 hg o (by have := Array.mem_of_getElem? ho; simpa using this)
    simpa using this
  have hlg : ∀ (l l' : Array Bool) (k : Nat), l.size = ops.size → l'.size = s → (∀ i, i < s → l'[i]? = l[i]?) → k < s → l'.getD k true = l.getD k true ∧ l'.getD k false = l.getD k false := by
    intro l l' k _ _ h hk
    simp only [Array.getD_eq_getD_getElem?, h k hk, and_self]
  have hin : ∀ (l : Array Bool) (k : Nat), k < l.size → l.getD k true = lst l k := by
    intro l k hk
    unfold lst
    simp only [Array.getD_eq_getD_getElem?, Array.getElem?_eq_getElem hk, Option.getD_some]
  intro fuel
  induction fuel with
  | zero =>
    intro listed listed' a w hsz hsz2 hl hcl hafter hcnt h
    have hall : ∀ j, j < s → lst listed j = true := fun j hj => by simpa using countP_zero hcnt j hj
    have hfull : listed = upto s ops.size := by
      apply Array.ext_getElem?
      intro i
      rw [upto_get]
      by_cases hi : i < ops.size
      · rw [if_pos hi]
        have hi' : i < listed.size := by omega
        rw [Array.getElem?_eq_getElem hi']
        have h1 : lst listed i = listed[i] := by unfold lst; rw [Array.getD_eq_getD_getElem?, Array.getElem?_eq_getElem hi']; rfl
        rw [← h1]
        by_cases hi2 : i < s
        · rw [hall i hi2, decide_eq_true hi2]
        · rw [hafter i (by omega), decide_eq_false hi2]
      · rw [if_neg hi, Array.getElem?_eq_none (by omega)]
    rw [Nat.zero_add, hfull]
    exact hQ a w h.2
  | succ fuel ih =>
    intro listed listed' a w hsz hsz2 hl hcl hafter hcnt h
    have hready : ∀ i, i ∈ Region.ready .any ops listed → i < s := by
      intro i hi
      obtain ⟨hun, o, ho, hdeps⟩ := mem_ready.1 hi
      have hil : i < ops.size := (Array.getElem?_eq_some_iff.1 ho).1
      rcases Nat.lt_or_ge i s with h1 | h1
      · exact h1
      exfalso
      have hb := List.all_eq_true.1 hbar i (List.mem_range.2 (by simpa using hil))
      simp only [Bool.or_eq_true, decide_eq_true_eq] at hb
      have hb := hb.resolve_left (by omega)
      have hz : (List.range s).countP (fun i => !lst listed i) = 0 := by
        rw [List.countP_eq_zero]
        intro j hj hq
        have hbit := List.all_eq_true.1 hb j hj
        have := anc_listed hedges hcl i o ho (fun e he hb => hdeps e he hb) j (by have := List.mem_range.1 hj; omega) hbit
        rw [this] at hq
        cases hq
      omega
    have hrr : ∀ i, i ∈ Region.ready .any ops listed → i ∈ Region.ready .any ops' listed' := by
      intro i hi
      have his := hready i hi
      obtain ⟨hun, o, ho, hdeps⟩ := mem_ready.1 hi
      refine mem_ready.2 ⟨?_, o, by rw [hpre i his]; exact ho, fun e he hb => ?_⟩
      · rw [(hlg listed listed' i hsz hsz2 hl his).1]; exact hun
      · have hlt := (edges_spec hedges (show ops.toList[i]? = some o by rw [Array.getElem?_toList]; exact ho)).1 e he hb
        rw [(hlg listed listed' e.on hsz hsz2 hl (by omega)).2]
        exact hdeps e he hb
    rw [show fuel + 1 + (ops.size - s) = (fuel + (ops.size - s)) + 1 by omega]
    refine ⟨fun hnil => ?_, fun i hi => ?_⟩
    · exfalso
      have : ∃ j, j < s ∧ (!lst listed j) = true := by
        by_cases h : ∃ j, j < s ∧ (!lst listed j) = true
        · exact h
        · have : (List.range s).countP (fun i => !lst listed i) = 0 := by
            rw [List.countP_eq_zero]
            intro j hj hq
            exact h ⟨j, List.mem_range.1 hj, hq⟩
          omega
      obtain ⟨j, hj, hq⟩ := this
      obtain ⟨i, h1, h2, h3⟩ := least_of (p := fun i => !lst listed i) s j hj hq
      have ho : ops[i]? = some ops[i] := Array.getElem?_eq_getElem (by omega)
      have : i ∈ Region.ready .any ops listed := by
        refine mem_ready.2 ⟨?_, _, ho, fun e he hb => ?_⟩
        · simp only [Bool.not_eq_true'] at h2
          rw [hin listed i (by omega)]
          exact h2
        · have hlt := (edges_spec hedges (show ops.toList[i]? = some ops[i] by rw [Array.getElem?_toList]; exact ho)).1 e he hb
          have := h3 e.on hlt
          simpa [lst] using this
      rw [hnil] at this
      cases this
    · have his := hready i hi
      have h2 := h.2 i (hrr i hi)
      obtain ⟨hun, o, ho, hdeps⟩ := mem_ready.1 hi
      unfold wpOpIn at h2 ⊢
      rw [hpre i his, ho] at h2
      rw [ho]
      simp only [Region.wanted, hguard i o ho, if_true] at h2 ⊢
      refine wpIn_off hq (fun a' w' hk => ?_) h2
      have hset : ∀ k, lst (listed.setIfInBounds i true) k = if k = i then true else lst listed k := by
        intro k
        unfold lst
        rw [Array.getD_eq_getD_getElem?, Array.getD_eq_getD_getElem?]
        by_cases hk : k = i
        · subst hk
          rw [if_pos rfl, Array.getElem?_setIfInBounds_self, if_pos (by omega)]
          rfl
        · rw [if_neg hk, Array.getElem?_setIfInBounds_ne (Ne.symm hk)]
      have hun' : lst listed i = false := by rw [← hin listed i (by omega)]; exact hun
      refine ih _ _ a' w' (by rw [Array.size_setIfInBounds]; exact hsz) (by rw [Array.size_setIfInBounds]; exact hsz2) (fun k hk => ?_) ?_ (fun k hk => ?_) ?_ hk
      · by_cases hki : k = i
        · subst hki
          rw [Array.getElem?_setIfInBounds_self, Array.getElem?_setIfInBounds_self, if_pos (by omega), if_pos (by omega)]
        · rw [Array.getElem?_setIfInBounds_ne (Ne.symm hki), Array.getElem?_setIfInBounds_ne (Ne.symm hki)]
          exact hl k hk
      · intro j oj hoj hlj e he hb
        rw [hset] at hlj ⊢
        by_cases hji : j = i
        · subst hji
          rw [ho] at hoj
          injection hoj with hoj
          subst hoj
          split
          · rfl
          · exact hdeps e he hb
        · rw [if_neg hji] at hlj
          split
          · rfl
          · exact hcl j oj hoj hlj e he hb
      · rw [hset, if_neg (by omega)]
        exact hafter k hk
      · have := countP_flip (p := fun k => !lst listed k) (q := fun k => !lst (listed.setIfInBounds i true) k) (i := i) (by simp [hun']) (by simp [hset]) (fun j hj => by simp only [hset, if_neg hj]) his
        omega
end
end Go.AbsK

set_option linter.unusedVariables false
namespace Go.AbsK
open Go.RowKit

inductive Ctx where
  | hole
  | l (K : Ctx) (y : Code)
  | r (x : Code) (K : Ctx)
def Ctx.fill : Ctx → Code → Code
  | .hole, B => B
  | .l K y, B => .seq (K.fill B) y
  | .r x K, B => .seq x (K.fill B)
def Ctx.pre : Ctx → Code
  | .hole => .skip
  | .l K _ => K.pre
  | .r x K => .seq x K.pre
def Ctx.post : Ctx → Code
  | .hole => .skip
  | .l K y => .seq K.post y
  | .r _ K => K.post
def Ctx.postQ (F : Fence) (n : Nat) (P : Program) : Ctx → (Exit → Act → World → Prop) → Act → World → Prop
  | .hole, Q => Q .normal
  | .l K y, Q => K.postQ F n P (Exit.then (y.wpIn F n P Q) Q)
  | .r _ K, Q => K.postQ F n P Q
/-- The way to the loop over a function. -/
def ctxOf : Code → Option (Ctx × Code)
  | .seq x y => match ctxOf x with
    | some (K, B) => some (.l K y, B)
    | none => match ctxOf y with
      | some (K, B) => some (.r x K, B)
      | none => none
  | .block i (.rangeFunc g ps x y) => some (.hole, .block i (.rangeFunc g ps x y))
  | _ => none
section
variable {P : Program} {tab : Tab} {EQ : TypeId → Option Shp} {C : Orc} {base : Nat} {w0 : Anch} {N : Nat} {ν : Env} {st : St} {a : Act} {w : World}
theorem fill_sound {ro : Option Nat} {rm : Nat} (hT : TabOK P tab) (hE : EqOK P EQ) (hC : COK P C) (hm : P.follows .mixedOrders = true) {B : Code} {QA : Exit → St → Prop} : ∀ (K : Ctx) (Q : Exit → Act → World → Prop) (st : St) (ν : Env) (a : Act) (w : World),
    codeOK N K.pre = true → wpC tab EQ C K.pre QA st → Rel base w0 N ν st a w →
    (∀ st' ν' a' w', QA .normal st' → Rel base w0 N ν' st' a' w' → B.wpIn (fen ro) rm P (Exit.then (K.postQ (fen ro) rm P Q) Q) a' w') →
    (∀ e st' ν' a' w', e ≠ .normal → QA e st' → Rel base w0 N ν' st' a' w' → Q e a' w') → (K.fill B).wpIn (fen ro) rm P Q a w
  | .hole, Q, st, ν, a, w, hk, h, hR, hB, hQ => wpIn_mono (hB st ν a w h hR) (fun e a w q => by cases e <;> exact q)
  | .l K y, Q, st, ν, a, w, hk, h, hR, hB, hQ => wpIn_seq (fill_sound hT hE hC hm K (Exit.then (y.wpIn (fen ro) rm P Q) Q) st ν a w hk h hR
      (fun st' ν' a' w' h' hR' => wpIn_mono (hB st' ν' a' w' h' hR') (fun e a w q => by cases e <;> exact q))
      (fun e st' ν' a' w' he h' hR' => by have := hQ e st' ν' a' w' he h' hR'; cases e <;> first | exact absurd rfl he | exact this))
  | .r x K, Q, st, ν, a, w, hk, h, hR, hB, hQ => by
    simp only [Ctx.pre, codeOK, Bool.and_eq_true] at hk
    refine wpIn_seq (wpC_sound hT hE hC hm x _ _ st ν a w hk.1 h hR (fun e st' ν' a' w' h' hR' => ?_))
    cases e with
    | normal => exact fill_sound hT hE hC hm K Q st' ν' a' w' hk.2 h' hR' hB hQ
    | exit id => exact hQ _ st' ν' a' w' (by simp) h' hR'
    | goto l => exact hQ _ st' ν' a' w' (by simp) h' hR'
    | ret => exact hQ _ st' ν' a' w' (by simp) h' hR'
    | panic ch => exact hQ _ st' ν' a' w' (by simp) h' hR'
    | outgrown => exact hQ _ st' ν' a' w' (by simp) h' hR'
theorem postQ_sound {ro : Option Nat} {rm : Nat} (hT : TabOK P tab) (hE : EqOK P EQ) (hC : COK P C) (hm : P.follows .mixedOrders = true) : ∀ (K : Ctx) (QA : Exit → St → Prop) (Q : Exit → Act → World → Prop) (st : St) (ν : Env) (a : Act) (w : World),
    codeOK N K.post = true → wpC tab EQ C K.post QA st → Rel base w0 N ν st a w →
    (∀ e st' ν' a' w', QA e st' → Rel base w0 N ν' st' a' w' → Q e a' w') → K.postQ (fen ro) rm P Q a w
  | .hole, QA, Q, st, ν, a, w, hk, h, hR, hQ => hQ _ st ν a w h hR
  | .l K y, QA, Q, st, ν, a, w, hk, h, hR, hQ => by
    simp only [Ctx.post, codeOK, Bool.and_eq_true] at hk
    refine postQ_sound hT hE hC hm K _ (Exit.then (y.wpIn (fen ro) rm P Q) Q) st ν a w hk.1 h hR (fun e st' ν' a' w' h' hR' => ?_)
    cases e with
    | normal => exact wpC_sound hT hE hC hm y _ _ st' ν' a' w' hk.2 h' hR' hQ
    | exit id => exact hQ _ st' ν' a' w' h' hR'
    | goto l => exact hQ _ st' ν' a' w' h' hR'
    | ret => exact hQ _ st' ν' a' w' h' hR'
    | panic ch => exact hQ _ st' ν' a' w' h' hR'
    | outgrown => exact hQ _ st' ν' a' w' h' hR'
  | .r x K, QA, Q, st, ν, a, w, hk, h, hR, hQ => postQ_sound hT hE hC hm K QA Q st ν a w hk h hR hQ
structure Renamed (ns : List Nm) (s st : St) : Prop where
  slots : ∀ k, s.slots k = .und ∨ ((s.slots k).ok (bd s.heap) ∧ (s.slots k).ren ns = st.slots k)
  heap : ∀ n blk, s.heap n = some blk → n.2 = 0 ∧ n.1 < ns.length ∧ (∀ r ∈ blk.rows, ∀ c ∈ r, Cell.ok (bd s.heap) c) ∧
    ∃ blk', st.heap (ns.getD n.1 (0, 0)) = some blk' ∧ blk.w = blk'.w ∧ blk.ty = blk'.ty ∧ blk.own = blk'.own ∧ blk.cap = blk'.cap ∧ blk.rows.map (List.map (Cell.ren ns)) = blk'.rows
  inj : ∀ i j, i < ns.length → j < ns.length → i ≠ j → ns.getD i (0, 0) ≠ ns.getD j (0, 0)
  all : ∀ n, handed ns.length n → bd s.heap n
  kk : s.k = ns.length
theorem Rel.rename (hR : Rel base w0 N ν st a w) {ns : List Nm} {s : St} (h : Renamed ns s st) : Rel base ⟨w, handed ns.length, envOf ns ν, w0.dl⟩ N (envOf ns ν) s a w := by
  refine ⟨hR.defers, hR.size, fun k => ?_, ⟨fun n blk hn => ?_, fun n n' blk blk' hn hn' ho ho' hs hs' hne => ?_, Below.refl _ _, fun n hn => ⟨hn.1, h.all n hn, rfl⟩, hR.hr.base_le, fun d g hg => ?_, KeepsOthers.refl _⟩, fun n hn => by rw [h.kk]; exact hn.2⟩
  · rcases h.slots k with hk | ⟨hk, he⟩
    · exact .inl hk
    · rcases hR.slots k with hu | ⟨_, hv⟩
      · rw [← he] at hu
        refine .inl ?_
        cases hs : s.slots k <;> rw [hs] at hu <;> first | rfl | cases hu
      · exact .inr ⟨hk, by rw [hv, ← he, AV.conc_ren]⟩
  · obtain ⟨h1, h2, h3, blk', h4, h5, h6, h7, h8, h9⟩ := h.heap n blk hn
    have hB := hR.hr.heap _ _ h4
    refine ⟨fun r hr => ?_, fun row r j c hr hc => ?_, fun hs => ?_, fun ho hs => ?_⟩
    · have := hB.width (r.map (Cell.ren ns)) (by rw [← h9]; exact List.mem_map.2 ⟨r, hr, rfl⟩)
      rw [List.length_map] at this
      rw [this, h5]
    · have hr' : blk'.rows[row]? = some (r.map (Cell.ren ns)) := by rw [← h9, List.getElem?_map, hr]; rfl
      have hc' : (r.map (Cell.ren ns))[j]? = some (c.ren ns) := by rw [List.getElem?_map, hc]; rfl
      obtain ⟨g1, g2, g3⟩ := hB.read row _ j _ hr' hc'
      refine ⟨h3 r (List.mem_of_getElem? hr) c (List.mem_of_getElem? hc), ?_, fun ho => g3 (by rw [← h7]; exact ho)⟩
      rw [h5, ← Cell.conc_ren]
      exact g2
    · obtain ⟨g1, g2, g3⟩ := hB.nil hs
      rw [← h9] at g1
      exact ⟨List.map_eq_nil_iff.1 g1, g2, fun c hc => g3 c (by rw [← h8]; exact hc)⟩
    · obtain ⟨g1, g3, g4, g5, g6, g7⟩ := hB.own (by rw [← h7]; exact ho) hs
      refine ⟨g1, g3, ?_, g5, fun c hc => g6 c (by rw [← h8]; exact hc), ?_⟩
      · rw [← h9, List.length_map] at g4; exact g4
      · rw [h5, h6]; exact g7
  · obtain ⟨h1, h2, -, b1, h4, -, -, h7, -⟩ := h.heap n blk hn
    obtain ⟨h1', h2', -, b2, h4', -, -, h7', -⟩ := h.heap n' blk' hn'
    have hne' : n.1 ≠ n'.1 := by
      intro e
      apply hne
      cases n; cases n'
      simp only at h1 h1' e
      subst h1 h1' e
      rfl
    exact hR.hr.inj _ _ b1 b2 h4 h4' (by rw [← h7]; exact ho) (by rw [← h7']; exact ho') hs hs' (h.inj _ _ h2 h2' hne')
  · cases hq : s.heap (d, g) with
    | none => rfl
    | some b => have := (h.heap _ _ hq).1; simp only at this; omega
/-- What names the blocks handed over alone is told anew of the world at hand. -/
theorem HRel.anew {k : Nat} {w1 : World} {νa : Env} {dl : List Deferred} {h : Nm → Option Blk} {g : Nat} (hh : HRel base ⟨w1, handed k, νa, dl⟩ ν h g w) {h' : Nm → Option Blk} {g' : Nat} (hle : ∀ n b, h' n = some b → handed k n ∧ h n = some b)
    (hcl : ∀ n b r, h' n = some b → r ∈ b.rows → ∀ c ∈ r, Cell.ok (bd h') c) (hall : ∀ n, handed k n → bd h' n) (dl' : List Deferred) : HRel base ⟨w, handed k, νa, dl'⟩ νa h' g' w := by
  have hν : ∀ n, handed k n → ν n = νa n := fun n hn => (hh.anc n hn).2.2
  have hνb : ∀ n, bd h' n → νa n = ν n := fun n hn => by
    unfold bd at hn
    obtain ⟨b, hb⟩ := Option.isSome_iff_exists.1 hn
    exact (hν n (hle n b hb).1).symm
  refine ⟨fun n blk hn => ?_, fun n n' blk blk' hn hn' ho ho' hs hs' hne => ?_, Below.refl _ _, fun n hn => ⟨hn.1, hall n hn, rfl⟩, hh.base_le, fun d gg hg => ?_, KeepsOthers.refl _⟩
  · obtain ⟨h1, h2⟩ := hle n blk hn
    have hB := hh.heap n blk h2
    refine ⟨hB.width, fun row r j c hr hc => ?_, by rw [← hν n h1]; exact hB.nil, fun ho => ?_⟩
    · obtain ⟨g1, g2, g3⟩ := hB.read row r j c hr hc
      have hok := hcl n blk r hn (List.mem_of_getElem? hr) c (List.mem_of_getElem? hc)
      rw [← hν n h1, Cell.conc_eq hνb hok]
      exact ⟨hok, g2, g3⟩
    · rw [← hν n h1]
      exact hB.own ho
  · obtain ⟨h1, h2⟩ := hle n blk hn
    obtain ⟨h1', h2'⟩ := hle n' blk' hn'
    rw [← hν n h1] at hs ⊢
    rw [← hν n' h1'] at hs' ⊢
    exact hh.inj n n' blk blk' h2 h2' ho ho' hs hs' hne
  · cases hq : h' (d, gg) with
    | none => rfl
    | some b =>
      have h1 := (hle _ _ hq).1.1
      simp only at h1
      omega
/-- What is no cells may turn. -/
theorem HRel.turn {k : Nat} {νa : Env} {dl : List Deferred} {h : Nm → Option Blk} {g : Nat} {w w' : World} {row : Option Nat} (hh : HRel base ⟨w, handed k, νa, dl⟩ ν h g w) (hg : w.grownBy w' row)
    (hr : ∀ r, row = some r → base ≤ r ∧ ∃ o : Obj, w.heap[r]? = some o ∧ o.isCells = false) : HRel base ⟨w', handed k, νa, dl⟩ ν h g w' := by
  have hcell : ∀ p v, w.cell? p = some v → w'.cell? p = some v := fun p v hc => (cell_kept hc hg (fun r e => (hr r e).2))
  refine ⟨fun n blk hn => ?_, hh.inj, Below.refl _ _, hh.anc, Nat.le_trans hh.base_le hg.size, hh.fresh, KeepsOthers.refl _⟩
  have hB := hh.heap n blk hn
  refine ⟨hB.width, fun row' r j c hr' hc => ?_, hB.nil, fun ho hs => ?_⟩
  · obtain ⟨g1, g2, g3⟩ := hB.read row' r j c hr' hc
    exact ⟨g1, hcell _ _ g2, g3⟩
  · obtain ⟨g1, g3, g4, g5, g6, arr, g7, g8⟩ := hB.own ho hs
    refine ⟨g1, g3, g4, g5, g6, arr, ?_, g8⟩
    refine (hg.block _ (Array.getElem?_eq_some_iff.1 g7).1 (fun e => ?_)).trans g7
    obtain ⟨-, o, ho1, ho2⟩ := hr _ e.symm
    rw [g7] at ho1
    injection ho1 with ho1
    subst ho1
    cases ho2
end
end Go.AbsK

set_option linter.unusedVariables false
namespace Go.AbsK
open Go.RowKit

section
variable {P : Program} {tab : Tab} {EQ : TypeId → Option Shp} {C : Orc} {base : Nat} {N : Nat} {ν : Env} {st : St} {a : Act} {w : World}
/-- What is asked of the blocks between two rounds. -/
structure Family (k : Nat) (ow : Nm → Bool) (h : Nm → Option Blk) : Prop where
  names : ∀ n b, h n = some b → handed k n ∧ b.own = ow n
  rows : ∀ n b r, h n = some b → r ∈ b.rows → ∀ c ∈ r, Cell.ok (handed k) c
  all : ∀ n, handed k n → bd h n
theorem Family.bd {k : Nat} {ow : Nm → Bool} {h : Nm → Option Blk} (hf : Family k ow h) {n : Nm} : bd h n ↔ handed k n :=
  ⟨fun hn => by
    unfold AbsK.bd at hn
    obtain ⟨b, hb⟩ := Option.isSome_iff_exists.1 hn
    exact (hf.names n b hb).1, hf.all n⟩
/-- What stands between the assignment to the loop's variable and the body: the slots, the variable's own block. -/
def Between (base k N : Nat) (ow : Nm → Bool) (νa : Env) (sl : Nat → AV) (bx : Nm) (bb : Blk) (a : Act) (W : World) : Prop :=
  ∃ ν1, (∀ n, handed k n → ν1 n = νa n) ∧ a.defers = [] ∧ a.tmps.size = N ∧ (∀ t, RV ν1 (fun n => handed k n ∨ n = bx) (a.tmps.getD t undef) (sl t)) ∧ BlkRel base W ν1 (fun _ => False) bx bb ∧ (∀ n, handed k n → ow n = true → (ν1 bx).1.spot = none → (νa n).1.spot = none → (ν1 bx).1.block ≠ (νa n).1.block)
theorem BlkRel.turn {νa : Env} {D : Nm → Prop} {n : Nm} {b : Blk} {w w' : World} {row : Option Nat} (hB : BlkRel base w νa D n b) (hg : w.grownBy w' row) (hr : ∀ r, row = some r → ∃ o : Obj, w.heap[r]? = some o ∧ o.isCells = false) : BlkRel base w' νa D n b := by
  refine ⟨hB.width, fun row' r j c hr' hc => ?_, hB.nil, fun ho hs => ?_⟩
  · obtain ⟨g1, g2, g3⟩ := hB.read row' r j c hr' hc
    exact ⟨g1, cell_kept g2 hg hr, g3⟩
  · obtain ⟨g1, g3, g4, g5, g6, arr, g7, g8⟩ := hB.own ho hs
    refine ⟨g1, g3, g4, g5, g6, arr, ?_, g8⟩
    refine (hg.block _ (Array.getElem?_eq_some_iff.1 g7).1 (fun e => ?_)).trans g7
    obtain ⟨o, ho1, ho2⟩ := hr _ e.symm
    rw [g7] at ho1
    injection ho1 with ho1
    subst ho1
    cases ho2
theorem below_turn {b : Nat} {w0 w w' : World} {row : Option Nat} (h : Below b w0 w) (hg : w.grownBy w' row) (hr : ∀ r, row = some r → b ≤ r) (hb : b ≤ w.heap.size) : Below b w0 w' :=
  h.trans ⟨hg.os, hg.tape, hg.output, hg.size, fun k hk => hg.block k (by omega) (fun e => by have := hr k e.symm; omega)⟩
theorem range_sound (hT : TabOK P tab) (hE : EqOK P EQ) (hC : COK P C) (hm : P.follows .mixedOrders = true) {k G : Nat} {νa : Env} {s : St} {ow : Nm → Bool} (hR : Rel base ⟨w, handed k, νa, []⟩ N νa s a w)
    {g : Operand} {p : Tmp} {assign body : Code} {gf : Nat} {caps : List Cell} (hp : p < N) (hok1 : codeOK N assign = true) (hok2 : codeOK N body = true) (hg : s.ev g = .fn gf caps) (eg : ∀ args w, (callFunc gf args).run P w = .ok (.enter gf args) w)
    {OK : World → Prop} {enc : Nat → Value} {it : Nat → List Cell} (hit : ∀ i ν, enc i = .agg (concs ν (it i))) (hpl : ∀ i, ∀ c ∈ it i, Cell.ok (fun _ => False) c)
    {S Sp : List Nat → Prop} {M : Nat} (hseq : SeqStopsK Fence.wide 2 P gf (concs νa caps) (fun i => #[enc i]) (fun A B => OK A → OK B) S Sp M w)
    {H Hx : List Nat → Nm → Option Blk} {Gd Gx : List Nat → Prop} (hG0 : Gd []) (hF : ∀ pre, Family k ow (H pre)) (hFx : ∀ pre, Family k ow (Hx pre)) (hH0 : ∀ n b, H [] n = some b → s.heap n = some b) (hs : ∀ n, bd s.heap n → handed k n)
    (hOK : ∀ pre W, HRel base ⟨W, handed k, νa, []⟩ νa (H pre) G W → OK W) (hOKt : ∀ W l o o', OK W → W.heap[l]? = some o → o.isCells = false → OK (W.putObj l o'))
    {sA : Nat → Nat → AV} {bx : Nm} {bb : Nat → Blk} (hbx : bx.2 = G) (hG : 0 < G) (hbo : ∀ i, (bb i).own = true) (hbr : ∀ i, ∀ r ∈ (bb i).rows, ∀ c ∈ r, Cell.ok (fun _ => False) c) (hsA : ∀ i t, (sA i t) = .und ∨ (sA i t).ok (fun n => handed k n ∨ n = bx))
    (hassign : ∀ pre i, wpC tab EQ C assign (fun e st' => e = .normal ∧ (∀ t, sA i t = .und ∨ sA i t = st'.slots t) ∧ (∀ n b, H pre n = some b → st'.heap n = some b) ∧ st'.heap bx = some (bb i)) { slots := fun t => if t = p then .agg (it i) else s.slots t, heap := H pre, gen := G, k := k })
    (hbody : ∀ pre i, Gd pre → pre.length < M → wpC tab EQ C body (fun e st' => match e with
      | .normal => Gd (pre ++ [i]) ∧ ∀ n b, H (pre ++ [i]) n = some b → st'.heap n = some b
      | .ret => Gx (pre ++ [i]) ∧ ∀ n b, Hx (pre ++ [i]) n = some b → st'.heap n = some b
      | _ => False) { slots := sA i, heap := updH (H pre) [(bx, bb i)], gen := G + 1, k := k })
    {Q : Exit → Act → World → Prop}
    (hdone : ∀ (D : Nat) (xs : List Nat) (W : World), w.heap.size ≤ D → S xs → Gd xs → HRel base ⟨W, handed k, νa, []⟩ νa (H xs) G W → Below base w W → W.heap[D]? = some (.deferred (some [])) → Q .normal { a with defers := [{ target := .collected D, args := #[] }] } W)
    (hstop : ∀ (D : Nat) (pre : List Nat) (W : World), w.heap.size ≤ D → Sp pre → Gx pre → HRel base ⟨W, handed k, νa, []⟩ νa (Hx pre) G W → Below base w W → W.heap[D]? = some (.deferred (some [])) → Q .ret { a with defers := [{ target := .collected D, args := #[] }] } W) :
    (Code.rangeFunc g #[p] assign body).wpIn Fence.wide 3 P Q a w := by
  have hdf : a.defers = [] := hR.defers
  obtain ⟨-, hgv⟩ := hR.ev_some hg (by simp)
  have hbase : base ≤ w.heap.size := hR.hr.base_le
  have hIown : ∀ (g : List Nat → Prop) (h : List Nat → Nm → Option Blk), OwnFrom w.heap.size (fun (pre : List Nat) W => HRel base ⟨W, handed k, νa, []⟩ νa (h pre) G W ∧ Below base w W ∧ g pre) := by
    intro g h pre W W' row hI hgr hr
    exact ⟨hI.1.turn hgr (fun r e => ⟨by have := (hr r e).1; omega, (hr r e).2⟩), below_turn hI.2.1 hgr (fun r e => by have := (hr r e).1; omega) hI.1.base_le, hI.2.2⟩
  refine wpIn_rangeFunc_ownH (n := 3) (gf := gf) (lb := concs νa caps) (α := Nat) (encs := fun i => #[enc i]) (Kp := fun A B => OK A → OK B) (S := S) (Sp := Sp) (N := M) (w0 := w) rfl (by omega) hgv trivial eg hseq
    (fun h1 h2 h => h2 (h1 h)) (fun W l o o' _ hl ho _ hW => hOKt W l o o' hW hl ho) (Below.refl _ _) (fun _ => rfl)
    (fun pre W => HRel base ⟨W, handed k, νa, []⟩ νa (H pre) G W ∧ Below base w W ∧ Gd pre)
    (fun c pre W => c = .ret ∧ HRel base ⟨W, handed k, νa, []⟩ νa (Hx pre) G W ∧ Below base w W ∧ Gx pre)
    (hIown Gd H) (fun c => fun pre W W' row hI hgr hr => ⟨hI.1, hIown Gx Hx pre W W' row hI.2 hgr hr⟩) ?_
    (fun i a' W => Between base k N ow νa (sA i) bx (bb i) a' W) ?_ ?_ ?_ ?_ ?_
  · refine ⟨hR.hr.anew (fun n b hn => ⟨((hF []).names n b hn).1, hH0 n b hn⟩) (fun n b r hn hr c hc => Cell.ok_mono (fun m hm => (hF []).all m hm) ((hF []).rows n b r hn hr c hc)) (hF []).all _, Below.refl _ _, hG0⟩
  · intro i a' _ W W' row hA hgr hr
    obtain ⟨ν1, k1, k2, k3, k4, k5, k6⟩ := hA
    exact ⟨ν1, k1, k2, k3, k4, k5.turn hgr (fun r e => (hr r e).2), k6⟩
  · intro l pre i W K hI hK
    have hR1 : Rel base ⟨W, handed k, νa, []⟩ N νa { slots := fun t => if t = p then .agg (it i) else s.slots t, heap := H pre, gen := G, k := k } { tmps := ((#[p] : Array Tmp).zip #[enc i]).foldl (fun t (p, v) => t.setIfInBounds p v) a.tmps, defers := [] } W := by
      have htm : ((#[p] : Array Tmp).zip #[enc i]).foldl (fun t (p, v) => t.setIfInBounds p v) a.tmps = a.tmps.setIfInBounds p (enc i) := by simp
      refine ⟨rfl, ?_, fun t => ?_, hI.1, fun n hn => hn.2⟩
      · show Array.size (((#[p] : Array Tmp).zip #[enc i]).foldl (fun t (p, v) => t.setIfInBounds p v) a.tmps) = N
        rw [htm, Array.size_setIfInBounds]
        exact hR.size
      · show RV νa (bd (H pre)) ((((#[p] : Array Tmp).zip #[enc i]).foldl (fun t (p, v) => t.setIfInBounds p v) a.tmps).getD t undef) _
        rw [htm]
        by_cases htp : t = p
        · subst htp
          simp only [if_true]
          by_cases hlt : t < a.tmps.size
          · rw [Array.getD_eq_getD_getElem?, Array.getElem?_setIfInBounds_self, if_pos hlt]
            exact .inr ⟨fun c hc => Cell.ok_mono (fun _ h => h.elim) (hpl i c hc), hit i νa⟩
          · exact absurd (by rw [hR.size]; exact hp) hlt
        · simp only [if_neg htp]
          rw [Array.getD_eq_getD_getElem?, Array.getElem?_setIfInBounds_ne (Ne.symm htp), ← Array.getD_eq_getD_getElem?]
          exact (hR.slots t).mono (fun n hn => (hF pre).all n (hs n hn)) (fun _ _ => rfl)
    refine wpC_sound (ro := some l) hT hE hC hm assign _ _ _ νa _ W hok1 (hassign pre i) hR1 (fun e st' ν' a' W' hq hR' => ?_)
    obtain ⟨rfl, q1, q2, q3⟩ := hq
    have hνh : ∀ n, handed k n → ν' n = νa n := fun n hn => (hR'.hr.anc n hn).2.2
    refine hK a' W' (hR'.hr.oth.from _) (fun _ => ?_) ?_ ?_
    · exact hOK pre W' (hR'.hr.anew (fun n b hn => ⟨((hF pre).names n b hn).1, q2 n b hn⟩) (fun n b r hn hr c hc => Cell.ok_mono (fun m hm => (hF pre).all m hm) ((hF pre).rows n b r hn hr c hc)) (hF pre).all _)
    · exact ⟨hR'.hr.anew (fun n b hn => ⟨((hF pre).names n b hn).1, q2 n b hn⟩) (fun n b r hn hr c hc => Cell.ok_mono (fun m hm => (hF pre).all m hm) ((hF pre).rows n b r hn hr c hc)) (hF pre).all _, hI.2.1.trans hR'.hr.below, hI.2.2⟩
    · refine ⟨ν', hνh, hR'.defers, hR'.size, fun t => ?_, ?_, fun n hn how hs hs' => ?_⟩
      · rcases q1 t with h | h
        · exact .inl h
        · rcases hsA i t with h' | h'
          · exact .inl h'
          · rcases hR'.slots t with h9 | ⟨_, h9⟩
            · exact .inl (h.trans h9)
            · exact .inr ⟨h', by rw [h]; exact h9⟩
      · have hB := hR'.hr.heap bx (bb i) q3
        refine ⟨hB.width, fun row r j c hr hc => ?_, hB.nil, hB.own⟩
        obtain ⟨g1, g2, g3⟩ := hB.read row r j c hr hc
        exact ⟨hbr i r (List.mem_of_getElem? hr) c (List.mem_of_getElem? hc), g2, g3⟩
      · have hbn := (hF pre).all n hn
        unfold AbsK.bd at hbn
        obtain ⟨b, hb⟩ := Option.isSome_iff_exists.1 hbn
        have h1 := ((hF pre).names n b hb).2
        rw [← hνh n hn] at hs' ⊢
        refine hR'.hr.inj bx n (bb i) b q3 (q2 n b hb) (hbo i) (h1.trans how) hs hs' (fun e => ?_)
        have := hn.1
        rw [← e, hbx] at this
        omega
  · intro l pre i a' W hl hrec hI hA hlen
    obtain ⟨ν1, k1, k2, k3, k4, k5, k6⟩ := hA
    have hD : ∀ n, (handed k n ∨ n = bx) → bd (updH (H pre) [(bx, bb i)]) n := by
      intro n hn
      show (if n = bx then some (bb i) else H pre n).isSome = true
      split
      · rfl
      · rename_i hne
        exact (hF pre).all n (hn.resolve_right hne)
    have hR1 : Rel base ⟨W, handed k, νa, []⟩ N ν1 { slots := sA i, heap := updH (H pre) [(bx, bb i)], gen := G + 1, k := k } a' W := by
      have hcase : ∀ n b, updH (H pre) [(bx, bb i)] n = some b → (n = bx ∧ b = bb i) ∨ (n ≠ bx ∧ H pre n = some b) := by
        intro n b hn
        replace hn : (if n = bx then some (bb i) else H pre n) = some b := hn
        split at hn
        · rename_i he; injection hn with hn; exact .inl ⟨he, hn.symm⟩
        · rename_i he; exact .inr ⟨he, hn⟩
      refine ⟨k2, k3, fun t => (k4 t).mono hD (fun _ _ => rfl), ⟨fun n b hn => ?_, fun n n' b b' hn hn' ho ho' hs hs' hne => ?_, Below.refl _ _, fun n hn => ⟨hn.1, hD n (.inl hn), k1 n hn⟩, hI.1.base_le, fun d gg hgg => ?_, KeepsOthers.refl _⟩, fun n hn => hn.2⟩
      · rcases hcase n b hn with ⟨rfl, rfl⟩ | ⟨hne, h1⟩
        · refine ⟨k5.width, fun row r j c hr hc => ?_, k5.nil, k5.own⟩
          obtain ⟨g1, g2, g3⟩ := k5.read row r j c hr hc
          exact ⟨Cell.ok_mono (fun _ h => h.elim) g1, g2, g3⟩
        · have hB := hI.1.heap n b h1
          have hn1 := k1 n ((hF pre).names n b h1).1
          refine ⟨hB.width, fun row r j c hr hc => ?_, by rw [hn1]; exact hB.nil, fun ho => by rw [hn1]; exact hB.own ho⟩
          obtain ⟨g1, g2, g3⟩ := hB.read row r j c hr hc
          have hok := (hF pre).rows n b r h1 (List.mem_of_getElem? hr) c (List.mem_of_getElem? hc)
          rw [hn1, Cell.conc_eq k1 hok]
          exact ⟨Cell.ok_mono (fun m hm => hD m (.inl hm)) hok, g2, g3⟩
      · rcases hcase n b hn with ⟨rfl, rfl⟩ | ⟨h0, h1⟩ <;> rcases hcase n' b' hn' with ⟨rfl, rfl⟩ | ⟨h0', h1'⟩
        · exact absurd rfl hne
        · have hh := (hF pre).names n' b' h1'
          rw [k1 n' hh.1] at hs' ⊢
          exact k6 n' hh.1 (hh.2.symm.trans ho') hs hs'
        · have hh := (hF pre).names n b h1
          rw [k1 n hh.1] at hs ⊢
          exact (k6 n hh.1 (hh.2.symm.trans ho) hs' hs).symm
        · rw [k1 n ((hF pre).names n b h1).1] at hs ⊢
          rw [k1 n' ((hF pre).names n' b' h1').1] at hs' ⊢
          exact hI.1.inj n n' b b' h1 h1' ho ho' hs hs' hne
      · show (if (d, gg) = bx then some (bb i) else H pre (d, gg)) = none
        rw [if_neg (fun e => by rw [← e] at hbx; simp only at hbx hgg; omega)]
        exact hI.1.fresh d gg (by simp only at hgg; omega)
    refine wpC_sound (ro := some l) hT hE hC hm body _ _ _ ν1 _ W hok2 (hbody pre i hI.2.2 hlen) hR1 (fun e st' ν' a'' W' hq hR' => ?_)
    cases e with
    | normal =>
      have h1 := hR'.hr.anew (h' := H (pre ++ [i])) (g' := G) (fun n b hn => ⟨((hF _).names n b hn).1, hq.2 n b hn⟩) (fun n b r hn hr c hc => Cell.ok_mono (fun m hm => (hF _).all m hm) ((hF _).rows n b r hn hr c hc)) (hF _).all []
      exact ⟨hR'.hr.oth.from _, fun _ => hOK _ W' h1, h1, hI.2.1.trans hR'.hr.below, hq.1⟩
    | ret =>
      have h1 := hR'.hr.anew (h' := Hx (pre ++ [i])) (g' := G) (fun n b hn => ⟨((hFx _).names n b hn).1, hq.2 n b hn⟩) (fun n b r hn hr c hc => Cell.ok_mono (fun m hm => (hFx _).all m hm) ((hFx _).rows n b r hn hr c hc)) (hFx _).all []
      exact ⟨hR'.hr.oth.from _, rfl, h1, hI.2.1.trans hR'.hr.below, hq.1⟩
    | exit id => exact hq.elim
    | goto l => exact hq.elim
    | panic ch => exact hq.elim
    | outgrown => exact hq.elim
  · intro D xs W hD hS hI hk
    have := hdone D xs W hD hS hI.2.2 hI.1 hI.2.1 hk
    rw [hdf]
    exact this
  · intro D c pre W hD hSp hI hk
    obtain ⟨rfl, h1, h2, h3⟩ := hI
    refine wpIn_ret ?_
    have := hstop D pre W hD hSp h3 h1 h2 hk
    rw [hdf]
    exact this
end
end Go.AbsK

set_option linter.unusedVariables false
namespace Go.AbsK
open Go.RowKit

section
variable {P : Program} {tab : Tab} {EQ : TypeId → Option Shp} {C : Orc} {base : Nat} {N : Nat} {ν : Env} {st : St} {a : Act} {w : World}
/-- What is to be shown of the loop and of what stands behind it. -/
structure RangeSpec (P : Program) (tab : Tab) (EQ : TypeId → Option Shp) (fn : Func) (K : Ctx) (g : Operand) (p : Tmp) (assign body : Code) (k : Nat) (s : St) (r : AV) where
  ow : Nm → Bool
  Gd : List Nat → Prop
  Gx : List Nat → Prop
  gd0 : Gd []
  H : List Nat → Nm → Option Blk
  Hx : List Nat → Nm → Option Blk
  G : Nat
  gpos : 0 < G
  gf : Nat
  caps : List Cell
  evg : s.ev g = .fn gf caps
  enters : ∀ args w, (callFunc gf args).run P w = .ok (.enter gf args) w
  it : Nat → List Cell
  enc : Nat → Value
  hit : ∀ i ν, enc i = .agg (concs ν (it i))
  hpl : ∀ i, ∀ c ∈ it i, Cell.ok (fun _ => False) c
  OK : Env → World → Prop
  OKt : ∀ νa W l o o', OK νa W → W.heap[l]? = some o → o.isCells = false → OK νa (W.putObj l o')
  S : List Nat → Prop
  Sp : List Nat → Prop
  M : Nat
  seq : ∀ base (νa : Env) W, HRel base ⟨W, handed k, νa, []⟩ νa s.heap s.gen W → SeqStopsK Fence.wide 2 P gf (concs νa caps) (fun i => #[enc i]) (fun A B => OK νa A → OK νa B) S Sp M W
  fam : ∀ pre, Family k ow (H pre)
  famx : ∀ pre, Family k ow (Hx pre)
  h0 : ∀ n b, H [] n = some b → s.heap n = some b
  hs : ∀ n, bd s.heap n → handed k n
  hOK : ∀ base (νa : Env) pre W, HRel base ⟨W, handed k, νa, []⟩ νa (H pre) G W → OK νa W
  sA : Nat → Nat → AV
  bx : Nm
  bb : Nat → Blk
  hbx : bx.2 = G
  hbo : ∀ i, (bb i).own = true
  hbr : ∀ i, ∀ r ∈ (bb i).rows, ∀ c ∈ r, Cell.ok (fun _ => False) c
  hsA : ∀ i t, (sA i t) = .und ∨ (sA i t).ok (fun n => handed k n ∨ n = bx)
  hassign : ∀ pre i, wpC tab EQ (allC P) assign (fun e st' => e = .normal ∧ (∀ t, sA i t = .und ∨ sA i t = st'.slots t) ∧ (∀ n b, H pre n = some b → st'.heap n = some b) ∧ st'.heap bx = some (bb i)) { slots := fun t => if t = p then .agg (it i) else s.slots t, heap := H pre, gen := G, k := k }
  hbody : ∀ pre i, Gd pre → pre.length < M → wpC tab EQ (allC P) body (fun e st' => match e with
      | .normal => Gd (pre ++ [i]) ∧ ∀ n b, H (pre ++ [i]) n = some b → st'.heap n = some b
      | .ret => Gx (pre ++ [i]) ∧ ∀ n b, Hx (pre ++ [i]) n = some b → st'.heap n = some b
      | _ => False) { slots := sA i, heap := updH (H pre) [(bx, bb i)], gen := G + 1, k := k }
  done : ∀ xs, S xs → Gd xs → wpC tab EQ (allC P) K.post (fun e st' => (e = .normal ∨ e = .ret) ∧ resA tab st' fn.results.toList = some r) { slots := s.slots, heap := H xs, gen := G, k := k }
  stop : ∀ pre, Sp pre → Gx pre → resA tab { slots := s.slots, heap := Hx pre, gen := G, k := k } fn.results.toList = some r
theorem fok_ranged (hT : TabOK P tab) (hE : EqOK P EQ) (hm : P.follows .mixedOrders = true) {f : FuncId} {fn : Func} {c : Code} (hf : P.funcs[f]? = some fn) (hname : (fn.name == "runtime.NumGoroutine") = false) (hb : fn.body = some c)
    {K : Ctx} {blk : Nat} {g : Operand} {p : Tmp} {assign body : Code} (hc : c = K.fill (.block blk (.rangeFunc g #[p] assign body))) (hok : (codeOK fn.ntmps K.pre && codeOK fn.ntmps K.post && codeOK fn.ntmps assign && codeOK fn.ntmps body && decide (p < fn.ntmps)) = true)
    {O : POfn} (hO : ∀ args bs mk p' r nb, O args bs mk = some (p', r, nb) → p' → nb = [] ∧ plainV r ∧ ∃ ns cargs, args = cargs.map (AV.ren ns) ∧ namesOf args = ns ∧ (ns.length = bs.length → (∀ v ∈ cargs, v.ok (handed bs.length)) ∧ (∀ b ∈ bs, plainB b) ∧ cargs.length ≤ fn.ntmps ∧
      wpC tab EQ (allC P) K.pre (fun e st' => (e = .ret ∧ resA tab st' fn.results.toList = some r) ∨ (e = .normal ∧ ∃ ns' s, Renamed ns' s st' ∧ Nonempty (RangeSpec P tab EQ fn K g p assign body ns'.length s r))) (entry bs cargs))) : FOK P f O := by
  simp only [Bool.and_eq_true, decide_eq_true_eq] at hok
  obtain ⟨⟨⟨⟨hk1, hk2⟩, hk3⟩, hk4⟩, hk5⟩ := hok
  refine ⟨fun args bs mk p' r nb hp' hpp h base ν w w0 gen _ hh hns _ _ => ?_, fun args bs mk q r nb hq hqq p hp => ?_⟩
  rotate_left
  · obtain ⟨rfl, -⟩ := hO args bs mk q r nb hq hqq
    cases hp
  obtain ⟨rfl, hr, ns, cargs, h1, h2, h3⟩ := hO args bs mk p' r nb hp' hpp
  have hlen : ns.length = bs.length := by
    have := congrArg List.length hns
    rw [h2] at this
    simpa using this
  obtain ⟨h4, h5, h6, h7⟩ := h3 hlen
  rw [h2] at hns
  rw [h1]
  have hvals : ((cargs.map (AV.ren ns)).map (AV.conc ν)).toArray = (cargs.map (AV.conc (envOf ns ν))).toArray := by
    rw [List.map_map]
    congr 2
    funext v
    exact AV.conc_ren
  rw [hvals]
  refine .inl ⟨fn, hf, hname, by rw [hb]; rfl, ?_⟩
  refine (callsIn_wide (n := 3)).1 (callsIn_of_wp_marks hf hb trivial ?_)
  have hR : Rel w.heap.size ⟨w, handed bs.length, envOf ns ν, []⟩ fn.ntmps (envOf ns ν) (entry bs cargs) { tmps := (cargs.map (AV.conc (envOf ns ν))).toArray ++ Array.replicate (fn.ntmps - (cargs.map (AV.conc (envOf ns ν))).toArray.size) undef, defers := [] } w := by
    refine ⟨rfl, by simp; omega, fun s => ?_, hh.enter hns h5, fun n hn => hn.2⟩
    show RV (envOf ns ν) (bd (entry bs cargs).heap) _ ((cargs[s]?).getD .und)
    cases hs : cargs[s]? with
    | none => exact .inl rfl
    | some v =>
      refine .inr ⟨AV.ok_mono (fun n hn => bd_entry.2 hn) (h4 v (List.mem_of_getElem? hs)), ?_⟩
      have hlt : s < cargs.length := (List.getElem?_eq_some_iff.1 hs).1
      rw [Array.getD_eq_getD_getElem?, Array.getElem?_append_left (by simpa using hlt)]
      simp [hs]
  have hpost : ∀ w', Below w.heap.size w w' → ∃ v, Ending.returned (r.conc ν) = .returned v ∧ CallPost h ν w r [] v w' := fun w' hb' =>
    ⟨_, rfl, ν, fun _ _ => rfl, hb', .inr ⟨AV.ok_mono (fun _ h => h.elim) hr, rfl⟩, (fun n blk hn => by cases hn), (fun n n' blk blk' hn => by cases hn)⟩
  rw [hc]
  refine fill_sound (ro := none) hT hE (cok_all P) hm K _ (entry bs cargs) (envOf ns ν) _ w hk1 h7 hR ?_ ?_
  rotate_left
  · intro e st' ν' a' w' hne hq hR'
    rcases hq with ⟨rfl, hq⟩ | ⟨rfl, -⟩
    · show LeavesInM _ _ P fn a'.tmps _ a'.defers .returning w'
      rw [hR'.defers]
      obtain ⟨g1, g2⟩ := resA_sound hT hR' hq
      refine ⟨_, g2, ?_⟩
      rw [plain_eq (ν := ν) hr]
      exact hpost w' hR'.hr.below
    · exact absurd rfl hne
  intro st' ν' a' w' hq hR'
  rcases hq with ⟨hq, -⟩ | ⟨-, ns', s, hren, ⟨rs⟩⟩
  · cases hq
  have hR2 := hR'.rename hren
  refine wpIn_block ?_
  have hfin : ∀ (D : Nat) (tm : Array Value) (ν2 : Env) (st2 : St) (W0 W2 : World) (a2 : Act), w.heap.size ≤ D → D < W0.heap.size → a2.defers = [{ target := .collected D, args := #[] }] → W0.heap[D]? = some (.deferred (some [])) →
      Rel w.heap.size ⟨W0, handed ns'.length, envOf ns' ν', [{ target := .collected D, args := #[] }]⟩ fn.ntmps ν2 st2 a2 W2 → Below w.heap.size w W0 → resA tab st2 fn.results.toList = some r →
      LeavesInM (fen none) 3 P fn a2.tmps (fun e w' => ∃ v, e = .returned v ∧ CallPost h ν w r [] v w') a2.defers .returning W2 := by
    intro D tm ν2 st2 W0 W2 a2 hD hDl hd hk hR3 hbl hres
    have hk2 : W2.heap[D]? = some (.deferred (some [])) := hR3.hr.oth.same D _ hk rfl
    rw [hd]
    refine ⟨by simp, .inl ⟨D, _, rfl, run_takeDeferred hk2, ?_⟩⟩
    have hgr := grownBy_putObj' W2 D (.deferred none)
    have hR4 : Rel w.heap.size ⟨W2.putObj D (.deferred none), handed ns'.length, envOf ns' ν', [{ target := .collected D, args := #[] }]⟩ fn.ntmps ν2 st2 a2 (W2.putObj D (.deferred none)) := by
      refine ⟨hR3.defers, hR3.size, hR3.slots, ?_, hR3.ank⟩
      have h9 := hR3.hr
      have h10 : HRel w.heap.size ⟨W2, handed ns'.length, envOf ns' ν', [{ target := .collected D, args := #[] }]⟩ ν2 st2.heap st2.gen W2 := ⟨h9.heap, h9.inj, Below.refl _ _, h9.anc, h9.base_le, h9.fresh, KeepsOthers.refl _⟩
      exact h10.turn hgr (fun r e => by cases e; exact ⟨hD, _, hk2, rfl⟩)
    obtain ⟨g1, g2⟩ := resA_sound hT hR4 hres
    refine ⟨_, g2, ?_⟩
    rw [plain_eq (ν := ν) hr]
    exact hpost _ (below_turn (hbl.trans hR3.hr.below) hgr (fun r e => by cases e; exact hD) (hR3.hr.base_le))
  have hrel : ∀ (D : Nat) (h' : Nm → Option Blk) (W : World), Family ns'.length rs.ow h' → HRel w.heap.size ⟨W, handed ns'.length, envOf ns' ν', []⟩ (envOf ns' ν') h' rs.G W →
      Rel w.heap.size ⟨W, handed ns'.length, envOf ns' ν', [{ target := .collected D, args := #[] }]⟩ fn.ntmps (envOf ns' ν') { slots := s.slots, heap := h', gen := rs.G, k := ns'.length } { a' with defers := [{ target := .collected D, args := #[] }] } W := by
    intro D h' W hfam hh'
    refine ⟨rfl, hR2.size, fun t => (hR2.slots t).mono (fun n hn => hfam.all n (rs.hs n hn)) (fun _ _ => rfl), ⟨hh'.heap, hh'.inj, hh'.below, hh'.anc, hh'.base_le, hh'.fresh, hh'.oth⟩, fun n hn => hn.2⟩
  refine range_sound hT hE (cok_all P) hm (G := rs.G) (ow := rs.ow) hR2 hk5 hk3 hk4 rs.evg rs.enters (OK := rs.OK (envOf ns' ν')) rs.hit rs.hpl (rs.seq _ _ _ hR2.hr) rs.gd0 rs.fam rs.famx rs.h0 rs.hs (fun pre W => rs.hOK _ _ pre W) (rs.OKt _) rs.hbx rs.gpos rs.hbo rs.hbr rs.hsA rs.hassign rs.hbody ?_ ?_
  · intro D xs W hD hS hGd hH hbl hk
    refine postQ_sound (ro := none) (rm := 3) (base := w.heap.size) hT hE (cok_all P) hm K _ _ _ _ _ _ hk2 (rs.done xs hS hGd) (hrel D (rs.H xs) W (rs.fam xs) hH) ?_
    intro e st2 ν2 a2 W2 hq hR3
    obtain ⟨he, hres⟩ := hq
    have := hfin D #[] ν2 st2 W W2 a2 (Nat.le_trans hR'.hr.base_le hD) (Array.getElem?_eq_some_iff.1 hk).1 hR3.defers hk hR3 (hR'.hr.below.trans hbl) hres
    rcases he with rfl | rfl
    · exact this
    · exact this
  · intro D pre W hD hSp hGx hH hbl hk
    have hR3 := hrel D (rs.Hx pre) W (rs.famx pre) hH
    exact hfin D #[] _ _ W W _ (Nat.le_trans hR'.hr.base_le hD) (Array.getElem?_eq_some_iff.1 hk).1 rfl hk hR3 (hR'.hr.below.trans hbl) (rs.stop pre hSp hGx)
end
end Go.AbsK

set_option linter.unusedVariables false
namespace Go.AbsK
open Go.RowKit

/-- A block that is handed over: the width of its rows, and the rows. -/
def tblk (q : Nat × List (List Cell)) : Blk := ⟨q.2, q.1, 0, false, none⟩
/-- The arguments are those of the template, the blocks too. -/
def tplP (targs : List AV) (tbs : List (Nat × List (List Cell))) (p : Prop) (args : List AV) (bs : List Blk) : Prop := args = targs.map (AV.ren (namesOf args)) ∧ bs.map (fun b => (b.w, b.rows)) = tbs ∧ p
/-- The oracle of a template whose new blocks may name blocks. -/
def tplON (targs : List AV) (tbs : List (Nat × List (List Cell))) (p : Prop) (r0 : AV) (hp : List (Nm × Blk)) : POfn := fun args bs mk =>
  some (tplP targs tbs p args bs, r0.mp (outL (namesOf args) mk 0 (hp.map (·.1))), nbOf mk 0 (hp.map fun q => (q.1, q.2.mp (outL (namesOf args) mk 0 (hp.map (·.1))))))
/-- The oracle of a template: the new blocks hold plain cells. -/
def tplO (targs : List AV) (tbs : List (Nat × List (List Cell))) (p : Prop) (r0 : AV) (hp : List (Nm × Blk)) : POfn := fun args bs mk =>
  some (tplP targs tbs p args bs, r0.mp (outL (namesOf args) mk 0 (hp.map (·.1))), nbOf mk 0 hp)
theorem tplON_plain {targs : List AV} {tbs : List (Nat × List (List Cell))} {p : Prop} {r0 : AV} {hp : List (Nm × Blk)} (h : ∀ q ∈ hp, plainB q.2) : tplON targs tbs p r0 hp = tplO targs tbs p r0 hp := by
  funext args bs mk
  unfold tplON tplO
  rw [map_same (l := hp) (f := fun q => (q.1, q.2.mp (outL (namesOf args) mk 0 (hp.map (·.1))))) (fun q hq => by rw [Blk.mp_plain (h q hq)])]
/-- What the kernel checks of a function. -/
structure FnOK (P : Program) (f : FuncId) (fn : Func) (c : Code) (n : Nat) : Prop where
  func : P.funcs[f]? = some fn
  name : (fn.name == "runtime.NumGoroutine") = false
  body : fn.body = some c
  code : codeOK fn.ntmps c = true
  len : n ≤ fn.ntmps
def hdB (k : Nat) (n : Nm) : Bool := Nat.beq n.2 0 && Nat.blt n.1 k
def okCB (f : Nm → Bool) : Cell → Bool
  | .ptr n _ _ _ => f n
  | .slc n _ _ _ _ => f n
  | _ => true
def okB (f : Nm → Bool) : AV → Bool
  | .und => false
  | .c x => okCB f x
  | .agg l => l.all (okCB f)
  | .fn _ l => l.all (okCB f)
  | .t2 a b => okB f a && okB f b
  | .ext _ => true
theorem okCB_ok {f : Nm → Bool} {c : Cell} (h : okCB f c = true) : c.ok (fun n => f n = true) := by
  cases c <;> first | exact h | trivial
theorem okB_ok {f : Nm → Bool} {v : AV} (h : okB f v = true) : v.ok (fun n => f n = true) := by
  induction v with
  | und => cases h
  | c x => exact okCB_ok h
  | agg l => exact fun c hc => okCB_ok (List.all_eq_true.1 h c hc)
  | fn f l => exact fun c hc => okCB_ok (List.all_eq_true.1 h c hc)
  | t2 a b iha ihb =>
    simp only [okB, Bool.and_eq_true] at h
    exact ⟨iha h.1, ihb h.2⟩
  | ext v => trivial
theorem hdB_spec {k : Nat} {n : Nm} (h : hdB k n = true) : handed k n := by
  unfold hdB at h
  rw [Bool.and_eq_true] at h
  exact ⟨Nat.eq_of_beq_eq_true h.1, Nat.le_of_ble_eq_true h.2⟩
def memB (n : Nm) : List Nm → Bool
  | [] => false
  | m :: l => (Nat.beq n.1 m.1 && Nat.beq n.2 m.2) || memB n l
theorem memB_spec {n : Nm} : ∀ {l : List Nm}, memB n l = true → n ∈ l
  | m :: l, h => by
    unfold memB at h
    rw [Bool.or_eq_true, Bool.and_eq_true] at h
    rcases h with h | h
    · have : n = m := by
        obtain ⟨n1, n2⟩ := n
        obtain ⟨m1, m2⟩ := m
        rw [show n1 = m1 from Nat.eq_of_beq_eq_true h.1, show n2 = m2 from Nat.eq_of_beq_eq_true h.2]
      rw [this]; exact List.mem_cons_self ..
    · exact List.mem_cons_of_mem _ (memB_spec h)
def nodB : List Nm → Bool
  | [] => true
  | m :: l => !(memB m l) && nodB l
theorem memB_of {n : Nm} : ∀ {l : List Nm}, n ∈ l → memB n l = true
  | m :: l, h => by
    unfold memB
    rw [Bool.or_eq_true, Bool.and_eq_true]
    rcases List.mem_cons.1 h with rfl | h
    · exact .inl ⟨Nat.beq_refl _, Nat.beq_refl _⟩
    · exact .inr (memB_of h)
theorem nodB_spec : ∀ {l : List Nm}, nodB l = true → l.Nodup
  | [], _ => List.nodup_nil
  | m :: l, h => by
    unfold nodB at h
    rw [Bool.and_eq_true] at h
    refine List.nodup_cons.2 ⟨fun hm => ?_, nodB_spec h.2⟩
    rw [memB_of hm] at h
    exact absurd h.1 (by simp)
/-- The names and marks of the new blocks. -/
def hpOKB : List (Nm × Blk) → Bool
  | [] => true
  | q :: l => !(Nat.beq q.1.2 0) && q.2.own && hpOKB l
theorem hpOKB_spec : ∀ {l : List (Nm × Blk)}, hpOKB l = true → ∀ q ∈ l, q.1.2 ≠ 0 ∧ q.2.own = true
  | p :: l, h, q, hq => by
    unfold hpOKB at h
    rw [Bool.and_eq_true, Bool.and_eq_true] at h
    rcases List.mem_cons.1 hq with rfl | hq
    · exact ⟨fun e => by rw [e] at h; exact absurd h.1.1 (by decide), h.1.2⟩
    · exact hpOKB_spec h.2 q hq
/-- What is checked by reckoning of a template: k blocks are handed over. -/
def tplB (k : Nat) (targs : List AV) (r0 : AV) (hp : List (Nm × Blk)) : Bool :=
  targs.all (okB (hdB k)) && okB (fun n => hdB k n || memB n (hp.map (·.1))) r0 && nodB (hp.map (·.1)) && hpOKB hp
/-- The rows name nothing. -/
def PlainR (rows : List (List Cell)) : Prop := ∀ r ∈ rows, ∀ c ∈ r, Cell.ok (fun _ => False) c
theorem mp_plainV {r0 : AV} (h : plainV r0) (ρ : Nm → Nm) : r0.mp ρ = r0 := by
  have hl : ∀ l : List Cell, (∀ c ∈ l, c.ok (fun _ => False)) → ∀ ρ, l.map (Cell.mp ρ) = l := by
    intro l hl ρ
    exact map_same (fun c hc => by have := hl c hc; cases c <;> first | rfl | exact this.elim)
  have key : ∀ ρ, ∀ v : AV, plainV v → v.mp ρ = v := by
    intro ρ v
    unfold plainV
    induction v with
    | und => exact fun _ => rfl
    | c x => intro h; cases x <;> first | rfl | exact h.elim
    | agg l => intro h; simp only [AV.mp, hl l h]
    | fn f l => intro h; simp only [AV.mp, hl l h]
    | t2 a b iha ihb => intro h; simp only [AV.mp, iha h.1, ihb h.2]
    | ext v => exact fun _ => rfl
  exact key _ _ h
section
variable {P : Program} {tab : Tab} {EQ : TypeId → Option Shp}
/-- A contract by a template: the function's code, run at the template's arguments, comes to the template's result. -/
theorem fok_tplN (hT : TabOK P tab) (hE : EqOK P EQ) (hm : P.follows .mixedOrders = true) {f : FuncId} {fn : Func} {c : Code} {targs : List AV} {tbs : List (Nat × List (List Cell))} {p : Prop} {r0 : AV} {hp : List (Nm × Blk)} {g : Nat}
    (hf : FnOK P f fn c targs.length) (hok : tplB tbs.length targs r0 hp = true) (htb : ∀ q ∈ tbs, PlainR q.2) (hhp : ∀ q ∈ hp, ∀ r ∈ q.2.rows, ∀ c ∈ r, Cell.ok (fun n => handed tbs.length n ∨ n ∈ hp.map (·.1)) c)
    (h : p → wpC tab EQ (allC P) c (fun e st' => (e = .normal ∨ e = .ret) ∧ ∃ r', resA tab st' fn.results.toList = some r' ∧ Cov (mkS [(0, r0)] (hp ++ (tbs.mapIdx fun i b => ((i, 0), tblk b))) g tbs.length) (resT r' st')) (entry (tbs.map tblk) targs)) : FOK P f (tplON targs tbs p r0 hp) := by
  unfold tplB at hok
  simp only [Bool.and_eq_true] at hok
  obtain ⟨⟨⟨k1, k2⟩, k3⟩, k4⟩ := hok
  refine fok_genN hT hE hm hf.func hf.name hf.body hf.code fun args bs mk p' r nb he hp' => ?_
  unfold tplON at he
  simp only [Option.some.injEq, Prod.mk.injEq] at he
  obtain ⟨rfl, rfl, rfl⟩ := he
  obtain ⟨e1, e2, hpp⟩ := hp'
  have hlen : bs.length = tbs.length := by rw [← e2, List.length_map]
  refine ⟨namesOf args, targs, r0, hp, g, e1, rfl, rfl, rfl, fun q hq => ?_, nodB_spec k3, fun _ => ⟨?_, fun v hv => ?_, fun b hb => ?_, hf.len, ?_⟩⟩
  · obtain ⟨h1, h2⟩ := hpOKB_spec k4 q hq
    rw [hlen]
    exact ⟨h1, h2, hhp q hq⟩
  · rw [hlen]
    refine AV.ok_mono (fun n hn => ?_) (okB_ok k2)
    rw [Bool.or_eq_true] at hn
    exact hn.imp hdB_spec memB_spec
  · rw [hlen]
    exact AV.ok_mono (fun n hn => hdB_spec hn) (okB_ok (List.all_eq_true.1 k1 v hv))
  · have : (b.w, b.rows) ∈ tbs := by rw [← e2]; exact List.mem_map.2 ⟨b, hb, rfl⟩
    exact htb _ this
  · have hent : entry bs targs = entry (tbs.map tblk) targs := by
      unfold entry
      rw [← e2, List.map_map, List.length_map]
      congr 1
      funext n
      split
      · rw [List.getElem?_map]
        cases bs[n.1]? <;> rfl
      · rfl
    have hidx : (bs.mapIdx fun i b => ((i, 0), b.ro)) = (tbs.mapIdx fun i b => (((i, 0) : Nm), tblk b)) := by
      rw [← e2]
      apply List.ext_getElem?
      intro i
      simp only [List.getElem?_mapIdx, List.getElem?_map]
      cases bs[i]? <;> rfl
    rw [hent, hidx, hlen]
    exact h hpp
/-- The same where the new blocks hold plain cells. -/
theorem fok_tpl (hT : TabOK P tab) (hE : EqOK P EQ) (hm : P.follows .mixedOrders = true) {f : FuncId} {fn : Func} {c : Code} {targs : List AV} {tbs : List (Nat × List (List Cell))} {p : Prop} {r0 : AV} {hp : List (Nm × Blk)} {g : Nat}
    (hf : FnOK P f fn c targs.length) (hok : tplB tbs.length targs r0 hp = true) (htb : ∀ q ∈ tbs, PlainR q.2) (hhp : ∀ q ∈ hp, PlainR q.2.rows)
    (h : p → wpC tab EQ (allC P) c (fun e st' => (e = .normal ∨ e = .ret) ∧ ∃ r', resA tab st' fn.results.toList = some r' ∧ Cov (mkS [(0, r0)] (hp ++ (tbs.mapIdx fun i b => ((i, 0), tblk b))) g tbs.length) (resT r' st')) (entry (tbs.map tblk) targs)) : FOK P f (tplO targs tbs p r0 hp) := by
  rw [← tplON_plain (fun q hq => hhp q hq)]
  exact fok_tplN hT hE hm hf hok htb (fun q hq r hr c hc => Cell.ok_mono (fun _ h => h.elim) (hhp q hq r hr c hc)) h
/-- The same where the result is plain. -/
theorem fok_plain (hT : TabOK P tab) (hE : EqOK P EQ) (hm : P.follows .mixedOrders = true) {f : FuncId} {fn : Func} {c : Code} {targs : List AV} {tbs : List (Nat × List (List Cell))} {p : Prop} {r0 : AV}
    (hf : FnOK P f fn c targs.length) (hok : (targs.all (okB (hdB tbs.length)) && plainA r0) = true) (htb : ∀ q ∈ tbs, PlainR q.2)
    (h : p → wpC tab EQ (allC P) c (fun e st' => ∃ ds, finD tab fn r0 e st' ds) (entry (tbs.map tblk) targs)) : FOK P f (tplO targs tbs p r0 []) := by
  rw [Bool.and_eq_true] at hok
  obtain ⟨k1, k2⟩ := hok
  refine fok_read hT hE hm hf.func hf.name hf.body hf.code fun args bs mk p' r nb he hp' => ?_
  unfold tplO at he
  simp only [Option.some.injEq, Prod.mk.injEq] at he
  obtain ⟨rfl, rfl, rfl⟩ := he
  obtain ⟨e1, e2, hpp⟩ := hp'
  have hlen : bs.length = tbs.length := by rw [← e2, List.length_map]
  have hmp : r0.mp (outL (namesOf args) mk 0 (([] : List (Nm × Blk)).map (·.1))) = r0 := mp_plainV (plain_of k2) _
  refine ⟨rfl, by rw [hmp]; exact plain_of k2, namesOf args, targs, e1, rfl, fun _ => ⟨fun v hv => ?_, fun b hb => ?_, hf.len, ?_⟩⟩
  · rw [hlen]
    exact AV.ok_mono (fun n hn => hdB_spec hn) (okB_ok (List.all_eq_true.1 k1 v hv))
  · have : (b.w, b.rows) ∈ tbs := by rw [← e2]; exact List.mem_map.2 ⟨b, hb, rfl⟩
    exact htb _ this
  · have hent : entry bs targs = entry (tbs.map tblk) targs := by
      unfold entry
      rw [← e2, List.map_map, List.length_map]
      congr 1
      funext n
      split
      · rw [List.getElem?_map]
        cases bs[n.1]? <;> rfl
      · rfl
    rw [hent, hmp]
    exact h hpp
end
end Go.AbsK

set_option linter.unusedVariables false
namespace Go.AbsK
open Go.RowKit

structure Cod (α : Type) where
  enc : α → AV
  dec : AV → Option α
  ok : ∀ v x, dec v = some x → v = enc x
  pl : ∀ x, plainA (enc x) = true
def decI (k : IntKind) : AV → Option Int
  | .c (.i k' n) => match decEq k' k with
    | .isTrue _ => some n
    | .isFalse _ => none
  | _ => none
def cI (k : IntKind) : Cod Int where
  enc n := .c (.i k n)
  dec := decI k
  ok v x h := by
    unfold decI at h
    split at h
    · split at h
      · rename_i he _; subst he; injection h with h; subst h; rfl
      · cases h
    · cases h
  pl x := rfl
/-- The cells of a value of one row. -/
def rowOf : AV → List Cell
  | .c x => [x]
  | .agg l => l
  | _ => []
structure Row (α : Type) extends Cod α where
  w : Nat
  rd : List Cell → α
  rd_ok : ∀ x, rd (rowOf (enc x)) = x
  row_len : ∀ x, (rowOf (enc x)).length = w
  row_pl : ∀ x, ∀ c ∈ rowOf (enc x), plainC c = true
  isRow : List Cell → Bool
  isRow_ok : ∀ l, isRow l = true → l = rowOf (enc (rd l))
def rowsOf {α : Type} (A : Row α) (l : List α) : List (List Cell) := l.map fun x => rowOf (A.enc x)
theorem rowsOf_plain {α : Type} (A : Row α) (l : List α) : PlainR (rowsOf A l) := by
  intro r hr c hc
  obtain ⟨x, -, rfl⟩ := List.mem_map.1 hr
  exact plainC_of (A.row_pl x c hc)
/-- The element at a place. -/
def nth {α : Type} [Inhabited α] (l : List α) (i : Int) : α := l.getD i.toNat default
section
variable {α : Type} {A : Row α} {raw raw' : List (List Cell)} {l l' : List α} {i : Int}
theorem rows_len (pf : raw = rowsOf A l) : raw.length = l.length := by rw [pf, rowsOf, List.length_map]
theorem rows_lt (pf : raw = rowsOf A l) (h : 0 ≤ i ∧ i < (l.length : Int)) : 0 + i.toNat < raw.length := by rw [rows_len pf]; omega
theorem rows_nth [Inhabited α] (pf : raw = rowsOf A l) (h : 0 ≤ i ∧ i < (l.length : Int)) : raw[0 + i.toNat]? = some (rowOf (A.enc (nth l i))) := by
  have hl : i.toNat < l.length := by omega
  rw [pf, Nat.zero_add, rowsOf, List.getElem?_map, List.getElem?_eq_getElem hl, nth, List.getD_eq_getElem?_getD, List.getElem?_eq_getElem hl]
  rfl
theorem rows_lt2 {o : Nat} (pf : raw = rowsOf A l) (h : o + i.toNat < l.length) : o + i.toNat < raw.length := by rw [rows_len pf]; exact h
theorem rows_nth2 [Inhabited α] {o : Nat} (pf : raw = rowsOf A l) (h0 : 0 ≤ i) (h : o + i.toNat < l.length) : raw[o + i.toNat]? = some (rowOf (A.enc (nth l ((o : Int) + i)))) := by
  have e : ((o : Int) + i).toNat = o + i.toNat := by omega
  rw [pf, rowsOf, List.getElem?_map, List.getElem?_eq_getElem h, nth, e, List.getD_eq_getElem?_getD, List.getElem?_eq_getElem h]
  rfl
theorem rows_set (pf : raw = rowsOf A l) {r : List Cell} {v : α} (hr : r = rowOf (A.enc v)) : raw.set (0 + i.toNat) r = rowsOf A (l.set i.toNat v) := by
  rw [pf, Nat.zero_add, hr, rowsOf, rowsOf, List.map_set]
theorem rows_rep {n : Nat} {r : List Cell} {v : α} (hr : r = rowOf (A.enc v)) : List.replicate n r = rowsOf A (List.replicate n v) := by rw [hr, rowsOf, List.map_replicate]
theorem rows_take (pf : raw = rowsOf A l) : raw.take l.length = rowsOf A l := by rw [pf, ← rows_len (A := A) (l := l) rfl, List.take_length]
theorem rows_le (pf : raw = rowsOf A l) : l.length ≤ raw.length := by rw [rows_len pf]; exact Nat.le_refl _
theorem rows_okAll (pf : raw = rowsOf A l) (D : Nm → Prop) : ∀ q ∈ raw, ∀ c ∈ q, Cell.ok D c := by
  rw [pf]; exact fun q hq c hc => Cell.ok_mono (fun _ h => h.elim) (rowsOf_plain A l q hq c hc)
theorem HG_rows {ρ : Rn} {n m : Nm} {w ty : Nat} {own : Bool} {cap : Option Nat} (hn : ρ n = some m) (pf : raw' = rowsOf A l) : HG ρ n ⟨rowsOf A l, w, ty, own, cap⟩ (some ⟨raw', w, ty, own, cap⟩) := by
  unfold HG
  rw [hn]
  have hpl := rowsOf_plain A l
  have h1 : (rowsOf A l).map (List.map (Cell.gh ρ)) = rowsOf A l := map_same (fun r hr => map_same (fun c hc => by
    have := hpl r hr c hc
    cases c <;> first | rfl | exact this.elim))
  refine ⟨?_, fun r hr c hc => ?_⟩
  · unfold Blk.gh
    simp only [h1, pf]
  · have := hpl r hr c hc
    cases c <;> first | trivial | exact this.elim
theorem HG_nil {ρ : Rn} {n : Nm} {w ty : Nat} {own : Bool} {tb : Option Blk} {rows : List (List Cell)} (hn : ρ n = none) (hr : rows = []) : HG ρ n ⟨rows, w, ty, own, none⟩ tb := by
  unfold HG
  rw [hn]
  exact ⟨hr, rfl⟩
theorem HG_lit {ρ : Rn} {n m : Nm} {b : Blk} {tb : Blk} (hn : ρ n = some m) (h1 : tb = b.gh ρ) (h2 : ∀ r ∈ b.rows, ghOKs ρ r) : HG ρ n b (some tb) := by
  unfold HG
  rw [hn]
  exact ⟨by rw [h1], fun r hr => ghOKs_mem (h2 r hr)⟩
end
end Go.AbsK

set_option linter.unusedVariables false
namespace Go.AbsK
open Go.RowKit

/-- The run has come to the end of a round; to the loop's exit; to a return: and the state that is written out is true. -/
def leN (sl : List (Nat × AV)) (hp : List (Nm × Blk)) (g k : Nat) : Exit → St → List Dec → Prop := fun e st' _ => match e with
  | .normal => LeL sl hp g k st'
  | _ => False
def leX (id : Nat) (sl : List (Nat × AV)) (hp : List (Nm × Blk)) (g k : Nat) : Exit → St → List Dec → Prop := fun e st' _ => match e with
  | .exit i => chk (i == id) (LeL sl hp g k st')
  | _ => False
def leR (sl : List (Nat × AV)) (hp : List (Nm × Blk)) (g k : Nat) : Exit → St → List Dec → Prop := fun e st' _ => match e with
  | .ret => LeL sl hp g k st'
  | _ => False
section
variable {tab : Tab} {EQ : TypeId → Option Shp} {P : Program} {x : Code} {s : St} {sl : List (Nat × AV)} {hp : List (Nm × Blk)} {g k : Nat} {ds : List Dec} {B : Prop}
theorem stepN (h : wpD tab EQ P x (leN sl hp g k) s ds = B) (hB : B) : wpC tab EQ (allC P) x (fun e2 st' => e2 = .normal ∧ Cov (mkS sl hp g k) st') s :=
  wpC_mono x _ _ _ (fun e st' ⟨ds', h'⟩ => by
    unfold leN at h'
    split at h'
    · exact ⟨rfl, (leL_le h').cov⟩
    · exact h'.elim) (of_run h hB)
theorem stepX {id : Nat} (h : wpD tab EQ P x (leX id sl hp g k) s ds = B) (hB : B) : wpC tab EQ (allC P) x (fun e2 st' => e2 = .exit id ∧ Cov (mkS sl hp g k) st') s :=
  wpC_mono x _ _ _ (fun e st' ⟨ds', h'⟩ => by
    unfold leX at h'
    split at h'
    · obtain ⟨h1, h2⟩ := chk_spec h'
      exact ⟨by rw [beq_iff_eq.1 h1], (leL_le h2).cov⟩
    · exact h'.elim) (of_run h hB)
theorem stepR (h : wpD tab EQ P x (leR sl hp g k) s ds = B) (hB : B) : wpC tab EQ (allC P) x (fun e2 st' => e2 = .ret ∧ Cov (mkS sl hp g k) st') s :=
  wpC_mono x _ _ _ (fun e st' ⟨ds', h'⟩ => by
    unfold leR at h'
    split at h'
    · exact ⟨rfl, (leL_le h').cov⟩
    · exact h'.elim) (of_run h hB)
/-- What is written out names no block that it does not know. -/
def slOK (D : Nm → Prop) : List (Nat × AV) → Prop
  | [] => True
  | (_, v) :: r => v.ok D ∧ slOK D r
def hpOK (D : Nm → Prop) (g : Nat) : List (Nm × Blk) → Prop
  | [] => True
  | (n, b) :: r => ((∀ q ∈ b.rows, ∀ c ∈ q, Cell.ok D c) ∧ n.2 ≤ g) ∧ hpOK D g r
theorem closL_of (h1 : slOK (bd (updH none1 hp)) sl) (h2 : hpOK (bd (updH none1 hp)) g hp) : closL sl hp g k := by
  refine ⟨fun j => ?_, fun n b r hn hr c hc => ?_, fun d g' hg => ?_⟩
  · show lk sl j = .und ∨ (lk sl j).ok (bd (updH none1 hp))
    generalize bd (updH none1 hp) = D at h1
    clear h2
    induction sl with
    | nil => exact .inl rfl
    | cons p r ih =>
      obtain ⟨s', v⟩ := p
      unfold lk
      split
      · exact .inr h1.1
      · exact ih h1.2
  · replace hn : updH none1 hp n = some b := hn
    show c.ok (bd (updH none1 hp))
    have key : ∀ (D : Nm → Prop) (l : List (Nm × Blk)), hpOK D g l → updH none1 l n = some b → c.ok D := by
      intro D l
      induction l with
      | nil => intro _ h; cases h
      | cons p r' ih =>
        obtain ⟨m, b'⟩ := p
        intro hk h
        replace h : (if n = m then some b' else updH none1 r' n) = some b := h
        split at h
        · injection h with h; subst h; exact hk.1.1 r hr c hc
        · exact ih hk.2 h
    exact key _ hp h2 hn
  · show updH none1 hp (d, g') = none
    have key : ∀ (D : Nm → Prop) (l : List (Nm × Blk)), hpOK D g l → updH none1 l (d, g') = none := by
      intro D l
      induction l with
      | nil => intro _; rfl
      | cons p r' ih =>
        obtain ⟨m, b'⟩ := p
        intro hk
        show (if (d, g') = m then some b' else updH none1 r' (d, g')) = none
        rw [if_neg (fun e => by have := hk.1.2; rw [← e] at this; simp only at this hg; exact absurd hg (by show ¬ g < g'; omega))]
        exact ih hk.2
    exact key _ hp h2
end

def bdB (hp : List (Nm × Blk)) (n : Nm) : Bool := (updH none1 hp n).isSome
def slB (f : Nm → Bool) : List (Nat × AV) → Bool
  | [] => true
  | (_, v) :: r => okB f v && slB f r
theorem slB_ok {f : Nm → Bool} : ∀ {sl : List (Nat × AV)}, slB f sl = true → slOK (fun n => f n = true) sl
  | [], _ => trivial
  | (s, v) :: r, h => by
    simp only [slB, Bool.and_eq_true] at h
    exact ⟨okB_ok h.1, slB_ok h.2⟩
def rdI (k : IntKind) : List Cell → Int
  | [.i _ n] => n
  | _ => 0
def isI (k : IntKind) : List Cell → Bool
  | [.i k' _] => match decEq k' k with
    | .isTrue _ => true
    | .isFalse _ => false
  | _ => false
/-- The rows of a slice of integers. -/
def rI (k : IntKind) : Row Int where
  toCod := cI k
  w := 1
  rd := rdI k
  rd_ok x := rfl
  row_len x := rfl
  row_pl x := by
    intro c hc
    have h : plainL (rowOf ((cI k).enc x)) = true := rfl
    exact List.all_eq_true.1 h c hc
  isRow := isI k
  isRow_ok l h := by
    unfold isI at h
    split at h
    · split at h
      · rename_i he _; subst he; rfl
      · cases h
    · cases h
/-- Where the rows of a block are written out. -/
theorem rows_lit {f : Nm → Bool} {rows : List (List Cell)} (h : rows.all (fun q => q.all (okCB f)) = true) : ∀ q ∈ rows, ∀ c ∈ q, Cell.ok (fun n => f n = true) c :=
  fun q hq c hc => okCB_ok (List.all_eq_true.1 (List.all_eq_true.1 h q hq) c hc)
section
variable {P : Program} {tab : Tab} {EQ : TypeId → Option Shp} {x : Code} {s : St} {rl : List (Nm × Option Nm)} {sl : List (Nat × AV)} {hp : List (Nm × Blk)} {g k : Nat} {ds : List Dec} {B : Prop}
end

def loopsOf : Code → List Code
  | .seq x y => loopsOf x ++ loopsOf y
  | .cond _ x y => loopsOf x ++ loopsOf y
  | .block _ x => loopsOf x
  | .loop x => x :: loopsOf x
  | .scope x => loopsOf x
  | .rangeFunc _ _ x y => loopsOf x ++ loopsOf y
  | _ => []
def loopAt (fn : Func) (i : Nat) : Code := (loopsOf (fn.body.getD .skip)).getD i .skip
end Go.AbsK

set_option linter.unusedVariables false
namespace Go.AbsK
open Go.RowKit

/-- Blocks that are handed over, by their places. -/
def hl (l : List Blk) : Nm → Option Blk := fun n => match n.2 with
  | 0 => l[n.1]?
  | _ => none
def mkR (sl : List (Nat × AV)) (hp : List Blk) : St := { slots := lk sl, heap := hl hp, gen := 0, k := hp.length }
def Blk.renB (ns : List Nm) : Blk × Bool → Blk
  | (b, true) => { b with rows := b.rows.map (List.map (Cell.ren ns)) }
  | (b, false) => b
/-- What is read off a run that stands ahead of the loop. -/
def finR (ns : List Nm) (sl : List (Nat × AV)) (hp : List (Blk × Bool)) : Exit → St → List Dec → Prop := fun e st _ => match e with
  | .normal => sl.map (fun q => st.slots q.1) = sl.map (fun q => q.2.ren ns) ∧ ns.map st.heap = hp.map (fun b => some (Blk.renB ns b))
  | _ => False
theorem lk_mem : ∀ {sl : List (Nat × AV)} {k : Nat}, lk sl k = .und ∨ (k, lk sl k) ∈ sl
  | [], _ => .inl rfl
  | (s, v) :: r, k => by
    unfold lk
    by_cases h : k = s
    · rw [if_pos h, h]; exact .inr (List.mem_cons_self ..)
    · rw [if_neg h]
      exact (lk_mem (sl := r) (k := k)).imp id (fun h => List.mem_cons_of_mem _ h)
theorem map_eq_mem {α β : Type} {f g : α → β} : ∀ {l : List α}, l.map f = l.map g → ∀ x ∈ l, f x = g x
  | a :: l, h, x, hx => by
    simp only [List.map_cons, List.cons.injEq] at h
    rcases List.mem_cons.1 hx with rfl | hx
    · exact h.1
    · exact map_eq_mem h.2 x hx
theorem hl_some {l : List Blk} {n : Nm} {b : Blk} (h : hl l n = some b) : n.2 = 0 ∧ l[n.1]? = some b := by
  obtain ⟨a, g⟩ := n
  cases g with
  | zero => exact ⟨rfl, h⟩
  | succ g => cases h
theorem hl_handed {l : List Blk} {n : Nm} : bd (hl l) n ↔ handed l.length n := by
  obtain ⟨a, g⟩ := n
  unfold bd hl handed
  cases g with
  | zero =>
    simp only [true_and]
    rw [Option.isSome_iff_ne_none, ne_eq, List.getElem?_eq_none_iff]
    omega
  | succ g => simp
theorem renamed_of {ns : List Nm} {sl : List (Nat × AV)} {hp : List (Blk × Bool)} {e : Exit} {st : St} {ds : List Dec} (h : finR ns sl hp e st ds) (hn : nodB ns = true) (hs : sl.all (fun q => okB (hdB ns.length) q.2) = true)
    (hr : (hp.all fun b => !b.2 || b.1.rows.all (·.all (okCB (hdB ns.length)))) = true) (hpl : ∀ b ∈ hp, b.2 = false → PlainR b.1.rows) : e = .normal ∧ Renamed ns (mkR sl (hp.map (·.1))) st ∧ hp.length = ns.length := by
  unfold finR at h
  split at h
  · obtain ⟨h1, h2⟩ := h
    have hlen : ns.length = hp.length := by simpa using congrArg List.length h2
    have hbd : ∀ n, bd (mkR sl (hp.map (·.1))).heap n ↔ handed ns.length n := by
      intro n
      show bd (hl (hp.map (·.1))) n ↔ _
      rw [hl_handed, List.length_map, hlen]
    refine ⟨rfl, ⟨fun k => ?_, fun n blk hn' => ?_, fun i j hi hj hij he => ?_, fun n hn' => (hbd n).2 hn', by show (hp.map (·.1)).length = _; rw [List.length_map, hlen]⟩, hlen.symm⟩
    · rcases lk_mem (sl := sl) (k := k) with hk | hk
      · exact .inl hk
      · refine .inr ⟨?_, ?_⟩
        · exact AV.ok_mono (fun n hn' => (hbd n).2 (hdB_spec hn')) (okB_ok (List.all_eq_true.1 hs _ hk))
        · exact (map_eq_mem h1 _ hk).symm
    · obtain ⟨g1, g2⟩ := hl_some (show hl (hp.map (·.1)) n = some blk from hn')
      rw [List.getElem?_map] at g2
      obtain ⟨q, hq, rfl⟩ := Option.map_eq_some_iff.1 g2
      have hlt : n.1 < hp.length := (List.getElem?_eq_some_iff.1 hq).1
      have hq' := List.mem_of_getElem? hq
      have hrow : ∀ r ∈ q.1.rows, ∀ c ∈ r, Cell.ok (bd (mkR sl (hp.map (·.1))).heap) c := by
        intro r hr' c hc
        cases hb : q.2 with
        | false => exact Cell.ok_mono (fun _ h => h.elim) (hpl q hq' hb r hr' c hc)
        | true =>
          have := List.all_eq_true.1 hr q hq'
          rw [hb] at this
          simp only [Bool.not_true, Bool.false_or] at this
          exact Cell.ok_mono (fun n hn' => (hbd n).2 (hdB_spec hn')) (okCB_ok (List.all_eq_true.1 (List.all_eq_true.1 this r hr') c hc))
      have hget : st.heap (ns.getD n.1 (0, 0)) = some (Blk.renB ns q) := by
        have := congrArg (fun l => l[n.1]?) h2
        simp only [List.getElem?_map, hq, Option.map_some] at this
        have hlt' : n.1 < ns.length := by omega
        rw [List.getElem?_eq_getElem hlt'] at this
        simp only [Option.map_some, Option.some.injEq] at this
        rw [List.getD_eq_getElem?_getD, List.getElem?_eq_getElem hlt']
        exact this
      obtain ⟨b, t⟩ := q
      cases t with
      | true => exact ⟨g1, by omega, hrow, _, hget, rfl, rfl, rfl, rfl, rfl⟩
      | false =>
        refine ⟨g1, by omega, hrow, _, hget, rfl, rfl, rfl, rfl, ?_⟩
        exact map_same (fun r hr' => map_same (fun c hc => Cell.ren_plain (hpl _ hq' rfl r hr' c hc)))
    · have hnd := nodB_spec hn
      rw [List.getD_eq_getElem?_getD, List.getD_eq_getElem?_getD, List.getElem?_eq_getElem hi, List.getElem?_eq_getElem hj] at he
      have hpw := List.pairwise_iff_getElem.1 hnd
      simp only [Option.getD_some] at he
      rcases Nat.lt_or_gt_of_ne hij with hlt | hlt
      · exact hpw i j hi hj hlt he
      · exact hpw j i hj hi hlt he.symm
  · exact h.elim
/-- The blocks that are handed over, as a run leaves them. -/
def heapR (l : List Blk) (st : St) : Prop := (List.range l.length).map (fun j => st.heap (j, 0)) = l.map some
theorem heapR_spec {l : List Blk} {st : St} (h : heapR l st) {n : Nm} {b : Blk} (hb : hl l n = some b) : st.heap n = some b := by
  obtain ⟨g1, g2⟩ := hl_some hb
  obtain ⟨a, g⟩ := n
  simp only at g1 g2
  subst g1
  have hlt : a < l.length := (List.getElem?_eq_some_iff.1 g2).1
  have := congrArg (fun m => m[a]?) h
  simp only [List.getElem?_map, List.getElem?_range hlt, g2, Option.map_some, Option.some.injEq] at this
  exact this
theorem slotsL_spec : ∀ {sl : List (Nat × AV)} {st : St}, slotsL sl st → ∀ t, lk sl t = .und ∨ lk sl t = st.slots t
  | [], _, _, _ => .inl rfl
  | (s, v) :: r, st, h, t => by
    unfold lk
    by_cases ht : t = s
    · rw [if_pos ht, ht]; exact .inr h.1.symm
    · rw [if_neg ht]; exact slotsL_spec h.2 t
theorem lk_ok {D : Nm → Prop} {f : Nm → Bool} (hf : ∀ n, f n = true → D n) {sl : List (Nat × AV)} (h : sl.all (fun q => okB f q.2) = true) (t : Nat) : lk sl t = .und ∨ (lk sl t).ok D :=
  (lk_mem (sl := sl) (k := t)).imp id fun hm => AV.ok_mono hf (okB_ok (List.all_eq_true.1 h _ hm))
/-- What a round's body is to leave. -/
def finB (l lx : List Blk) (p px : Prop) : Exit → St → List Dec → Prop := fun e st _ => match e with
  | .normal => p ∧ heapR l st
  | .ret => px ∧ heapR lx st
  | _ => False
/-- What the assignment is to leave. -/
def finS (sl : List (Nat × AV)) (l : List Blk) (bx : Nm) (bb : Blk) : Exit → St → List Dec → Prop := fun e st _ => match e with
  | .normal => slotsL sl st ∧ heapR l st ∧ st.heap bx = some bb
  | _ => False
def stR (sl : List (Nat × AV)) (l : List Blk) (g : Nat) : St := { slots := lk sl, heap := hl l, gen := g, k := l.length }
def stA (sl : List (Nat × AV)) (p : Tmp) (v : AV) (l : List Blk) (g : Nat) : St := { slots := fun t => if t = p then v else lk sl t, heap := hl l, gen := g, k := l.length }
def stB (sl : List (Nat × AV)) (l : List Blk) (bx : Nm) (bb : Blk) (g : Nat) : St := { slots := lk sl, heap := updH (hl l) [(bx, bb)], gen := g, k := l.length }
section
variable {P : Program} {tab : Tab} {EQ : TypeId → Option Shp}
/-- What a range over a function asks for, with the states written out. -/
theorem rangeSpec_of {fn : Func} {K : Ctx} {g : Operand} {p : Tmp} {assign body : Code} {r : AV} {sl : List (Nat × AV)} {hp : List Blk} {hf hx : List Nat → List Blk} {Gd Gx : List Nat → Prop} {ow : List Bool}
    {gf : Nat} {caps : List Cell} {it : Nat → List Cell} {enc : Nat → Value} {OK : Env → World → Prop} {S Sp : List Nat → Prop} {M : Nat} {sA : Nat → List (Nat × AV)} {bx : Nm} {bb : Nat → Blk}
    (evg : (mkR sl hp).ev g = .fn gf caps) (enters : ∀ args w, (callFunc gf args).run P w = .ok (.enter gf args) w)
    (hit : ∀ i ν, enc i = .agg (concs ν (it i))) (hpl : ∀ i, ∀ c ∈ it i, Cell.ok (fun _ => False) c)
    (OKt : ∀ νa W l o o', OK νa W → W.heap[l]? = some o → o.isCells = false → OK νa (W.putObj l o'))
    (seq : ∀ base (νa : Env) W, HRel base ⟨W, handed hp.length, νa, []⟩ νa (hl hp) 0 W → SeqStopsK Fence.wide 2 P gf (concs νa caps) (fun i => #[enc i]) (fun A B => OK νa A → OK νa B) S Sp M W)
    (gd0 : Gd []) (how : ∀ pre, (hf pre).map (·.own) = ow) (howx : ∀ pre, (hx pre).map (·.own) = ow) (hlen : ow.length = hp.length)
    (hrow : ∀ pre, ∀ b ∈ hf pre, ∀ r ∈ b.rows, ∀ c ∈ r, Cell.ok (handed hp.length) c) (hrowx : ∀ pre, ∀ b ∈ hx pre, ∀ r ∈ b.rows, ∀ c ∈ r, Cell.ok (handed hp.length) c)
    (h0 : hf [] = hp) (hOK : ∀ base (νa : Env) pre W, HRel base ⟨W, handed hp.length, νa, []⟩ νa (hl (hf pre)) 1 W → OK νa W)
    (hbx : bx.2 = 1) (hbo : ∀ i, (bb i).own = true) (hbr : ∀ i, ∀ r ∈ (bb i).rows, ∀ c ∈ r, Cell.ok (fun _ => False) c)
    (hsA : ∀ i, (sA i).all (fun q => okB (fun n => hdB hp.length n || memB n [bx]) q.2) = true)
    (hassign : ∀ pre i, wpC tab EQ (allC P) assign (fun e st' => ∃ ds, finS (sA i) (hf pre) bx (bb i) e st' ds) (stA sl p (.agg (it i)) (hf pre) 1))
    (hbody : ∀ pre i, Gd pre → pre.length < M → wpC tab EQ (allC P) body (fun e st' => ∃ ds, finB (hf (pre ++ [i])) (hx (pre ++ [i])) (Gd (pre ++ [i])) (Gx (pre ++ [i])) e st' ds) (stB (sA i) (hf pre) bx (bb i) 2))
    (done : ∀ xs, S xs → Gd xs → wpC tab EQ (allC P) K.post (fun e st' => ∃ ds, finD tab fn r e st' ds) (stR sl (hf xs) 1))
    (stop : ∀ pre, Sp pre → Gx pre → resA tab (stR sl (hx pre) 1) fn.results.toList = some r) :
    Nonempty (RangeSpec P tab EQ fn K g p assign body hp.length (mkR sl hp) r) := by
  have hln : ∀ pre, (hf pre).length = hp.length := fun pre => by rw [← hlen, ← how pre, List.length_map]
  have hlnx : ∀ pre, (hx pre).length = hp.length := fun pre => by rw [← hlen, ← howx pre, List.length_map]
  have fam : ∀ (h : List Blk), h.map (·.own) = ow → (∀ b ∈ h, ∀ r ∈ b.rows, ∀ c ∈ r, Cell.ok (handed hp.length) c) → Family hp.length (fun n => (ow[n.1]?).getD false) (hl h) := by
    intro h e hr
    have hl' : h.length = hp.length := by rw [← hlen, ← e, List.length_map]
    refine ⟨fun n b hb => ?_, fun n b r hb hrr c hc => ?_, fun n hn => ?_⟩
    · obtain ⟨g1, g2⟩ := hl_some hb
      refine ⟨⟨g1, by rw [← hl']; exact (List.getElem?_eq_some_iff.1 g2).1⟩, ?_⟩
      show b.own = (ow[n.1]?).getD false
      rw [← e, List.getElem?_map, g2]
      rfl
    · exact hr b (List.mem_of_getElem? (hl_some hb).2) r hrr c hc
    · exact hl_handed.2 (by rw [hl']; exact hn)
  refine ⟨⟨_, Gd, Gx, gd0, fun pre => hl (hf pre), fun pre => hl (hx pre), 1, by omega, gf, caps, evg, enters, it, enc, hit, hpl, OK, OKt, S, Sp, M, seq, fun pre => fam _ (how pre) (hrow pre), fun pre => fam _ (howx pre) (hrowx pre),
    fun n b hn => (by rw [h0] at hn; exact hn), fun n hn => hl_handed.1 hn, hOK, fun i => lk (sA i), bx, bb, hbx, hbo, hbr, fun i t => ?_, fun pre i => ?_, fun pre i hg hm => ?_, fun xs hs hg => ?_, fun pre hs hg => ?_⟩⟩
  · refine lk_ok (fun n hn => ?_) (hsA i) t
    rw [Bool.or_eq_true] at hn
    exact hn.imp hdB_spec (fun h => by simpa using memB_spec h)
  · have := hassign pre i
    unfold stA at this
    rw [hln] at this
    refine wpC_mono _ _ _ _ (fun e st' h => ?_) this
    obtain ⟨ds, h⟩ := h
    unfold finS at h
    split at h
    · exact ⟨rfl, slotsL_spec h.1, fun n b hb => heapR_spec h.2.1 hb, h.2.2⟩
    · exact h.elim
  · have := hbody pre i hg hm
    unfold stB at this
    rw [hln] at this
    refine wpC_mono _ _ _ _ (fun e st' h => ?_) this
    obtain ⟨ds, h⟩ := h
    unfold finB at h
    split at h
    · exact ⟨h.1, fun n b hb => heapR_spec h.2 hb⟩
    · exact ⟨h.1, fun n b hb => heapR_spec h.2 hb⟩
    · cases e <;> first | exact h.elim | contradiction
  · have := done xs hs hg
    unfold stR at this
    rw [hln] at this
    refine wpC_mono _ _ _ _ (fun e st' h => ?_) this
    obtain ⟨ds, h⟩ := h
    unfold finD at h
    split at h
    · exact ⟨.inl rfl, h⟩
    · exact ⟨.inr rfl, h⟩
    · exact h.elim
  · have := stop pre hs hg
    unfold stR at this
    rw [hlnx] at this
    exact this
/-- A contract by a template of a function whose code ranges over a function. -/
theorem fok_rangedT (hT : TabOK P tab) (hE : EqOK P EQ) (hm : P.follows .mixedOrders = true) {f : FuncId} {fn : Func} {c : Code} {targs : List AV} {tbs : List (Nat × List (List Cell))} {p : Prop} {r0 : AV}
    {K : Ctx} {blk : Nat} {g : Operand} {pt : Tmp} {assign body : Code} (hf : FnOK P f fn c targs.length) (hc : c = K.fill (.block blk (.rangeFunc g #[pt] assign body)))
    (hcode : (codeOK fn.ntmps K.pre && codeOK fn.ntmps K.post && codeOK fn.ntmps assign && codeOK fn.ntmps body && decide (pt < fn.ntmps)) = true) (hok : (targs.all (okB (hdB tbs.length)) && plainA r0) = true) (htb : ∀ q ∈ tbs, PlainR q.2)
    (h : p → wpC tab EQ (allC P) K.pre (fun e st' => (e = .ret ∧ resA tab st' fn.results.toList = some r0) ∨ (e = .normal ∧ ∃ ns' s, Renamed ns' s st' ∧ Nonempty (RangeSpec P tab EQ fn K g pt assign body ns'.length s r0))) (entry (tbs.map tblk) targs)) : FOK P f (tplO targs tbs p r0 []) := by
  rw [Bool.and_eq_true] at hok
  obtain ⟨k1, k2⟩ := hok
  refine fok_ranged hT hE hm hf.func hf.name hf.body hc hcode fun args bs mk p' r nb he hp' => ?_
  unfold tplO at he
  simp only [Option.some.injEq, Prod.mk.injEq] at he
  obtain ⟨rfl, rfl, rfl⟩ := he
  obtain ⟨e1, e2, hpp⟩ := hp'
  have hlen : bs.length = tbs.length := by rw [← e2, List.length_map]
  have hmp : r0.mp (outL (namesOf args) mk 0 (([] : List (Nm × Blk)).map (·.1))) = r0 := mp_plainV (plain_of k2) _
  refine ⟨rfl, by rw [hmp]; exact plain_of k2, namesOf args, targs, e1, rfl, fun _ => ⟨fun v hv => ?_, fun b hb => ?_, hf.len, ?_⟩⟩
  · rw [hlen]
    exact AV.ok_mono (fun n hn => hdB_spec hn) (okB_ok (List.all_eq_true.1 k1 v hv))
  · have : (b.w, b.rows) ∈ tbs := by rw [← e2]; exact List.mem_map.2 ⟨b, hb, rfl⟩
    exact htb _ this
  · have hent : entry bs targs = entry (tbs.map tblk) targs := by
      unfold entry
      rw [← e2, List.map_map, List.length_map]
      congr 1
      funext n
      split
      · rw [List.getElem?_map]
        cases bs[n.1]? <;> rfl
      · rfl
    rw [hent, hmp]
    exact h hpp
end

def rfG : Code → Operand
  | .block _ (.rangeFunc g _ _ _) => g
  | _ => .tmp 0
def rfA : Code → Code
  | .block _ (.rangeFunc _ _ x _) => x
  | _ => .skip
def rfB : Code → Code
  | .block _ (.rangeFunc _ _ _ y) => y
  | _ => .skip
def finP (tab : Tab) (fn : Func) (r : AV) : Exit → St → List Dec → Prop := fun e st' _ => match e with
  | .ret => resA tab st' fn.results.toList = some r
  | _ => False
section
variable {P : Program} {tab : Tab} {EQ : TypeId → Option Shp} {fn : Func} {K : Ctx} {g : Operand} {pt : Tmp} {assign body : Code} {r0 : AV}
theorem of_preR {st : St} {ds : List Dec} {B : Prop} (h : wpD tab EQ P K.pre (finP tab fn r0) st ds = B) (hB : B) :
    wpC tab EQ (allC P) K.pre (fun e st' => (e = .ret ∧ resA tab st' fn.results.toList = some r0) ∨ (e = .normal ∧ ∃ ns' s, Renamed ns' s st' ∧ Nonempty (RangeSpec P tab EQ fn K g pt assign body ns'.length s r0))) st := by
  refine wpC_mono _ _ _ _ (fun e st' h' => ?_) (of_run h hB)
  obtain ⟨ds', h'⟩ := h'
  unfold finP at h'
  split at h'
  · exact .inl ⟨rfl, h'⟩
  · exact h'.elim
theorem of_pre {ns : List Nm} {sl : List (Nat × AV)} {hp : List (Blk × Bool)} {hp' : List Blk} {st : St} {ds : List Dec} {B : Prop} (h : wpD tab EQ P K.pre (finR ns sl hp) st ds = B) (hB : B)
    (h1 : nodB ns = true) (h2 : sl.all (fun q => okB (hdB ns.length) q.2) = true) (h3 : (hp.all fun b => !b.2 || b.1.rows.all (·.all (okCB (hdB ns.length)))) = true) (h4 : ∀ b ∈ hp, b.2 = false → PlainR b.1.rows)
    (h5 : hp.map (·.1) = hp') (hs : Nonempty (RangeSpec P tab EQ fn K g pt assign body hp'.length (mkR sl hp') r0)) :
    wpC tab EQ (allC P) K.pre (fun e st' => (e = .ret ∧ resA tab st' fn.results.toList = some r0) ∨ (e = .normal ∧ ∃ ns' s, Renamed ns' s st' ∧ Nonempty (RangeSpec P tab EQ fn K g pt assign body ns'.length s r0))) st := by
  refine wpC_mono _ _ _ _ (fun e st' h' => ?_) (of_run h hB)
  obtain ⟨ds', h'⟩ := h'
  obtain ⟨rfl, g1, g2⟩ := renamed_of h' h1 h2 h3 h4
  subst h5
  refine .inr ⟨rfl, ns, _, g1, ?_⟩
  rw [List.length_map, g2] at hs
  exact hs
theorem body_w {l lx l' lx' : List Blk} {p px p' px' : Prop} {c : Code} {st : St} (h : wpC tab EQ (allC P) c (fun e st' => ∃ ds, finB l lx p px e st' ds) st)
    (h1 : ∀ {st'}, p ∧ heapR l st' → p' ∧ heapR l' st') (h2 : ∀ {st'}, px ∧ heapR lx st' → px' ∧ heapR lx' st') : wpC tab EQ (allC P) c (fun e st' => ∃ ds, finB l' lx' p' px' e st' ds) st := by
  refine wpC_mono _ _ _ _ (fun e st' h' => ?_) h
  obtain ⟨ds', h'⟩ := h'
  refine ⟨ds', ?_⟩
  unfold finB at h' ⊢
  split at h'
  · exact h1 h'
  · exact h2 h'
  · exact h'.elim
end
theorem lit_ok {rows : List (List Cell)} {k : Nat} (h : rows.all (·.all (okCB (hdB k))) = true) : ∀ r ∈ rows, ∀ c ∈ r, Cell.ok (handed k) c := fun r hr c hc =>
  Cell.ok_mono (fun n hn => hdB_spec hn) (okCB_ok (List.all_eq_true.1 (List.all_eq_true.1 h r hr) c hc))
theorem fold_mod {σ : Type} {f : Nat → σ → σ} {n : Nat} {a : σ} : (List.range n).foldl (fun s i => f (i % n) s) a = (List.range n).foldl (fun s i => f i s) a := by
  have : ∀ (l : List Nat) (a : σ), (∀ i ∈ l, i < n) → l.foldl (fun s i => f (i % n) s) a = l.foldl (fun s i => f i s) a := by
    intro l
    induction l with
    | nil => intro a _; rfl
    | cons x l ih =>
      intro a h
      simp only [List.foldl_cons]
      rw [Nat.mod_eq_of_lt (h x (List.mem_cons_self ..))]
      exact ih _ (fun i hi => h i (List.mem_cons_of_mem _ hi))
  exact this _ _ (fun i hi => List.mem_range.1 hi)
theorem gd_snoc {ok : Nat → Bool} {n : Nat} {pre : List Nat} {i : Nat} (h : ∀ j ∈ pre, ok (j % n) = true) (hi : ok (i % n) = true) : ∀ j ∈ pre ++ [i], ok (j % n) = true := by
  intro j hj
  rcases List.mem_append.1 hj with hj | hj
  · exact h j hj
  · rw [List.mem_singleton.1 hj]; exact hi
theorem gx_snoc {ok : Nat → Bool} {n : Nat} {pre : List Nat} {i : Nat} (hi : ok (i % n) = false) : ∃ j ∈ pre ++ [i], ok (j % n) = false := ⟨i, by simp, hi⟩
theorem gd_all {ok : Nat → Bool} {n : Nat} {xs : List Nat} (hs : xs = List.range n) (h : ∀ j ∈ xs, ok (j % n) = true) : (List.range n).all (fun i => ok i) = true := by
  subst hs
  refine List.all_eq_true.2 (fun i hi => ?_)
  have := h i hi
  rwa [Nat.mod_eq_of_lt (List.mem_range.1 hi)] at this
theorem gx_not {ok : Nat → Bool} {n : Nat} {pre : List Nat} (hs : ∃ k, k < n ∧ pre = List.range (k + 1)) (h : ∃ j ∈ pre, ok (j % n) = false) : ¬ (List.range n).all (fun i => ok i) = true := by
  obtain ⟨k, hk, rfl⟩ := hs
  obtain ⟨j, hj, h⟩ := h
  have hj' : j < n := by have := List.mem_range.1 hj; omega
  rw [Nat.mod_eq_of_lt hj'] at h
  intro hall
  have := List.all_eq_true.1 hall j (List.mem_range.2 hj')
  rw [h] at this
  cases this
end Go.AbsK

