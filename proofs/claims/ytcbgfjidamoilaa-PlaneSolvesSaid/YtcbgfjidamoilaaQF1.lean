/- Contracts. -/
import Derived.Test.YtcbgfjidamoilaaQR
import Derived.Test.YtcbgfjidamoilaaQAwk
import Derived.Laws.Externs
set_option linter.unusedVariables false
namespace Go.Proofs.Ytcbgfjidamoilaa
open Go Go.AbsK Go.Bag

theorem not_t {x : Bool} (h : x = false) : (!x) = true := by rw [h]; rfl
theorem not_f {x : Bool} (h : x = true) : (!x) = false := by rw [h]; rfl
theorem tb_eq1 {w : Nat} {a b : List (List Cell)} (h : a = b) : [(w, a)] = [(w, b)] := by rw [h]
theorem tb_eq2 {w w' : Nat} {a b a' b' : List (List Cell)} (h : a = b) (h' : a' = b') : [(w, a), (w', a')] = [(w, b), (w', b')] := by rw [h, h']
theorem mk_room {n by_ : Nat} (h : n * by_ ≤ 281474976710656) (h1 : by_ * 1 ≠ 0 := by decide) : ((n : Nat) : Int) = n ∧ 0 ≤ ((n : Nat) : Int) ∧ ((n : Nat) : Int) ≤ 9223372036854775807 ∧ ((by_ : Nat) : Int) * n ≤ 281474976710656 := by
  have h2 : n ≤ n * by_ := Nat.le_mul_of_pos_right _ (by omega)
  refine ⟨rfl, by omega, by omega, ?_⟩
  rw [← Int.natCast_mul, Nat.mul_comm]
  exact Int.ofNat_le.2 h
def wOf (l : List (Nat × Nat)) : Nat → Nat × Nat := fun i => l.getD i (0, 0)
theorem closL_mk {sl : List (Nat × AV)} {hp : List (Nm × Blk)} {g k : Nat} (h1 : slB (bdB hp) sl = true) (h2 : hpOK (fun n => bdB hp n = true) g hp) : closL sl hp g k := closL_of (slB_ok h1) h2
theorem loopTo_x {P : Program} {x : Code} {s : St} {xs : Exit × St} {e : Exit} {s' : St} (h : LoopTo tab EQ P x s xs.1 xs.2) (hx : xs = (e, s')) : LoopTo tab EQ P x s e s' := by
  rw [hx] at h; exact h
/-! ### The externs -/
open Go.RowKit
theorem run_three {P : Program} (name : String) (x y c : Int) (hc : c.toNat ≤ 1) (w : World) : (Extern.MathBitsCarry.three name #[.int .u64 x, .int .u64 y, .int .u64 c]).run P w = .ok (x.toNat, y.toNat, c.toNat) w := by
  have hc2 : ¬ c.toNat > 1 := by omega
  change Sem.run P (do
    let c' := (← asInt (Value.int .u64 c)).toNat
    if c' > 1 then unsupported (.noEntry ("extern/math/bits." ++ name ++ ": a carry that is neither 0 nor 1"))
    pure ((← asInt (Value.int .u64 x)).toNat, (← asInt (Value.int .u64 y)).toNat, c')) w = _
  have ai : ∀ (k : IntKind) (n : Int) (w : World), (asInt (.int k n)).run P w = .ok n w := fun _ _ _ => rfl
  simp only [Sem.run_bind, ai, Sem.run_pure, Result.andThen, if_neg hc2]

def add64E : Array Value → Sem Value := fun args => do
  let (x, y, c) ← Extern.MathBitsCarry.three "Add64" args
  pure (Extern.MathBitsCarry.pair ((x + y + c) % Extern.MathBitsCarry.m64) ((x + y + c) / Extern.MathBitsCarry.m64))
def sub64E : Array Value → Sem Value := fun args => do
  let (x, y, b) ← Extern.MathBitsCarry.three "Sub64" args
  pure (Extern.MathBitsCarry.pair ((x + Extern.MathBitsCarry.m64 - y - b) % Extern.MathBitsCarry.m64) (if x < y + b then 1 else 0))

def ta3 (x y c : Int) : List AV := [.c (.i .u64 x), .c (.i .u64 y), .c (.i .u64 c)]
def ta_bits_Add64 (x y c : Int) : List AV := ta3 x y c
def tb_bits_Add64 (x y c : Int) : List (Nat × List (List Cell)) := []
def ta_bits_Sub64 (x y c : Int) : List AV := ta3 x y c
def tb_bits_Sub64 (x y c : Int) : List (Nat × List (List Cell)) := []
def o_bits_Add64 (x y c : Int) (r : Int × Int) : POfn := tplO (ta_bits_Add64 x y c) (tb_bits_Add64 x y c) (P_carry x y c ∧ r = bits_Add64 x y c) (.t2 (.c (.i .u64 r.1)) (.c (.i .u64 r.2))) []
def o_bits_Sub64 (x y c : Int) (r : Int × Int) : POfn := tplO (ta_bits_Sub64 x y c) (tb_bits_Sub64 x y c) (P_carry x y c ∧ r = bits_Sub64 x y c) (.t2 (.c (.i .u64 r.1)) (.c (.i .u64 r.2))) []

theorem fok_ext {f : Nat} {F : Int → Int → Int → Int × Int} (h : ∀ (x y c : Int) (w : World), c.toNat ≤ 1 → (callFunc f #[.int .u64 x, .int .u64 y, .int .u64 c]).run Try.prog w = .ok (.value (.tuple #[.int .u64 (F x y c).1, .int .u64 (F x y c).2])) w) (x y c : Int) (r : Int × Int) :
    FOK Try.prog f (tplO (ta3 x y c) [] (P_carry x y c ∧ r = F x y c) (.t2 (.c (.i .u64 r.1)) (.c (.i .u64 r.2))) []) := by
  have key : ∀ args bs mk p r' nb, tplO (ta3 x y c) [] (P_carry x y c ∧ r = F x y c) (.t2 (.c (.i .u64 r.1)) (.c (.i .u64 r.2))) [] args bs mk = some (p, r', nb) → p → P_carry x y c ∧ r = F x y c ∧ args = ta3 x y c ∧ r' = .t2 (.c (.i .u64 r.1)) (.c (.i .u64 r.2)) ∧ nb = [] := by
    intro args bs mk p r' nb he hp
    unfold tplO at he
    simp only [Option.some.injEq, Prod.mk.injEq] at he
    obtain ⟨rfl, rfl, rfl⟩ := he
    exact ⟨hp.2.2.1, hp.2.2.2, hp.1, rfl, rfl⟩
  refine ⟨fun args bs mk p r' nb he hp hm base ν w w0 gen _ hh _ _ _ => ?_, fun args bs mk p r' nb he hp q hq => ?_⟩
  · obtain ⟨hc, rfl, rfl, rfl, rfl⟩ := key _ _ _ _ _ _ he hp
    refine .inr ⟨_, w, h x y c w hc, ν, fun _ _ => rfl, Below.refl _ _, .inr ⟨⟨trivial, trivial⟩, rfl⟩, (fun n blk hn => by cases hn), (fun n n' blk blk' hn => by cases hn)⟩
  · obtain ⟨-, -, -, -, rfl⟩ := key _ _ _ _ _ _ he hp
    cases hq

theorem ok_bits_Add64 (x y c : Int) (r : Int × Int) : FOK Try.prog 161 (o_bits_Add64 x y c r) := fok_ext (fun x y c w hc => by
  rw [run_callFunc_extern Try.func161 (by kernel_rfl) (by kernel_rfl) (by kernel_rfl) (e := add64E) (by kernel_rfl)]
  have hr : (add64E #[.int .u64 x, .int .u64 y, .int .u64 c]).run Try.prog w = .ok (Extern.MathBitsCarry.pair ((x.toNat + y.toNat + c.toNat) % Extern.MathBitsCarry.m64) ((x.toNat + y.toNat + c.toNat) / Extern.MathBitsCarry.m64)) w := by
    simp only [add64E, Sem.run_bind, run_three _ x y c hc, Result.andThen, Sem.run_pure]
  rw [hr]
  rfl) x y c r
theorem ok_bits_Sub64 (x y c : Int) (r : Int × Int) : FOK Try.prog 163 (o_bits_Sub64 x y c r) := fok_ext (fun x y c w hc => by
  rw [run_callFunc_extern Try.func163 (by kernel_rfl) (by kernel_rfl) (by kernel_rfl) (e := sub64E) (by kernel_rfl)]
  have hr : (sub64E #[.int .u64 x, .int .u64 y, .int .u64 c]).run Try.prog w = .ok (Extern.MathBitsCarry.pair ((x.toNat + Extern.MathBitsCarry.m64 - y.toNat - c.toNat) % Extern.MathBitsCarry.m64) (if x.toNat < y.toNat + c.toNat then 1 else 0)) w := by
    simp only [sub64E, Sem.run_bind, run_three _ x y c hc, Result.andThen, Sem.run_pure]
  rw [hr]
  rfl) x y c r
/-! ### The table of math/bits -/
def strIn : Code → List ByteArray
  | .region _ ops _ => ops.toList.filterMap fun o => match o.op with
    | .index _ (.const (.string s)) _ => some s
    | _ => none
  | .seq x y => strIn x ++ strIn y
  | .cond _ x y => strIn x ++ strIn y
  | .block _ x => strIn x
  | .loop x => strIn x
  | _ => []
noncomputable def len8S : ByteArray := (strIn (Try.f164.body.getD .skip)).getD 0 ⟨#[]⟩
theorem len8_all : ((List.range 256).all fun i => strAt len8S (i : Int) == some (len8 (i : Int))) = true := by kernel_rfl
theorem len8_at (n : Int) : strAt len8S (IntKind.u8.wrap n) = some (len8 (IntKind.u8.wrap n)) := by
  have h1 : 0 ≤ IntKind.u8.wrap n ∧ IntKind.u8.wrap n < 256 := by rw [IntKind.wrap_u8]; omega
  obtain ⟨k, hk⟩ := Int.eq_ofNat_of_zero_le h1.1
  rw [hk]
  have h := List.all_eq_true.1 len8_all k (List.mem_range.2 (by omega))
  exact beq_iff_eq.1 h

def ta_law02_num (x : Int) : List AV := [.c (.i .i64 x)]

def tb_law02_num (x : Int) : List (Nat × List (List Cell)) := []

def o_law02_num (x : Int) (r : Num) : POfn := tplO (ta_law02_num x) (tb_law02_num x) (r = law02_num x) (.agg [.i .i64 r.V, .b r.F]) []

theorem ok_law02_num (x : Int) (r : Num) : FOK Try.prog 41 (o_law02_num x r) := by
  unfold o_law02_num
  refine fok_plain (fn := Try.f41) (c := Try.f41.body.getD .skip) tabOK eqOK follows ⟨Try.func41, by kernel_rfl, by kernel_rfl, by kernel_rfl, Nat.le_of_ble_eq_true (by kernel_rfl)⟩ (by kernel_rfl) (fun q hq => by cases hq) ?_
  intro hr
  rw [show r = (⟨IntKind.i64.wrap (x * 4294967296), false⟩ : Num) from hr.trans (by unfold law02_num; exact rfl)]
  exact of_run (ds := []) (B := ((0 : Int) ≤ 32) ∧ some (.agg [.i .i64 (IntKind.i64.wrap (x * 4294967296)), .b false] : AV) = some (.agg [.i .i64 (IntKind.i64.wrap (x * 4294967296)), .b false])) (by kernel_rfl) ⟨by decide, rfl⟩

def ta_plane_spot_cross (x : Spot) (y : Spot) : List AV := [.agg [.i .i64 x.X, .i .i64 x.Y], .agg [.i .i64 y.X, .i .i64 y.Y]]

def tb_plane_spot_cross (x : Spot) (y : Spot) : List (Nat × List (List Cell)) := []

def o_plane_spot_cross (x : Spot) (y : Spot) (r : Int) : POfn := tplO (ta_plane_spot_cross x y) (tb_plane_spot_cross x y) (r = plane_spot_cross x y) (.c (.i .i64 r)) []

theorem ok_plane_spot_cross (x : Spot) (y : Spot) (r : Int) : FOK Try.prog 89 (o_plane_spot_cross x y r) := by
  unfold o_plane_spot_cross
  refine fok_plain (fn := Try.f89) (c := Try.f89.body.getD .skip) tabOK eqOK follows ⟨Try.func89, by kernel_rfl, by kernel_rfl, by kernel_rfl, Nat.le_of_ble_eq_true (by kernel_rfl)⟩ (by kernel_rfl) (fun q hq => by cases hq) ?_
  intro hr
  rw [show r = IntKind.i64.wrap (IntKind.i64.wrap (x.X * y.Y) - IntKind.i64.wrap (x.Y * y.X)) from hr.trans (by unfold plane_spot_cross; exact rfl)]
  exact of_run (ds := []) (B := some (.c (.i .i64 (IntKind.i64.wrap (IntKind.i64.wrap (x.X * y.Y) - IntKind.i64.wrap (x.Y * y.X)))) : AV) = some (.c (.i .i64 (IntKind.i64.wrap (IntKind.i64.wrap (x.X * y.Y) - IntKind.i64.wrap (x.Y * y.X)))))) (by kernel_rfl) rfl

def ta_plane_spot_dot (x : Spot) (y : Spot) : List AV := [.agg [.i .i64 x.X, .i .i64 x.Y], .agg [.i .i64 y.X, .i .i64 y.Y]]

def tb_plane_spot_dot (x : Spot) (y : Spot) : List (Nat × List (List Cell)) := []

def o_plane_spot_dot (x : Spot) (y : Spot) (r : Int) : POfn := tplO (ta_plane_spot_dot x y) (tb_plane_spot_dot x y) (r = plane_spot_dot x y) (.c (.i .i64 r)) []

theorem ok_plane_spot_dot (x : Spot) (y : Spot) (r : Int) : FOK Try.prog 90 (o_plane_spot_dot x y r) := by
  unfold o_plane_spot_dot
  refine fok_plain (fn := Try.f90) (c := Try.f90.body.getD .skip) tabOK eqOK follows ⟨Try.func90, by kernel_rfl, by kernel_rfl, by kernel_rfl, Nat.le_of_ble_eq_true (by kernel_rfl)⟩ (by kernel_rfl) (fun q hq => by cases hq) ?_
  intro hr
  rw [show r = IntKind.i64.wrap (IntKind.i64.wrap (x.X * y.X) + IntKind.i64.wrap (x.Y * y.Y)) from hr.trans (by unfold plane_spot_dot; exact rfl)]
  exact of_run (ds := []) (B := some (.c (.i .i64 (IntKind.i64.wrap (IntKind.i64.wrap (x.X * y.X) + IntKind.i64.wrap (x.Y * y.Y)))) : AV) = some (.c (.i .i64 (IntKind.i64.wrap (IntKind.i64.wrap (x.X * y.X) + IntKind.i64.wrap (x.Y * y.Y)))))) (by kernel_rfl) rfl

def ta_plane_size (x : Int) : List AV := [.c (.i .i64 x)]

def tb_plane_size (x : Int) : List (Nat × List (List Cell)) := []

def o_plane_size (x : Int) (r : Bool) : POfn := tplO (ta_plane_size x) (tb_plane_size x) (r = plane_size x) (.c (.b r)) []

theorem ok_plane_size (x : Int) (r : Bool) : FOK Try.prog 114 (o_plane_size x r) := by
  unfold o_plane_size
  refine fok_plain (fn := Try.f114) (c := Try.f114.body.getD .skip) tabOK eqOK follows ⟨Try.func114, by kernel_rfl, by kernel_rfl, by kernel_rfl, Nat.le_of_ble_eq_true (by kernel_rfl)⟩ (by kernel_rfl) (fun q hq => by cases hq) ?_
  intro hr
  by_cases h0 : x ≥ 16
  · skip
    rw [show r = decide (x ≤ 4096) from hr.trans (by unfold plane_size; exact (if_pos h0).trans rfl)]
    exact of_run (ds := [.br true, .br true, .br true]) (B := (decide (x ≥ 16) = true) ∧ (decide (x ≥ 16) = true) ∧ (decide (x ≥ 16) = true) ∧ some (.c (.b (decide (x ≤ 4096))) : AV) = some (.c (.b (decide (x ≤ 4096))))) (by kernel_rfl) ⟨decide_eq_true h0, decide_eq_true h0, decide_eq_true h0, rfl⟩
  · skip
    rw [show r = false from hr.trans (by unfold plane_size; exact (if_neg h0).trans rfl)]
    exact of_run (ds := [.br false, .br false, .br false]) (B := (decide (x ≥ 16) = false) ∧ (decide (x ≥ 16) = false) ∧ (decide (x ≥ 16) = false) ∧ some (.c (.b false) : AV) = some (.c (.b false))) (by kernel_rfl) ⟨decide_eq_false h0, decide_eq_false h0, decide_eq_false h0, rfl⟩

def ta_fixed_sound (x : Num) : List AV := [.agg [.i .i64 x.V, .b x.F]]

def tb_fixed_sound (x : Num) : List (Nat × List (List Cell)) := []

def o_fixed_sound (x : Num) (r : Num) : POfn := tplO (ta_fixed_sound x) (tb_fixed_sound x) (r = fixed_sound x) (.agg [.i .i64 r.V, .b r.F]) []

theorem ok_fixed_sound (x : Num) (r : Num) : FOK Try.prog 125 (o_fixed_sound x r) := by
  unfold o_fixed_sound
  refine fok_plain (fn := Try.f125) (c := Try.f125.body.getD .skip) tabOK eqOK follows ⟨Try.func125, by kernel_rfl, by kernel_rfl, by kernel_rfl, Nat.le_of_ble_eq_true (by kernel_rfl)⟩ (by kernel_rfl) (fun q hq => by cases hq) ?_
  intro hr
  by_cases h0 : x.V = (-9223372036854775808)
  · skip
    rw [show r = (⟨(-9223372036854775807), true⟩ : Num) from hr.trans (by unfold fixed_sound; exact (if_pos h0).trans rfl)]
    exact of_run (ds := [.br true]) (B := ((x.V == (-9223372036854775808)) = true) ∧ some (.agg [.i .i64 (-9223372036854775807), .b true] : AV) = some (.agg [.i .i64 (-9223372036854775807), .b true])) (by kernel_rfl) ⟨beq_iff_eq.2 h0, rfl⟩
  · skip
    rw [show r = x from hr.trans (by unfold fixed_sound; exact (if_neg h0).trans rfl)]
    exact of_run (ds := [.br false]) (B := ((x.V == (-9223372036854775808)) = false) ∧ some (.agg [.i .i64 x.V, .b x.F] : AV) = some (.agg [.i .i64 x.V, .b x.F])) (by kernel_rfl) ⟨beq_eq_false_iff_ne.2 h0, rfl⟩

def fixed_flags_L0_H (c0 : Option Nat) (x : (List Num)) (s : Int) : St := mkS [(2, .c (.b false)), (5, .c (.slc (0, 0) 0 2 x.length (c0))), (6, .c (.i .i64 ((x.length : Nat) : Int))), (7, .c (.i .i64 s))] [((0, 0), ⟨rowsOf rNum x, 2, 0, false, none⟩)] 1 1

def fixed_flags_L0_X (c0 : Option Nat) (x : (List Num)) (v : Nat × (Unit) × (Unit)) : Exit × St := if v.1 = 0 then (.ret, mkS [(2, .c (.b true))] [((0, 0), ⟨rowsOf rNum x, 2, 0, false, none⟩)] 1 1) else ((.exit 0), mkS [(2, .c (.b false))] [((0, 0), ⟨rowsOf rNum x, 2, 0, false, none⟩)] 1 1)

theorem fixed_flags_L0_round (c0 : Option Nat) (x : (List Num)) : ∀ s : Int, RoundOK tab EQ Try.prog (loopAt Try.f126 0) (fixed_flags_L0_step x) (fixed_flags_L0_H c0 x) (fixed_flags_L0_X c0 x) s := by
  intro s
  by_cases qh0 : s < ((x.length : Nat) : Int)
  · skip
    by_cases qn0 : ((0 : Int) ≤ s ∧ s < ((x.length : Nat) : Int))
    rotate_left
    · have hs : fixed_flags_L0_step x s = none := by unfold fixed_flags_L0_step; exact (if_pos qh0).trans ((if_neg qn0).trans rfl)
      exact round_none hs
    by_cases qh1 : (nth x s).F = true
    · skip
      have hs : fixed_flags_L0_step x s = some (.inr (0, (), default)) := by unfold fixed_flags_L0_step; exact (if_pos qh0).trans ((if_pos qn0).trans ((if_pos qh1).trans rfl))
      exact round_inr hs (e := .ret) rfl (by intro h; cases h) (stepR (ds := [.br true, .row [.i .i64 ((nth x s).V), .b ((nth x s).F)], .br true]) (B := (decide (s < ((x.length : Nat) : Int)) = true) ∧ (((0 : Int) ≤ s ∧ s < ((x.length : Nat) : Int))) ∧ (0 + (s).toNat < (rowsOf rNum x).length) ∧ ((rowsOf rNum x)[0 + (s).toNat]? = some [.i .i64 ((nth x s).V), .b ((nth x s).F)]) ∧ ((nth x s).F = true) ∧ (((.c (.b true) : AV) = .c (.b true) ∧ True) ∧ ((some ⟨rowsOf rNum x, 2, 0, false, none⟩ : Option Blk) = some ⟨rowsOf rNum x, 2, 0, false, none⟩ ∧ True) ∧ 1 = 1 ∧ ((some ⟨rowsOf rNum x, 2, 0, false, none⟩ : Option Blk) = some ⟨rowsOf rNum x, 2, 0, false, none⟩ ∧ True) ∧ closL [(2, .c (.b true))] [((0, 0), ⟨rowsOf rNum x, 2, 0, false, none⟩)] 1 1)) (by kernel_rfl) ⟨decide_eq_true qh0, qn0, rows_lt (A := rNum) rfl qn0, rows_nth (A := rNum) (l := x) rfl qn0, qh1, ⟨⟨rfl, trivial⟩, ⟨rfl, trivial⟩, rfl, ⟨rfl, trivial⟩, closL_mk (by kernel_rfl) ⟨⟨rows_okAll (A := rNum) rfl _, by decide⟩, trivial⟩⟩⟩)
    · skip
      have hs : fixed_flags_L0_step x s = some (.inl (IntKind.i64.wrap (s + 1))) := by unfold fixed_flags_L0_step; exact (if_pos qh0).trans ((if_pos qn0).trans ((if_neg qh1).trans rfl))
      exact round_inl hs (stepN (ds := [.br true, .row [.i .i64 ((nth x s).V), .b ((nth x s).F)], .br false]) (B := (decide (s < ((x.length : Nat) : Int)) = true) ∧ (((0 : Int) ≤ s ∧ s < ((x.length : Nat) : Int))) ∧ (0 + (s).toNat < (rowsOf rNum x).length) ∧ ((rowsOf rNum x)[0 + (s).toNat]? = some [.i .i64 ((nth x s).V), .b ((nth x s).F)]) ∧ ((nth x s).F = false) ∧ (((.c (.b false) : AV) = .c (.b false) ∧ (.c (.slc (0, 0) 0 2 x.length (c0)) : AV) = .c (.slc (0, 0) 0 2 x.length (c0)) ∧ (.c (.i .i64 ((x.length : Nat) : Int)) : AV) = .c (.i .i64 ((x.length : Nat) : Int)) ∧ (.c (.i .i64 (IntKind.i64.wrap (s + 1))) : AV) = .c (.i .i64 (IntKind.i64.wrap (s + 1))) ∧ True) ∧ ((some ⟨rowsOf rNum x, 2, 0, false, none⟩ : Option Blk) = some ⟨rowsOf rNum x, 2, 0, false, none⟩ ∧ True) ∧ 1 = 1 ∧ ((some ⟨rowsOf rNum x, 2, 0, false, none⟩ : Option Blk) = some ⟨rowsOf rNum x, 2, 0, false, none⟩ ∧ True) ∧ closL [(2, .c (.b false)), (5, .c (.slc (0, 0) 0 2 x.length (c0))), (6, .c (.i .i64 ((x.length : Nat) : Int))), (7, .c (.i .i64 (IntKind.i64.wrap (s + 1))))] [((0, 0), ⟨rowsOf rNum x, 2, 0, false, none⟩)] 1 1)) (by kernel_rfl) ⟨decide_eq_true qh0, qn0, rows_lt (A := rNum) rfl qn0, rows_nth (A := rNum) (l := x) rfl qn0, Bool.eq_false_iff.2 qh1, ⟨⟨rfl, rfl, rfl, rfl, trivial⟩, ⟨rfl, trivial⟩, rfl, ⟨rfl, trivial⟩, closL_mk (by kernel_rfl) ⟨⟨rows_okAll (A := rNum) rfl _, by decide⟩, trivial⟩⟩⟩)
  · skip
    have hs : fixed_flags_L0_step x s = some (.inr (1, default, ())) := by unfold fixed_flags_L0_step; exact (if_neg qh0).trans rfl
    exact round_inr hs (e := (.exit 0)) rfl (by intro h; cases h) (stepX (id := 0) (ds := [.br false]) (B := (decide (s < ((x.length : Nat) : Int)) = false) ∧ (((.c (.b false) : AV) = .c (.b false) ∧ True) ∧ ((some ⟨rowsOf rNum x, 2, 0, false, none⟩ : Option Blk) = some ⟨rowsOf rNum x, 2, 0, false, none⟩ ∧ True) ∧ 1 = 1 ∧ ((some ⟨rowsOf rNum x, 2, 0, false, none⟩ : Option Blk) = some ⟨rowsOf rNum x, 2, 0, false, none⟩ ∧ True) ∧ closL [(2, .c (.b false))] [((0, 0), ⟨rowsOf rNum x, 2, 0, false, none⟩)] 1 1)) (by kernel_rfl) ⟨decide_eq_false qh0, ⟨⟨rfl, trivial⟩, ⟨rfl, trivial⟩, rfl, ⟨rfl, trivial⟩, closL_mk (by kernel_rfl) ⟨⟨rows_okAll (A := rNum) rfl _, by decide⟩, trivial⟩⟩⟩)

def ta_fixed_flags (x : (List Num)) (c0 : Option Nat) : List AV := [.c (.slc (0, 0) 0 2 x.length (c0))]

def tb_fixed_flags (x : (List Num)) : List (Nat × List (List Cell)) := [(2, rowsOf rNum x)]

def o_fixed_flags (x : (List Num)) (c0 : Option Nat) (r : Bool) : POfn := tplO (ta_fixed_flags x c0) (tb_fixed_flags x) (P_fixed_flags x ∧ r = fixed_flags x) (.c (.b r)) []

theorem ok_fixed_flags (x : (List Num)) (c0 : Option Nat) (r : Bool) : FOK Try.prog 126 (o_fixed_flags x c0 r) := by
  unfold o_fixed_flags
  refine fok_plain (fn := Try.f126) (c := Try.f126.body.getD .skip) tabOK eqOK follows ⟨Try.func126, by kernel_rfl, by kernel_rfl, by kernel_rfl, Nat.le_of_ble_eq_true (by kernel_rfl)⟩ (by kernel_rfl) (by intro q hq; simp only [tb_fixed_flags, List.mem_cons, List.not_mem_nil, or_false] at hq; rcases hq with rfl <;> exact rowsOf_plain _ _) ?_
  rintro ⟨hp, hr⟩
  have n0 : (iterO (fixed_flags_L0_step x) NN 0).isSome = true := by exact (hp).1
  obtain ⟨r0, lr0⟩ := Option.isSome_iff_exists.1 n0
  have er0 : r0 = (iterO (fixed_flags_L0_step x) NN 0).getD default := by rw [lr0]; rfl
  by_cases h0 : r0.1 = 0
  · skip
    rw [show r = true from hr.trans (by subst er0; unfold fixed_flags; exact (if_pos h0).trans rfl)]
    exact of_run (ds := [.to [(2, .c (.b false)), (5, .c (.slc (0, 0) 0 2 x.length (c0))), (6, .c (.i .i64 ((x.length : Nat) : Int))), (7, .c (.i .i64 0))] [((0, 0), ⟨rowsOf rNum x, 2, 0, false, none⟩)] 1 1 .ret (mkS [(2, .c (.b true))] [((0, 0), ⟨rowsOf rNum x, 2, 0, false, none⟩)] 1 1)]) (B := ((((.c (.b false) : AV) = .c (.b false) ∧ (.c (.slc (0, 0) 0 2 x.length (c0)) : AV) = .c (.slc (0, 0) 0 2 x.length (c0)) ∧ (.c (.i .i64 ((x.length : Nat) : Int)) : AV) = .c (.i .i64 ((x.length : Nat) : Int)) ∧ (.c (.i .i64 0) : AV) = .c (.i .i64 0) ∧ True) ∧ ((some ⟨rowsOf rNum x, 2, 0, false, none⟩ : Option Blk) = some ⟨rowsOf rNum x, 2, 0, false, none⟩ ∧ True) ∧ 1 = 1 ∧ ((some ⟨rowsOf rNum x, 2, 0, false, none⟩ : Option Blk) = some ⟨rowsOf rNum x, 2, 0, false, none⟩ ∧ True) ∧ closL [(2, .c (.b false)), (5, .c (.slc (0, 0) 0 2 x.length (c0))), (6, .c (.i .i64 ((x.length : Nat) : Int))), (7, .c (.i .i64 0))] [((0, 0), ⟨rowsOf rNum x, 2, 0, false, none⟩)] 1 1)) ∧ (LoopTo tab EQ Try.prog (loopAt Try.f126 0) (mkS [(2, .c (.b false)), (5, .c (.slc (0, 0) 0 2 x.length (c0))), (6, .c (.i .i64 ((x.length : Nat) : Int))), (7, .c (.i .i64 0))] [((0, 0), ⟨rowsOf rNum x, 2, 0, false, none⟩)] 1 1) .ret (mkS [(2, .c (.b true))] [((0, 0), ⟨rowsOf rNum x, 2, 0, false, none⟩)] 1 1)) ∧ some (.c (.b true) : AV) = some (.c (.b true))) (by kernel_rfl) ⟨⟨⟨rfl, rfl, rfl, rfl, trivial⟩, ⟨rfl, trivial⟩, rfl, ⟨rfl, trivial⟩, closL_mk (by kernel_rfl) ⟨⟨rows_okAll (A := rNum) rfl _, by decide⟩, trivial⟩⟩, loopTo_x (loopTo_iter (s := 0) (r := r0) (fixed_flags_L0_H c0 x) (fixed_flags_L0_X c0 x) (fixed_flags_L0_round c0 x) lr0) ((if_pos h0).trans rfl), rfl⟩
  · skip
    rw [show r = false from hr.trans (by subst er0; unfold fixed_flags; exact (if_neg h0).trans rfl)]
    exact of_run (ds := [.to [(2, .c (.b false)), (5, .c (.slc (0, 0) 0 2 x.length (c0))), (6, .c (.i .i64 ((x.length : Nat) : Int))), (7, .c (.i .i64 0))] [((0, 0), ⟨rowsOf rNum x, 2, 0, false, none⟩)] 1 1 (.exit 0) (mkS [(2, .c (.b false))] [((0, 0), ⟨rowsOf rNum x, 2, 0, false, none⟩)] 1 1)]) (B := ((((.c (.b false) : AV) = .c (.b false) ∧ (.c (.slc (0, 0) 0 2 x.length (c0)) : AV) = .c (.slc (0, 0) 0 2 x.length (c0)) ∧ (.c (.i .i64 ((x.length : Nat) : Int)) : AV) = .c (.i .i64 ((x.length : Nat) : Int)) ∧ (.c (.i .i64 0) : AV) = .c (.i .i64 0) ∧ True) ∧ ((some ⟨rowsOf rNum x, 2, 0, false, none⟩ : Option Blk) = some ⟨rowsOf rNum x, 2, 0, false, none⟩ ∧ True) ∧ 1 = 1 ∧ ((some ⟨rowsOf rNum x, 2, 0, false, none⟩ : Option Blk) = some ⟨rowsOf rNum x, 2, 0, false, none⟩ ∧ True) ∧ closL [(2, .c (.b false)), (5, .c (.slc (0, 0) 0 2 x.length (c0))), (6, .c (.i .i64 ((x.length : Nat) : Int))), (7, .c (.i .i64 0))] [((0, 0), ⟨rowsOf rNum x, 2, 0, false, none⟩)] 1 1)) ∧ (LoopTo tab EQ Try.prog (loopAt Try.f126 0) (mkS [(2, .c (.b false)), (5, .c (.slc (0, 0) 0 2 x.length (c0))), (6, .c (.i .i64 ((x.length : Nat) : Int))), (7, .c (.i .i64 0))] [((0, 0), ⟨rowsOf rNum x, 2, 0, false, none⟩)] 1 1) (.exit 0) (mkS [(2, .c (.b false))] [((0, 0), ⟨rowsOf rNum x, 2, 0, false, none⟩)] 1 1)) ∧ some (.c (.b false) : AV) = some (.c (.b false))) (by kernel_rfl) ⟨⟨⟨rfl, rfl, rfl, rfl, trivial⟩, ⟨rfl, trivial⟩, rfl, ⟨rfl, trivial⟩, closL_mk (by kernel_rfl) ⟨⟨rows_okAll (A := rNum) rfl _, by decide⟩, trivial⟩⟩, loopTo_x (loopTo_iter (s := 0) (r := r0) (fixed_flags_L0_H c0 x) (fixed_flags_L0_X c0 x) (fixed_flags_L0_round c0 x) lr0) ((if_neg h0).trans rfl), rfl⟩

def ta_ref01_whole (x : Num) : List AV := [.agg [.i .i64 x.V, .b x.F]]

def tb_ref01_whole (x : Num) : List (Nat × List (List Cell)) := []

def o_ref01_whole (x : Num) (r : (Int × Bool)) : POfn := tplO (ta_ref01_whole x) (tb_ref01_whole x) (r = ref01_whole x) (.t2 (.c (.i .i64 r.1)) (.c (.b r.2))) []

theorem ok_ref01_whole (x : Num) (r : (Int × Bool)) : FOK Try.prog 127 (o_ref01_whole x r) := by
  unfold o_ref01_whole
  refine fok_plain (fn := Try.f127) (c := Try.f127.body.getD .skip) tabOK eqOK follows ⟨Try.func127, by kernel_rfl, by kernel_rfl, by kernel_rfl, Nat.le_of_ble_eq_true (by kernel_rfl)⟩ (by kernel_rfl) (fun q hq => by cases hq) ?_
  intro hr
  by_cases h0 : x.V = (-9223372036854775808)
  · skip
    rw [show r = ((-9223372036854775807), true) from hr.trans (by unfold ref01_whole; exact (if_pos h0).trans rfl)]
    exact of_run (ds := [.br true]) (B := ((x.V == (-9223372036854775808)) = true) ∧ some (.t2 (.c (.i .i64 (-9223372036854775807))) (.c (.b true)) : AV) = some (.t2 (.c (.i .i64 (-9223372036854775807))) (.c (.b true)))) (by kernel_rfl) ⟨beq_iff_eq.2 h0, rfl⟩
  · skip
    rw [show r = (x.V, x.F) from hr.trans (by unfold ref01_whole; exact (if_neg h0).trans rfl)]
    exact of_run (ds := [.br false]) (B := ((x.V == (-9223372036854775808)) = false) ∧ some (.t2 (.c (.i .i64 x.V)) (.c (.b x.F)) : AV) = some (.t2 (.c (.i .i64 x.V)) (.c (.b x.F)))) (by kernel_rfl) ⟨beq_eq_false_iff_ne.2 h0, rfl⟩

def ta_ref01_none (x : Int) : List AV := [.c (.i .i64 x)]

def tb_ref01_none (x : Int) : List (Nat × List (List Cell)) := []

def o_ref01_none (x : Int) (r : Num) : POfn := tplO (ta_ref01_none x) (tb_ref01_none x) (r = ref01_none x) (.agg [.i .i64 r.V, .b r.F]) []

theorem ok_ref01_none (x : Int) (r : Num) : FOK Try.prog 128 (o_ref01_none x r) := by
  unfold o_ref01_none
  refine fok_plain (fn := Try.f128) (c := Try.f128.body.getD .skip) tabOK eqOK follows ⟨Try.func128, by kernel_rfl, by kernel_rfl, by kernel_rfl, Nat.le_of_ble_eq_true (by kernel_rfl)⟩ (by kernel_rfl) (fun q hq => by cases hq) ?_
  intro hr
  by_cases h0 : x > 0
  · skip
    rw [show r = (⟨9223372036854775807, true⟩ : Num) from hr.trans (by unfold ref01_none; exact (if_pos h0).trans rfl)]
    exact of_run (ds := [.br true]) (B := (decide (x > 0) = true) ∧ some (.agg [.i .i64 9223372036854775807, .b true] : AV) = some (.agg [.i .i64 9223372036854775807, .b true])) (by kernel_rfl) ⟨decide_eq_true h0, rfl⟩
  · skip
    by_cases h1 : x < 0
    · skip
      rw [show r = (⟨(-9223372036854775807), true⟩ : Num) from hr.trans (by unfold ref01_none; exact (if_neg h0).trans ((if_pos h1).trans rfl))]
      exact of_run (ds := [.br false, .br true]) (B := (decide (x > 0) = false) ∧ (decide (x < 0) = true) ∧ some (.agg [.i .i64 (-9223372036854775807), .b true] : AV) = some (.agg [.i .i64 (-9223372036854775807), .b true])) (by kernel_rfl) ⟨decide_eq_false h0, decide_eq_true h1, rfl⟩
    · skip
      rw [show r = (⟨0, true⟩ : Num) from hr.trans (by unfold ref01_none; exact (if_neg h0).trans ((if_neg h1).trans rfl))]
      exact of_run (ds := [.br false, .br false]) (B := (decide (x > 0) = false) ∧ (decide (x < 0) = false) ∧ some (.agg [.i .i64 0, .b true] : AV) = some (.agg [.i .i64 0, .b true])) (by kernel_rfl) ⟨decide_eq_false h0, decide_eq_false h1, rfl⟩

def ta_fixed_of (x : Int) : List AV := [.c (.i .i64 x)]

def tb_fixed_of (x : Int) : List (Nat × List (List Cell)) := []

def o_fixed_of (x : Int) (r : Exact) : POfn := tplO (ta_fixed_of x) (tb_fixed_of x) (r = fixed_of x) (.agg [.b r.neg, .i .u64 r.w.w0, .i .u64 r.w.w1]) []

theorem ok_fixed_of (x : Int) (r : Exact) : FOK Try.prog 129 (o_fixed_of x r) := by
  unfold o_fixed_of
  refine fok_plain (fn := Try.f129) (c := Try.f129.body.getD .skip) tabOK eqOK follows ⟨Try.func129, by kernel_rfl, by kernel_rfl, by kernel_rfl, Nat.le_of_ble_eq_true (by kernel_rfl)⟩ (by kernel_rfl) (fun q hq => by cases hq) ?_
  intro hr
  by_cases h0 : x < 0
  · skip
    rw [show r = (⟨true, ⟨IntKind.u64.wrap (0 - IntKind.u64.wrap x), 0⟩⟩ : Exact) from hr.trans (by unfold fixed_of; exact (if_pos h0).trans rfl)]
    exact of_run (ds := [.br true]) (B := (decide (x < 0) = true) ∧ some (.agg [.b true, .i .u64 (IntKind.u64.wrap (0 - IntKind.u64.wrap x)), .i .u64 0] : AV) = some (.agg [.b true, .i .u64 (IntKind.u64.wrap (0 - IntKind.u64.wrap x)), .i .u64 0])) (by kernel_rfl) ⟨decide_eq_true h0, rfl⟩
  · skip
    rw [show r = (⟨false, ⟨IntKind.u64.wrap x, 0⟩⟩ : Exact) from hr.trans (by unfold fixed_of; exact (if_neg h0).trans rfl)]
    exact of_run (ds := [.br false]) (B := (decide (x < 0) = false) ∧ some (.agg [.b false, .i .u64 (IntKind.u64.wrap x), .i .u64 0] : AV) = some (.agg [.b false, .i .u64 (IntKind.u64.wrap x), .i .u64 0])) (by kernel_rfl) ⟨decide_eq_false h0, rfl⟩

def ta_fixed_exact_up (x : Exact) : List AV := [.agg [.b x.neg, .i .u64 x.w.w0, .i .u64 x.w.w1]]

def tb_fixed_exact_up (x : Exact) : List (Nat × List (List Cell)) := []

def o_fixed_exact_up (x : Exact) (r : Exact) : POfn := tplO (ta_fixed_exact_up x) (tb_fixed_exact_up x) (r = fixed_exact_up x) (.agg [.b r.neg, .i .u64 r.w.w0, .i .u64 r.w.w1]) []

theorem ok_fixed_exact_up (x : Exact) (r : Exact) : FOK Try.prog 130 (o_fixed_exact_up x r) := by
  unfold o_fixed_exact_up
  refine fok_plain (fn := Try.f130) (c := Try.f130.body.getD .skip) tabOK eqOK follows ⟨Try.func130, by kernel_rfl, by kernel_rfl, by kernel_rfl, Nat.le_of_ble_eq_true (by kernel_rfl)⟩ (by kernel_rfl) (fun q hq => by cases hq) ?_
  intro hr
  rw [show r = (⟨x.neg, ⟨IntKind.u64.wrap (x.w.w0 * 4294967296), Go.bits .or .u64 (IntKind.u64.wrap (x.w.w1 * 4294967296)) ((x.w.w0).fdiv 4294967296)⟩⟩ : Exact) from hr.trans (by unfold fixed_exact_up; exact rfl)]
  exact of_run (ds := []) (B := ((0 : Int) ≤ 32) ∧ ((0 : Int) ≤ 32) ∧ ((0 : Int) ≤ 32) ∧ some (.agg [.b x.neg, .i .u64 (IntKind.u64.wrap (x.w.w0 * 4294967296)), .i .u64 (Go.bits .or .u64 (IntKind.u64.wrap (x.w.w1 * 4294967296)) ((x.w.w0).fdiv 4294967296))] : AV) = some (.agg [.b x.neg, .i .u64 (IntKind.u64.wrap (x.w.w0 * 4294967296)), .i .u64 (Go.bits .or .u64 (IntKind.u64.wrap (x.w.w1 * 4294967296)) ((x.w.w0).fdiv 4294967296))])) (by kernel_rfl) ⟨by decide, by decide, by decide, rfl⟩

def ta_fixed_exact_fit (x : Exact) (y : Bool) : List AV := [.agg [.b x.neg, .i .u64 x.w.w0, .i .u64 x.w.w1], .c (.b y)]

def tb_fixed_exact_fit (x : Exact) (y : Bool) : List (Nat × List (List Cell)) := []

def o_fixed_exact_fit (x : Exact) (y : Bool) (r : Num) : POfn := tplO (ta_fixed_exact_fit x y) (tb_fixed_exact_fit x y) (r = fixed_exact_fit x y) (.agg [.i .i64 r.V, .b r.F]) []

theorem ok_fixed_exact_fit (x : Exact) (y : Bool) (r : Num) : FOK Try.prog 131 (o_fixed_exact_fit x y r) := by
  unfold o_fixed_exact_fit
  refine fok_plain (fn := Try.f131) (c := Try.f131.body.getD .skip) tabOK eqOK follows ⟨Try.func131, by kernel_rfl, by kernel_rfl, by kernel_rfl, Nat.le_of_ble_eq_true (by kernel_rfl)⟩ (by kernel_rfl) (fun q hq => by cases hq) ?_
  intro hr
  by_cases h0 : x.w.w1 = 0
  · skip
    by_cases h1 : x.w.w0 ≤ 9223372036854775807
    · skip
      by_cases h2 : x.neg = true
      · skip
        rw [show r = (⟨IntKind.i64.wrap (0 - IntKind.i64.wrap x.w.w0), y⟩ : Num) from hr.trans (by unfold fixed_exact_fit; exact (if_pos h0).trans ((if_pos h1).trans ((if_pos h2).trans rfl)))]
        exact of_run (ds := [.br true, .br true, .br true, .br true, .br true, .br true, .br true]) (B := ((x.w.w1 == 0) = true) ∧ ((x.w.w1 == 0) = true) ∧ ((x.w.w1 == 0) = true) ∧ ((x.w.w1 == 0) = true) ∧ ((x.w.w1 == 0) = true) ∧ (decide (x.w.w0 ≤ 9223372036854775807) = true) ∧ (x.neg = true) ∧ some (.agg [.i .i64 (IntKind.i64.wrap (0 - IntKind.i64.wrap x.w.w0)), .b y] : AV) = some (.agg [.i .i64 (IntKind.i64.wrap (0 - IntKind.i64.wrap x.w.w0)), .b y])) (by kernel_rfl) ⟨beq_iff_eq.2 h0, beq_iff_eq.2 h0, beq_iff_eq.2 h0, beq_iff_eq.2 h0, beq_iff_eq.2 h0, decide_eq_true h1, h2, rfl⟩
      · skip
        rw [show r = (⟨IntKind.i64.wrap x.w.w0, y⟩ : Num) from hr.trans (by unfold fixed_exact_fit; exact (if_pos h0).trans ((if_pos h1).trans ((if_neg h2).trans rfl)))]
        exact of_run (ds := [.br true, .br true, .br true, .br true, .br true, .br true, .br false]) (B := ((x.w.w1 == 0) = true) ∧ ((x.w.w1 == 0) = true) ∧ ((x.w.w1 == 0) = true) ∧ ((x.w.w1 == 0) = true) ∧ ((x.w.w1 == 0) = true) ∧ (decide (x.w.w0 ≤ 9223372036854775807) = true) ∧ (x.neg = false) ∧ some (.agg [.i .i64 (IntKind.i64.wrap x.w.w0), .b y] : AV) = some (.agg [.i .i64 (IntKind.i64.wrap x.w.w0), .b y])) (by kernel_rfl) ⟨beq_iff_eq.2 h0, beq_iff_eq.2 h0, beq_iff_eq.2 h0, beq_iff_eq.2 h0, beq_iff_eq.2 h0, decide_eq_true h1, Bool.eq_false_iff.2 h2, rfl⟩
    · skip
      by_cases h2 : x.neg = true
      · skip
        rw [show r = (⟨(-9223372036854775807), true⟩ : Num) from hr.trans (by unfold fixed_exact_fit; exact (if_pos h0).trans ((if_neg h1).trans ((if_pos h2).trans rfl)))]
        exact of_run (ds := [.br true, .br true, .br true, .br true, .br true, .br false, .br true]) (B := ((x.w.w1 == 0) = true) ∧ ((x.w.w1 == 0) = true) ∧ ((x.w.w1 == 0) = true) ∧ ((x.w.w1 == 0) = true) ∧ ((x.w.w1 == 0) = true) ∧ (decide (x.w.w0 ≤ 9223372036854775807) = false) ∧ (x.neg = true) ∧ some (.agg [.i .i64 (-9223372036854775807), .b true] : AV) = some (.agg [.i .i64 (-9223372036854775807), .b true])) (by kernel_rfl) ⟨beq_iff_eq.2 h0, beq_iff_eq.2 h0, beq_iff_eq.2 h0, beq_iff_eq.2 h0, beq_iff_eq.2 h0, decide_eq_false h1, h2, rfl⟩
      · skip
        rw [show r = (⟨9223372036854775807, true⟩ : Num) from hr.trans (by unfold fixed_exact_fit; exact (if_pos h0).trans ((if_neg h1).trans ((if_neg h2).trans rfl)))]
        exact of_run (ds := [.br true, .br true, .br true, .br true, .br true, .br false, .br false]) (B := ((x.w.w1 == 0) = true) ∧ ((x.w.w1 == 0) = true) ∧ ((x.w.w1 == 0) = true) ∧ ((x.w.w1 == 0) = true) ∧ ((x.w.w1 == 0) = true) ∧ (decide (x.w.w0 ≤ 9223372036854775807) = false) ∧ (x.neg = false) ∧ some (.agg [.i .i64 9223372036854775807, .b true] : AV) = some (.agg [.i .i64 9223372036854775807, .b true])) (by kernel_rfl) ⟨beq_iff_eq.2 h0, beq_iff_eq.2 h0, beq_iff_eq.2 h0, beq_iff_eq.2 h0, beq_iff_eq.2 h0, decide_eq_false h1, Bool.eq_false_iff.2 h2, rfl⟩
  · skip
    by_cases h1 : x.neg = true
    · skip
      rw [show r = (⟨(-9223372036854775807), true⟩ : Num) from hr.trans (by unfold fixed_exact_fit; exact (if_neg h0).trans ((if_pos h1).trans rfl))]
      exact of_run (ds := [.br false, .br false, .br false, .br false, .br false, .br false, .br true]) (B := ((x.w.w1 == 0) = false) ∧ ((x.w.w1 == 0) = false) ∧ ((x.w.w1 == 0) = false) ∧ ((x.w.w1 == 0) = false) ∧ ((x.w.w1 == 0) = false) ∧ (false = false) ∧ (x.neg = true) ∧ some (.agg [.i .i64 (-9223372036854775807), .b true] : AV) = some (.agg [.i .i64 (-9223372036854775807), .b true])) (by kernel_rfl) ⟨beq_eq_false_iff_ne.2 h0, beq_eq_false_iff_ne.2 h0, beq_eq_false_iff_ne.2 h0, beq_eq_false_iff_ne.2 h0, beq_eq_false_iff_ne.2 h0, rfl, h1, rfl⟩
    · skip
      rw [show r = (⟨9223372036854775807, true⟩ : Num) from hr.trans (by unfold fixed_exact_fit; exact (if_neg h0).trans ((if_neg h1).trans rfl))]
      exact of_run (ds := [.br false, .br false, .br false, .br false, .br false, .br false, .br false]) (B := ((x.w.w1 == 0) = false) ∧ ((x.w.w1 == 0) = false) ∧ ((x.w.w1 == 0) = false) ∧ ((x.w.w1 == 0) = false) ∧ ((x.w.w1 == 0) = false) ∧ (false = false) ∧ (x.neg = false) ∧ some (.agg [.i .i64 9223372036854775807, .b true] : AV) = some (.agg [.i .i64 9223372036854775807, .b true])) (by kernel_rfl) ⟨beq_eq_false_iff_ne.2 h0, beq_eq_false_iff_ne.2 h0, beq_eq_false_iff_ne.2 h0, beq_eq_false_iff_ne.2 h0, beq_eq_false_iff_ne.2 h0, rfl, Bool.eq_false_iff.2 h1, rfl⟩

def ta_ref01_fit (x : Wide) (y : Bool) : List AV := [.agg [.b x.neg, .i .u64 x.hi, .i .u64 x.lo], .c (.b y)]

def tb_ref01_fit (x : Wide) (y : Bool) : List (Nat × List (List Cell)) := []

def o_ref01_fit (x : Wide) (y : Bool) (r : Num) : POfn := tplO (ta_ref01_fit x y) (tb_ref01_fit x y) (r = ref01_fit x y) (.agg [.i .i64 r.V, .b r.F]) []

theorem ok_ref01_fit (x : Wide) (y : Bool) (r : Num) : FOK Try.prog 135 (o_ref01_fit x y r) := by
  unfold o_ref01_fit
  refine fok_plain (fn := Try.f135) (c := Try.f135.body.getD .skip) tabOK eqOK follows ⟨Try.func135, by kernel_rfl, by kernel_rfl, by kernel_rfl, Nat.le_of_ble_eq_true (by kernel_rfl)⟩ (by kernel_rfl) (fun q hq => by cases hq) ?_
  intro hr
  by_cases h0 : x.hi = 0
  · skip
    by_cases h1 : x.lo > 9223372036854775807
    · skip
      by_cases h2 : x.neg = true
      · skip
        rw [show r = (⟨(-9223372036854775807), true⟩ : Num) from hr.trans (by unfold ref01_fit; exact (if_pos h0).trans ((if_pos h1).trans ((if_pos h2).trans rfl)))]
        exact of_run (ds := [.br false, .br false, .br false, .br false, .br true, .br true]) (B := ((!(x.hi == 0)) = false) ∧ ((!(x.hi == 0)) = false) ∧ ((!(x.hi == 0)) = false) ∧ ((!(x.hi == 0)) = false) ∧ (decide (x.lo > 9223372036854775807) = true) ∧ (x.neg = true) ∧ some (.agg [.i .i64 (-9223372036854775807), .b true] : AV) = some (.agg [.i .i64 (-9223372036854775807), .b true])) (by kernel_rfl) ⟨not_f (beq_iff_eq.2 h0), not_f (beq_iff_eq.2 h0), not_f (beq_iff_eq.2 h0), not_f (beq_iff_eq.2 h0), decide_eq_true h1, h2, rfl⟩
      · skip
        rw [show r = (⟨9223372036854775807, true⟩ : Num) from hr.trans (by unfold ref01_fit; exact (if_pos h0).trans ((if_pos h1).trans ((if_neg h2).trans rfl)))]
        exact of_run (ds := [.br false, .br false, .br false, .br false, .br true, .br false]) (B := ((!(x.hi == 0)) = false) ∧ ((!(x.hi == 0)) = false) ∧ ((!(x.hi == 0)) = false) ∧ ((!(x.hi == 0)) = false) ∧ (decide (x.lo > 9223372036854775807) = true) ∧ (x.neg = false) ∧ some (.agg [.i .i64 9223372036854775807, .b true] : AV) = some (.agg [.i .i64 9223372036854775807, .b true])) (by kernel_rfl) ⟨not_f (beq_iff_eq.2 h0), not_f (beq_iff_eq.2 h0), not_f (beq_iff_eq.2 h0), not_f (beq_iff_eq.2 h0), decide_eq_true h1, Bool.eq_false_iff.2 h2, rfl⟩
    · skip
      by_cases h2 : x.neg = true
      · skip
        rw [show r = (⟨IntKind.i64.wrap (0 - IntKind.i64.wrap x.lo), y⟩ : Num) from hr.trans (by unfold ref01_fit; exact (if_pos h0).trans ((if_neg h1).trans ((if_pos h2).trans rfl)))]
        exact of_run (ds := [.br false, .br false, .br false, .br false, .br false, .br true]) (B := ((!(x.hi == 0)) = false) ∧ ((!(x.hi == 0)) = false) ∧ ((!(x.hi == 0)) = false) ∧ ((!(x.hi == 0)) = false) ∧ (decide (x.lo > 9223372036854775807) = false) ∧ (x.neg = true) ∧ some (.agg [.i .i64 (IntKind.i64.wrap (0 - IntKind.i64.wrap x.lo)), .b y] : AV) = some (.agg [.i .i64 (IntKind.i64.wrap (0 - IntKind.i64.wrap x.lo)), .b y])) (by kernel_rfl) ⟨not_f (beq_iff_eq.2 h0), not_f (beq_iff_eq.2 h0), not_f (beq_iff_eq.2 h0), not_f (beq_iff_eq.2 h0), decide_eq_false h1, h2, rfl⟩
      · skip
        rw [show r = (⟨IntKind.i64.wrap x.lo, y⟩ : Num) from hr.trans (by unfold ref01_fit; exact (if_pos h0).trans ((if_neg h1).trans ((if_neg h2).trans rfl)))]
        exact of_run (ds := [.br false, .br false, .br false, .br false, .br false, .br false]) (B := ((!(x.hi == 0)) = false) ∧ ((!(x.hi == 0)) = false) ∧ ((!(x.hi == 0)) = false) ∧ ((!(x.hi == 0)) = false) ∧ (decide (x.lo > 9223372036854775807) = false) ∧ (x.neg = false) ∧ some (.agg [.i .i64 (IntKind.i64.wrap x.lo), .b y] : AV) = some (.agg [.i .i64 (IntKind.i64.wrap x.lo), .b y])) (by kernel_rfl) ⟨not_f (beq_iff_eq.2 h0), not_f (beq_iff_eq.2 h0), not_f (beq_iff_eq.2 h0), not_f (beq_iff_eq.2 h0), decide_eq_false h1, Bool.eq_false_iff.2 h2, rfl⟩
  · skip
    by_cases h1 : x.neg = true
    · skip
      rw [show r = (⟨(-9223372036854775807), true⟩ : Num) from hr.trans (by unfold ref01_fit; exact (if_neg h0).trans ((if_pos h1).trans rfl))]
      exact of_run (ds := [.br true, .br true, .br true, .br true, .br true, .br true]) (B := ((!(x.hi == 0)) = true) ∧ ((!(x.hi == 0)) = true) ∧ ((!(x.hi == 0)) = true) ∧ ((!(x.hi == 0)) = true) ∧ (true = true) ∧ (x.neg = true) ∧ some (.agg [.i .i64 (-9223372036854775807), .b true] : AV) = some (.agg [.i .i64 (-9223372036854775807), .b true])) (by kernel_rfl) ⟨not_t (beq_eq_false_iff_ne.2 h0), not_t (beq_eq_false_iff_ne.2 h0), not_t (beq_eq_false_iff_ne.2 h0), not_t (beq_eq_false_iff_ne.2 h0), rfl, h1, rfl⟩
    · skip
      rw [show r = (⟨9223372036854775807, true⟩ : Num) from hr.trans (by unfold ref01_fit; exact (if_neg h0).trans ((if_neg h1).trans rfl))]
      exact of_run (ds := [.br true, .br true, .br true, .br true, .br true, .br false]) (B := ((!(x.hi == 0)) = true) ∧ ((!(x.hi == 0)) = true) ∧ ((!(x.hi == 0)) = true) ∧ ((!(x.hi == 0)) = true) ∧ (true = true) ∧ (x.neg = false) ∧ some (.agg [.i .i64 9223372036854775807, .b true] : AV) = some (.agg [.i .i64 9223372036854775807, .b true])) (by kernel_rfl) ⟨not_t (beq_eq_false_iff_ne.2 h0), not_t (beq_eq_false_iff_ne.2 h0), not_t (beq_eq_false_iff_ne.2 h0), not_t (beq_eq_false_iff_ne.2 h0), rfl, Bool.eq_false_iff.2 h1, rfl⟩

def ta_ref01_up (x : Wide) : List AV := [.agg [.b x.neg, .i .u64 x.hi, .i .u64 x.lo]]

def tb_ref01_up (x : Wide) : List (Nat × List (List Cell)) := []

def o_ref01_up (x : Wide) (r : Wide) : POfn := tplO (ta_ref01_up x) (tb_ref01_up x) (r = ref01_up x) (.agg [.b r.neg, .i .u64 r.hi, .i .u64 r.lo]) []

theorem ok_ref01_up (x : Wide) (r : Wide) : FOK Try.prog 136 (o_ref01_up x r) := by
  unfold o_ref01_up
  refine fok_plain (fn := Try.f136) (c := Try.f136.body.getD .skip) tabOK eqOK follows ⟨Try.func136, by kernel_rfl, by kernel_rfl, by kernel_rfl, Nat.le_of_ble_eq_true (by kernel_rfl)⟩ (by kernel_rfl) (fun q hq => by cases hq) ?_
  intro hr
  rw [show r = (⟨x.neg, Go.bits .or .u64 (IntKind.u64.wrap (x.hi * 4294967296)) ((x.lo).fdiv 4294967296), IntKind.u64.wrap (x.lo * 4294967296)⟩ : Wide) from hr.trans (by unfold ref01_up; exact rfl)]
  exact of_run (ds := []) (B := ((0 : Int) ≤ 32) ∧ ((0 : Int) ≤ 32) ∧ ((0 : Int) ≤ 32) ∧ some (.agg [.b x.neg, .i .u64 (Go.bits .or .u64 (IntKind.u64.wrap (x.hi * 4294967296)) ((x.lo).fdiv 4294967296)), .i .u64 (IntKind.u64.wrap (x.lo * 4294967296))] : AV) = some (.agg [.b x.neg, .i .u64 (Go.bits .or .u64 (IntKind.u64.wrap (x.hi * 4294967296)) ((x.lo).fdiv 4294967296)), .i .u64 (IntKind.u64.wrap (x.lo * 4294967296))])) (by kernel_rfl) ⟨by decide, by decide, by decide, rfl⟩

def ref01_over_L0_H (x : Wide) (y : Int) (s : Int × Int × Int × Int) : St := mkS [(1, .c (.i .u64 y)), (2, .c (.ptr (2, 1) 0 3 0)), (4, .c (.ptr (4, 1) 0 3 0)), (5, .c (.ptr (5, 1) 0 3 0)), (6, .c (.i .u64 s.2.2.1)), (7, .c (.i .i64 s.2.2.2))] [((2, 1), ⟨[[.b x.neg, .i .u64 x.hi, .i .u64 x.lo]], 3, 130, true, some 1⟩), ((4, 1), ⟨[[.b false, .i .u64 0, .i .u64 0]], 3, 130, true, some 1⟩), ((5, 1), ⟨[[.b x.neg, .i .u64 s.1, .i .u64 s.2.1]], 3, 130, true, some 1⟩)] 1 0

def ref01_over_L0_X (x : Wide) (y : Int) (v : Int × Int) : Exit × St := ((.exit 0), mkS [(4, .c (.ptr (4, 1) 0 3 0)), (5, .c (.ptr (5, 1) 0 3 0))] [((4, 1), ⟨[[.b false, .i .u64 0, .i .u64 0]], 3, 130, true, some 1⟩), ((5, 1), ⟨[[.b x.neg, .i .u64 v.1, .i .u64 v.2]], 3, 130, true, some 1⟩)] 1 0)

theorem ref01_over_L0_round (x : Wide) (y : Int) : ∀ s : Int × Int × Int × Int, RoundOK tab EQ Try.prog (loopAt Try.f138 0) (ref01_over_L0_step x y) (ref01_over_L0_H x y) (ref01_over_L0_X x y) s := by
  intro s
  by_cases qh0 : s.2.2.2 ≥ 0
  · skip
    by_cases qh1 : s.2.2.2 ≥ 64
    · skip
      by_cases qh2 : Go.bits .or .u64 (IntKind.u64.wrap (s.2.2.1 * 2)) (Go.bits .and .u64 ((x.hi).fdiv (2 ^ (min (IntKind.u64.wrap (IntKind.i64.wrap (s.2.2.2 - 64))).toNat 64))) 1) ≥ y
      · skip
        have hs : ref01_over_L0_step x y s = some (.inl ((Go.bits .or .u64 (IntKind.u64.wrap (s.1 * 2)) ((s.2.1).fdiv 9223372036854775808)), (Go.bits .or .u64 (IntKind.u64.wrap (s.2.1 * 2)) 1), (IntKind.u64.wrap (Go.bits .or .u64 (IntKind.u64.wrap (s.2.2.1 * 2)) (Go.bits .and .u64 ((x.hi).fdiv (2 ^ (min (IntKind.u64.wrap (IntKind.i64.wrap (s.2.2.2 - 64))).toNat 64))) 1) - y)), (IntKind.i64.wrap (s.2.2.2 - 1)))) := by unfold ref01_over_L0_step; exact (if_pos qh0).trans ((if_pos qh1).trans ((if_pos qh2).trans rfl))
        exact round_inl hs (stepN (ds := [.br true, .br true, .br true]) (B := (decide (s.2.2.2 ≥ 0) = true) ∧ ((0 : Int) ≤ IntKind.u64.wrap s.2.2.2) ∧ (decide (s.2.2.2 ≥ 64) = true) ∧ ((0 : Int) ≤ IntKind.u64.wrap (IntKind.i64.wrap (s.2.2.2 - 64))) ∧ ((0 : Int) ≤ 1) ∧ ((0 : Int) ≤ 1) ∧ ((0 : Int) ≤ 63) ∧ ((0 : Int) ≤ 1) ∧ (decide (Go.bits .or .u64 (IntKind.u64.wrap (s.2.2.1 * 2)) (Go.bits .and .u64 ((x.hi).fdiv (2 ^ (min (IntKind.u64.wrap (IntKind.i64.wrap (s.2.2.2 - 64))).toNat 64))) 1) ≥ y) = true) ∧ (((.c (.i .u64 y) : AV) = .c (.i .u64 y) ∧ (.c (.ptr (2, 1) 0 3 0) : AV) = .c (.ptr (2, 1) 0 3 0) ∧ (.c (.ptr (4, 1) 0 3 0) : AV) = .c (.ptr (4, 1) 0 3 0) ∧ (.c (.ptr (5, 1) 0 3 0) : AV) = .c (.ptr (5, 1) 0 3 0) ∧ (.c (.i .u64 (IntKind.u64.wrap (Go.bits .or .u64 (IntKind.u64.wrap (s.2.2.1 * 2)) (Go.bits .and .u64 ((x.hi).fdiv (2 ^ (min (IntKind.u64.wrap (IntKind.i64.wrap (s.2.2.2 - 64))).toNat 64))) 1) - y))) : AV) = .c (.i .u64 (IntKind.u64.wrap (Go.bits .or .u64 (IntKind.u64.wrap (s.2.2.1 * 2)) (Go.bits .and .u64 ((x.hi).fdiv (2 ^ (min (IntKind.u64.wrap (IntKind.i64.wrap (s.2.2.2 - 64))).toNat 64))) 1) - y))) ∧ (.c (.i .i64 (IntKind.i64.wrap (s.2.2.2 - 1))) : AV) = .c (.i .i64 (IntKind.i64.wrap (s.2.2.2 - 1))) ∧ True) ∧ ((some ⟨[[.b x.neg, .i .u64 x.hi, .i .u64 x.lo]], 3, 130, true, some 1⟩ : Option Blk) = some ⟨[[.b x.neg, .i .u64 x.hi, .i .u64 x.lo]], 3, 130, true, some 1⟩ ∧ (some ⟨[[.b false, .i .u64 0, .i .u64 0]], 3, 130, true, some 1⟩ : Option Blk) = some ⟨[[.b false, .i .u64 0, .i .u64 0]], 3, 130, true, some 1⟩ ∧ (some ⟨[[.b x.neg, .i .u64 (Go.bits .or .u64 (IntKind.u64.wrap (s.1 * 2)) ((s.2.1).fdiv 9223372036854775808)), .i .u64 (Go.bits .or .u64 (IntKind.u64.wrap (s.2.1 * 2)) 1)]], 3, 130, true, some 1⟩ : Option Blk) = some ⟨[[.b x.neg, .i .u64 (Go.bits .or .u64 (IntKind.u64.wrap (s.1 * 2)) ((s.2.1).fdiv 9223372036854775808)), .i .u64 (Go.bits .or .u64 (IntKind.u64.wrap (s.2.1 * 2)) 1)]], 3, 130, true, some 1⟩ ∧ True) ∧ 0 = 0 ∧ (True) ∧ closL [(1, .c (.i .u64 y)), (2, .c (.ptr (2, 1) 0 3 0)), (4, .c (.ptr (4, 1) 0 3 0)), (5, .c (.ptr (5, 1) 0 3 0)), (6, .c (.i .u64 (IntKind.u64.wrap (Go.bits .or .u64 (IntKind.u64.wrap (s.2.2.1 * 2)) (Go.bits .and .u64 ((x.hi).fdiv (2 ^ (min (IntKind.u64.wrap (IntKind.i64.wrap (s.2.2.2 - 64))).toNat 64))) 1) - y)))), (7, .c (.i .i64 (IntKind.i64.wrap (s.2.2.2 - 1))))] [((2, 1), ⟨[[.b x.neg, .i .u64 x.hi, .i .u64 x.lo]], 3, 130, true, some 1⟩), ((4, 1), ⟨[[.b false, .i .u64 0, .i .u64 0]], 3, 130, true, some 1⟩), ((5, 1), ⟨[[.b x.neg, .i .u64 (Go.bits .or .u64 (IntKind.u64.wrap (s.1 * 2)) ((s.2.1).fdiv 9223372036854775808)), .i .u64 (Go.bits .or .u64 (IntKind.u64.wrap (s.2.1 * 2)) 1)]], 3, 130, true, some 1⟩)] 1 0)) (by kernel_rfl) ⟨decide_eq_true qh0, u64_nn _, decide_eq_true qh1, u64_nn _, by decide, by decide, by decide, by decide, decide_eq_true qh2, ⟨⟨rfl, rfl, rfl, rfl, rfl, rfl, trivial⟩, ⟨rfl, rfl, rfl, trivial⟩, rfl, trivial, closL_mk (by kernel_rfl) ⟨⟨rows_lit (by kernel_rfl), by decide⟩, ⟨⟨rows_lit (by kernel_rfl), by decide⟩, ⟨⟨rows_lit (by kernel_rfl), by decide⟩, trivial⟩⟩⟩⟩⟩)
      · skip
        have hs : ref01_over_L0_step x y s = some (.inl ((Go.bits .or .u64 (IntKind.u64.wrap (s.1 * 2)) ((s.2.1).fdiv 9223372036854775808)), (IntKind.u64.wrap (s.2.1 * 2)), (Go.bits .or .u64 (IntKind.u64.wrap (s.2.2.1 * 2)) (Go.bits .and .u64 ((x.hi).fdiv (2 ^ (min (IntKind.u64.wrap (IntKind.i64.wrap (s.2.2.2 - 64))).toNat 64))) 1)), (IntKind.i64.wrap (s.2.2.2 - 1)))) := by unfold ref01_over_L0_step; exact (if_pos qh0).trans ((if_pos qh1).trans ((if_neg qh2).trans rfl))
        exact round_inl hs (stepN (ds := [.br true, .br true, .br false]) (B := (decide (s.2.2.2 ≥ 0) = true) ∧ ((0 : Int) ≤ IntKind.u64.wrap s.2.2.2) ∧ (decide (s.2.2.2 ≥ 64) = true) ∧ ((0 : Int) ≤ IntKind.u64.wrap (IntKind.i64.wrap (s.2.2.2 - 64))) ∧ ((0 : Int) ≤ 1) ∧ ((0 : Int) ≤ 1) ∧ ((0 : Int) ≤ 63) ∧ ((0 : Int) ≤ 1) ∧ (decide (Go.bits .or .u64 (IntKind.u64.wrap (s.2.2.1 * 2)) (Go.bits .and .u64 ((x.hi).fdiv (2 ^ (min (IntKind.u64.wrap (IntKind.i64.wrap (s.2.2.2 - 64))).toNat 64))) 1) ≥ y) = false) ∧ (((.c (.i .u64 y) : AV) = .c (.i .u64 y) ∧ (.c (.ptr (2, 1) 0 3 0) : AV) = .c (.ptr (2, 1) 0 3 0) ∧ (.c (.ptr (4, 1) 0 3 0) : AV) = .c (.ptr (4, 1) 0 3 0) ∧ (.c (.ptr (5, 1) 0 3 0) : AV) = .c (.ptr (5, 1) 0 3 0) ∧ (.c (.i .u64 (Go.bits .or .u64 (IntKind.u64.wrap (s.2.2.1 * 2)) (Go.bits .and .u64 ((x.hi).fdiv (2 ^ (min (IntKind.u64.wrap (IntKind.i64.wrap (s.2.2.2 - 64))).toNat 64))) 1))) : AV) = .c (.i .u64 (Go.bits .or .u64 (IntKind.u64.wrap (s.2.2.1 * 2)) (Go.bits .and .u64 ((x.hi).fdiv (2 ^ (min (IntKind.u64.wrap (IntKind.i64.wrap (s.2.2.2 - 64))).toNat 64))) 1))) ∧ (.c (.i .i64 (IntKind.i64.wrap (s.2.2.2 - 1))) : AV) = .c (.i .i64 (IntKind.i64.wrap (s.2.2.2 - 1))) ∧ True) ∧ ((some ⟨[[.b x.neg, .i .u64 x.hi, .i .u64 x.lo]], 3, 130, true, some 1⟩ : Option Blk) = some ⟨[[.b x.neg, .i .u64 x.hi, .i .u64 x.lo]], 3, 130, true, some 1⟩ ∧ (some ⟨[[.b false, .i .u64 0, .i .u64 0]], 3, 130, true, some 1⟩ : Option Blk) = some ⟨[[.b false, .i .u64 0, .i .u64 0]], 3, 130, true, some 1⟩ ∧ (some ⟨[[.b x.neg, .i .u64 (Go.bits .or .u64 (IntKind.u64.wrap (s.1 * 2)) ((s.2.1).fdiv 9223372036854775808)), .i .u64 (IntKind.u64.wrap (s.2.1 * 2))]], 3, 130, true, some 1⟩ : Option Blk) = some ⟨[[.b x.neg, .i .u64 (Go.bits .or .u64 (IntKind.u64.wrap (s.1 * 2)) ((s.2.1).fdiv 9223372036854775808)), .i .u64 (IntKind.u64.wrap (s.2.1 * 2))]], 3, 130, true, some 1⟩ ∧ True) ∧ 0 = 0 ∧ (True) ∧ closL [(1, .c (.i .u64 y)), (2, .c (.ptr (2, 1) 0 3 0)), (4, .c (.ptr (4, 1) 0 3 0)), (5, .c (.ptr (5, 1) 0 3 0)), (6, .c (.i .u64 (Go.bits .or .u64 (IntKind.u64.wrap (s.2.2.1 * 2)) (Go.bits .and .u64 ((x.hi).fdiv (2 ^ (min (IntKind.u64.wrap (IntKind.i64.wrap (s.2.2.2 - 64))).toNat 64))) 1)))), (7, .c (.i .i64 (IntKind.i64.wrap (s.2.2.2 - 1))))] [((2, 1), ⟨[[.b x.neg, .i .u64 x.hi, .i .u64 x.lo]], 3, 130, true, some 1⟩), ((4, 1), ⟨[[.b false, .i .u64 0, .i .u64 0]], 3, 130, true, some 1⟩), ((5, 1), ⟨[[.b x.neg, .i .u64 (Go.bits .or .u64 (IntKind.u64.wrap (s.1 * 2)) ((s.2.1).fdiv 9223372036854775808)), .i .u64 (IntKind.u64.wrap (s.2.1 * 2))]], 3, 130, true, some 1⟩)] 1 0)) (by kernel_rfl) ⟨decide_eq_true qh0, u64_nn _, decide_eq_true qh1, u64_nn _, by decide, by decide, by decide, by decide, decide_eq_false qh2, ⟨⟨rfl, rfl, rfl, rfl, rfl, rfl, trivial⟩, ⟨rfl, rfl, rfl, trivial⟩, rfl, trivial, closL_mk (by kernel_rfl) ⟨⟨rows_lit (by kernel_rfl), by decide⟩, ⟨⟨rows_lit (by kernel_rfl), by decide⟩, ⟨⟨rows_lit (by kernel_rfl), by decide⟩, trivial⟩⟩⟩⟩⟩)
    · skip
      by_cases qh2 : Go.bits .or .u64 (IntKind.u64.wrap (s.2.2.1 * 2)) (Go.bits .and .u64 ((x.lo).fdiv (2 ^ (min (IntKind.u64.wrap s.2.2.2).toNat 64))) 1) ≥ y
      · skip
        have hs : ref01_over_L0_step x y s = some (.inl ((Go.bits .or .u64 (IntKind.u64.wrap (s.1 * 2)) ((s.2.1).fdiv 9223372036854775808)), (Go.bits .or .u64 (IntKind.u64.wrap (s.2.1 * 2)) 1), (IntKind.u64.wrap (Go.bits .or .u64 (IntKind.u64.wrap (s.2.2.1 * 2)) (Go.bits .and .u64 ((x.lo).fdiv (2 ^ (min (IntKind.u64.wrap s.2.2.2).toNat 64))) 1) - y)), (IntKind.i64.wrap (s.2.2.2 - 1)))) := by unfold ref01_over_L0_step; exact (if_pos qh0).trans ((if_neg qh1).trans ((if_pos qh2).trans rfl))
        exact round_inl hs (stepN (ds := [.br true, .br false, .br true]) (B := (decide (s.2.2.2 ≥ 0) = true) ∧ ((0 : Int) ≤ IntKind.u64.wrap s.2.2.2) ∧ (decide (s.2.2.2 ≥ 64) = false) ∧ ((0 : Int) ≤ 1) ∧ ((0 : Int) ≤ 1) ∧ ((0 : Int) ≤ 63) ∧ ((0 : Int) ≤ 1) ∧ (decide (Go.bits .or .u64 (IntKind.u64.wrap (s.2.2.1 * 2)) (Go.bits .and .u64 ((x.lo).fdiv (2 ^ (min (IntKind.u64.wrap s.2.2.2).toNat 64))) 1) ≥ y) = true) ∧ (((.c (.i .u64 y) : AV) = .c (.i .u64 y) ∧ (.c (.ptr (2, 1) 0 3 0) : AV) = .c (.ptr (2, 1) 0 3 0) ∧ (.c (.ptr (4, 1) 0 3 0) : AV) = .c (.ptr (4, 1) 0 3 0) ∧ (.c (.ptr (5, 1) 0 3 0) : AV) = .c (.ptr (5, 1) 0 3 0) ∧ (.c (.i .u64 (IntKind.u64.wrap (Go.bits .or .u64 (IntKind.u64.wrap (s.2.2.1 * 2)) (Go.bits .and .u64 ((x.lo).fdiv (2 ^ (min (IntKind.u64.wrap s.2.2.2).toNat 64))) 1) - y))) : AV) = .c (.i .u64 (IntKind.u64.wrap (Go.bits .or .u64 (IntKind.u64.wrap (s.2.2.1 * 2)) (Go.bits .and .u64 ((x.lo).fdiv (2 ^ (min (IntKind.u64.wrap s.2.2.2).toNat 64))) 1) - y))) ∧ (.c (.i .i64 (IntKind.i64.wrap (s.2.2.2 - 1))) : AV) = .c (.i .i64 (IntKind.i64.wrap (s.2.2.2 - 1))) ∧ True) ∧ ((some ⟨[[.b x.neg, .i .u64 x.hi, .i .u64 x.lo]], 3, 130, true, some 1⟩ : Option Blk) = some ⟨[[.b x.neg, .i .u64 x.hi, .i .u64 x.lo]], 3, 130, true, some 1⟩ ∧ (some ⟨[[.b false, .i .u64 0, .i .u64 0]], 3, 130, true, some 1⟩ : Option Blk) = some ⟨[[.b false, .i .u64 0, .i .u64 0]], 3, 130, true, some 1⟩ ∧ (some ⟨[[.b x.neg, .i .u64 (Go.bits .or .u64 (IntKind.u64.wrap (s.1 * 2)) ((s.2.1).fdiv 9223372036854775808)), .i .u64 (Go.bits .or .u64 (IntKind.u64.wrap (s.2.1 * 2)) 1)]], 3, 130, true, some 1⟩ : Option Blk) = some ⟨[[.b x.neg, .i .u64 (Go.bits .or .u64 (IntKind.u64.wrap (s.1 * 2)) ((s.2.1).fdiv 9223372036854775808)), .i .u64 (Go.bits .or .u64 (IntKind.u64.wrap (s.2.1 * 2)) 1)]], 3, 130, true, some 1⟩ ∧ True) ∧ 0 = 0 ∧ (True) ∧ closL [(1, .c (.i .u64 y)), (2, .c (.ptr (2, 1) 0 3 0)), (4, .c (.ptr (4, 1) 0 3 0)), (5, .c (.ptr (5, 1) 0 3 0)), (6, .c (.i .u64 (IntKind.u64.wrap (Go.bits .or .u64 (IntKind.u64.wrap (s.2.2.1 * 2)) (Go.bits .and .u64 ((x.lo).fdiv (2 ^ (min (IntKind.u64.wrap s.2.2.2).toNat 64))) 1) - y)))), (7, .c (.i .i64 (IntKind.i64.wrap (s.2.2.2 - 1))))] [((2, 1), ⟨[[.b x.neg, .i .u64 x.hi, .i .u64 x.lo]], 3, 130, true, some 1⟩), ((4, 1), ⟨[[.b false, .i .u64 0, .i .u64 0]], 3, 130, true, some 1⟩), ((5, 1), ⟨[[.b x.neg, .i .u64 (Go.bits .or .u64 (IntKind.u64.wrap (s.1 * 2)) ((s.2.1).fdiv 9223372036854775808)), .i .u64 (Go.bits .or .u64 (IntKind.u64.wrap (s.2.1 * 2)) 1)]], 3, 130, true, some 1⟩)] 1 0)) (by kernel_rfl) ⟨decide_eq_true qh0, u64_nn _, decide_eq_false qh1, by decide, by decide, by decide, by decide, decide_eq_true qh2, ⟨⟨rfl, rfl, rfl, rfl, rfl, rfl, trivial⟩, ⟨rfl, rfl, rfl, trivial⟩, rfl, trivial, closL_mk (by kernel_rfl) ⟨⟨rows_lit (by kernel_rfl), by decide⟩, ⟨⟨rows_lit (by kernel_rfl), by decide⟩, ⟨⟨rows_lit (by kernel_rfl), by decide⟩, trivial⟩⟩⟩⟩⟩)
      · skip
        have hs : ref01_over_L0_step x y s = some (.inl ((Go.bits .or .u64 (IntKind.u64.wrap (s.1 * 2)) ((s.2.1).fdiv 9223372036854775808)), (IntKind.u64.wrap (s.2.1 * 2)), (Go.bits .or .u64 (IntKind.u64.wrap (s.2.2.1 * 2)) (Go.bits .and .u64 ((x.lo).fdiv (2 ^ (min (IntKind.u64.wrap s.2.2.2).toNat 64))) 1)), (IntKind.i64.wrap (s.2.2.2 - 1)))) := by unfold ref01_over_L0_step; exact (if_pos qh0).trans ((if_neg qh1).trans ((if_neg qh2).trans rfl))
        exact round_inl hs (stepN (ds := [.br true, .br false, .br false]) (B := (decide (s.2.2.2 ≥ 0) = true) ∧ ((0 : Int) ≤ IntKind.u64.wrap s.2.2.2) ∧ (decide (s.2.2.2 ≥ 64) = false) ∧ ((0 : Int) ≤ 1) ∧ ((0 : Int) ≤ 1) ∧ ((0 : Int) ≤ 63) ∧ ((0 : Int) ≤ 1) ∧ (decide (Go.bits .or .u64 (IntKind.u64.wrap (s.2.2.1 * 2)) (Go.bits .and .u64 ((x.lo).fdiv (2 ^ (min (IntKind.u64.wrap s.2.2.2).toNat 64))) 1) ≥ y) = false) ∧ (((.c (.i .u64 y) : AV) = .c (.i .u64 y) ∧ (.c (.ptr (2, 1) 0 3 0) : AV) = .c (.ptr (2, 1) 0 3 0) ∧ (.c (.ptr (4, 1) 0 3 0) : AV) = .c (.ptr (4, 1) 0 3 0) ∧ (.c (.ptr (5, 1) 0 3 0) : AV) = .c (.ptr (5, 1) 0 3 0) ∧ (.c (.i .u64 (Go.bits .or .u64 (IntKind.u64.wrap (s.2.2.1 * 2)) (Go.bits .and .u64 ((x.lo).fdiv (2 ^ (min (IntKind.u64.wrap s.2.2.2).toNat 64))) 1))) : AV) = .c (.i .u64 (Go.bits .or .u64 (IntKind.u64.wrap (s.2.2.1 * 2)) (Go.bits .and .u64 ((x.lo).fdiv (2 ^ (min (IntKind.u64.wrap s.2.2.2).toNat 64))) 1))) ∧ (.c (.i .i64 (IntKind.i64.wrap (s.2.2.2 - 1))) : AV) = .c (.i .i64 (IntKind.i64.wrap (s.2.2.2 - 1))) ∧ True) ∧ ((some ⟨[[.b x.neg, .i .u64 x.hi, .i .u64 x.lo]], 3, 130, true, some 1⟩ : Option Blk) = some ⟨[[.b x.neg, .i .u64 x.hi, .i .u64 x.lo]], 3, 130, true, some 1⟩ ∧ (some ⟨[[.b false, .i .u64 0, .i .u64 0]], 3, 130, true, some 1⟩ : Option Blk) = some ⟨[[.b false, .i .u64 0, .i .u64 0]], 3, 130, true, some 1⟩ ∧ (some ⟨[[.b x.neg, .i .u64 (Go.bits .or .u64 (IntKind.u64.wrap (s.1 * 2)) ((s.2.1).fdiv 9223372036854775808)), .i .u64 (IntKind.u64.wrap (s.2.1 * 2))]], 3, 130, true, some 1⟩ : Option Blk) = some ⟨[[.b x.neg, .i .u64 (Go.bits .or .u64 (IntKind.u64.wrap (s.1 * 2)) ((s.2.1).fdiv 9223372036854775808)), .i .u64 (IntKind.u64.wrap (s.2.1 * 2))]], 3, 130, true, some 1⟩ ∧ True) ∧ 0 = 0 ∧ (True) ∧ closL [(1, .c (.i .u64 y)), (2, .c (.ptr (2, 1) 0 3 0)), (4, .c (.ptr (4, 1) 0 3 0)), (5, .c (.ptr (5, 1) 0 3 0)), (6, .c (.i .u64 (Go.bits .or .u64 (IntKind.u64.wrap (s.2.2.1 * 2)) (Go.bits .and .u64 ((x.lo).fdiv (2 ^ (min (IntKind.u64.wrap s.2.2.2).toNat 64))) 1)))), (7, .c (.i .i64 (IntKind.i64.wrap (s.2.2.2 - 1))))] [((2, 1), ⟨[[.b x.neg, .i .u64 x.hi, .i .u64 x.lo]], 3, 130, true, some 1⟩), ((4, 1), ⟨[[.b false, .i .u64 0, .i .u64 0]], 3, 130, true, some 1⟩), ((5, 1), ⟨[[.b x.neg, .i .u64 (Go.bits .or .u64 (IntKind.u64.wrap (s.1 * 2)) ((s.2.1).fdiv 9223372036854775808)), .i .u64 (IntKind.u64.wrap (s.2.1 * 2))]], 3, 130, true, some 1⟩)] 1 0)) (by kernel_rfl) ⟨decide_eq_true qh0, u64_nn _, decide_eq_false qh1, by decide, by decide, by decide, by decide, decide_eq_false qh2, ⟨⟨rfl, rfl, rfl, rfl, rfl, rfl, trivial⟩, ⟨rfl, rfl, rfl, trivial⟩, rfl, trivial, closL_mk (by kernel_rfl) ⟨⟨rows_lit (by kernel_rfl), by decide⟩, ⟨⟨rows_lit (by kernel_rfl), by decide⟩, ⟨⟨rows_lit (by kernel_rfl), by decide⟩, trivial⟩⟩⟩⟩⟩)
  · skip
    have hs : ref01_over_L0_step x y s = some (.inr (s.1, s.2.1)) := by unfold ref01_over_L0_step; exact (if_neg qh0).trans rfl
    exact round_inr hs (e := (.exit 0)) rfl (by intro h; cases h) (stepX (id := 0) (ds := [.br false]) (B := (decide (s.2.2.2 ≥ 0) = false) ∧ (((.c (.ptr (4, 1) 0 3 0) : AV) = .c (.ptr (4, 1) 0 3 0) ∧ (.c (.ptr (5, 1) 0 3 0) : AV) = .c (.ptr (5, 1) 0 3 0) ∧ True) ∧ ((some ⟨[[.b false, .i .u64 0, .i .u64 0]], 3, 130, true, some 1⟩ : Option Blk) = some ⟨[[.b false, .i .u64 0, .i .u64 0]], 3, 130, true, some 1⟩ ∧ (some ⟨[[.b x.neg, .i .u64 s.1, .i .u64 s.2.1]], 3, 130, true, some 1⟩ : Option Blk) = some ⟨[[.b x.neg, .i .u64 s.1, .i .u64 s.2.1]], 3, 130, true, some 1⟩ ∧ True) ∧ 0 = 0 ∧ (True) ∧ closL [(4, .c (.ptr (4, 1) 0 3 0)), (5, .c (.ptr (5, 1) 0 3 0))] [((4, 1), ⟨[[.b false, .i .u64 0, .i .u64 0]], 3, 130, true, some 1⟩), ((5, 1), ⟨[[.b x.neg, .i .u64 s.1, .i .u64 s.2.1]], 3, 130, true, some 1⟩)] 1 0)) (by kernel_rfl) ⟨decide_eq_false qh0, ⟨⟨rfl, rfl, trivial⟩, ⟨rfl, rfl, trivial⟩, rfl, trivial, closL_mk (by kernel_rfl) ⟨⟨rows_lit (by kernel_rfl), by decide⟩, ⟨⟨rows_lit (by kernel_rfl), by decide⟩, trivial⟩⟩⟩⟩)

def ta_ref01_over (x : Wide) (y : Int) : List AV := [.agg [.b x.neg, .i .u64 x.hi, .i .u64 x.lo], .c (.i .u64 y)]

def tb_ref01_over (x : Wide) (y : Int) : List (Nat × List (List Cell)) := []

def o_ref01_over (x : Wide) (y : Int) (r : Wide) : POfn := tplO (ta_ref01_over x y) (tb_ref01_over x y) (P_ref01_over x y ∧ r = ref01_over x y) (.agg [.b r.neg, .i .u64 r.hi, .i .u64 r.lo]) []

theorem ok_ref01_over (x : Wide) (y : Int) (r : Wide) : FOK Try.prog 138 (o_ref01_over x y r) := by
  unfold o_ref01_over
  refine fok_plain (fn := Try.f138) (c := Try.f138.body.getD .skip) tabOK eqOK follows ⟨Try.func138, by kernel_rfl, by kernel_rfl, by kernel_rfl, Nat.le_of_ble_eq_true (by kernel_rfl)⟩ (by kernel_rfl) (fun q hq => by cases hq) ?_
  rintro ⟨hp, hr⟩
  have n0 : (iterO (ref01_over_L0_step x y) NN (0, 0, 0, 127)).isSome = true := by exact (hp).1
  obtain ⟨r0, lr0⟩ := Option.isSome_iff_exists.1 n0
  have er0 : r0 = (iterO (ref01_over_L0_step x y) NN (0, 0, 0, 127)).getD default := by rw [lr0]; rfl
  rw [show r = (⟨x.neg, r0.1, r0.2⟩ : Wide) from hr.trans (by subst er0; unfold ref01_over; exact rfl)]
  exact of_run (ds := [.to [(1, .c (.i .u64 y)), (2, .c (.ptr (2, 1) 0 3 0)), (4, .c (.ptr (4, 1) 0 3 0)), (5, .c (.ptr (5, 1) 0 3 0)), (6, .c (.i .u64 0)), (7, .c (.i .i64 127))] [((2, 1), ⟨[[.b x.neg, .i .u64 x.hi, .i .u64 x.lo]], 3, 130, true, some 1⟩), ((4, 1), ⟨[[.b false, .i .u64 0, .i .u64 0]], 3, 130, true, some 1⟩), ((5, 1), ⟨[[.b x.neg, .i .u64 0, .i .u64 0]], 3, 130, true, some 1⟩)] 1 0 (.exit 0) (mkS [(4, .c (.ptr (4, 1) 0 3 0)), (5, .c (.ptr (5, 1) 0 3 0))] [((4, 1), ⟨[[.b false, .i .u64 0, .i .u64 0]], 3, 130, true, some 1⟩), ((5, 1), ⟨[[.b x.neg, .i .u64 r0.1, .i .u64 r0.2]], 3, 130, true, some 1⟩)] 1 0)]) (B := ((((.c (.i .u64 y) : AV) = .c (.i .u64 y) ∧ (.c (.ptr (2, 1) 0 3 0) : AV) = .c (.ptr (2, 1) 0 3 0) ∧ (.c (.ptr (4, 1) 0 3 0) : AV) = .c (.ptr (4, 1) 0 3 0) ∧ (.c (.ptr (5, 1) 0 3 0) : AV) = .c (.ptr (5, 1) 0 3 0) ∧ (.c (.i .u64 0) : AV) = .c (.i .u64 0) ∧ (.c (.i .i64 127) : AV) = .c (.i .i64 127) ∧ True) ∧ ((some ⟨[[.b x.neg, .i .u64 x.hi, .i .u64 x.lo]], 3, 130, true, some 1⟩ : Option Blk) = some ⟨[[.b x.neg, .i .u64 x.hi, .i .u64 x.lo]], 3, 130, true, some 1⟩ ∧ (some ⟨[[.b false, .i .u64 0, .i .u64 0]], 3, 130, true, some 1⟩ : Option Blk) = some ⟨[[.b false, .i .u64 0, .i .u64 0]], 3, 130, true, some 1⟩ ∧ (some ⟨[[.b x.neg, .i .u64 0, .i .u64 0]], 3, 130, true, some 1⟩ : Option Blk) = some ⟨[[.b x.neg, .i .u64 0, .i .u64 0]], 3, 130, true, some 1⟩ ∧ True) ∧ 0 = 0 ∧ (True) ∧ closL [(1, .c (.i .u64 y)), (2, .c (.ptr (2, 1) 0 3 0)), (4, .c (.ptr (4, 1) 0 3 0)), (5, .c (.ptr (5, 1) 0 3 0)), (6, .c (.i .u64 0)), (7, .c (.i .i64 127))] [((2, 1), ⟨[[.b x.neg, .i .u64 x.hi, .i .u64 x.lo]], 3, 130, true, some 1⟩), ((4, 1), ⟨[[.b false, .i .u64 0, .i .u64 0]], 3, 130, true, some 1⟩), ((5, 1), ⟨[[.b x.neg, .i .u64 0, .i .u64 0]], 3, 130, true, some 1⟩)] 1 0)) ∧ (LoopTo tab EQ Try.prog (loopAt Try.f138 0) (mkS [(1, .c (.i .u64 y)), (2, .c (.ptr (2, 1) 0 3 0)), (4, .c (.ptr (4, 1) 0 3 0)), (5, .c (.ptr (5, 1) 0 3 0)), (6, .c (.i .u64 0)), (7, .c (.i .i64 127))] [((2, 1), ⟨[[.b x.neg, .i .u64 x.hi, .i .u64 x.lo]], 3, 130, true, some 1⟩), ((4, 1), ⟨[[.b false, .i .u64 0, .i .u64 0]], 3, 130, true, some 1⟩), ((5, 1), ⟨[[.b x.neg, .i .u64 0, .i .u64 0]], 3, 130, true, some 1⟩)] 1 0) (.exit 0) (mkS [(4, .c (.ptr (4, 1) 0 3 0)), (5, .c (.ptr (5, 1) 0 3 0))] [((4, 1), ⟨[[.b false, .i .u64 0, .i .u64 0]], 3, 130, true, some 1⟩), ((5, 1), ⟨[[.b x.neg, .i .u64 r0.1, .i .u64 r0.2]], 3, 130, true, some 1⟩)] 1 0)) ∧ some (.agg [.b x.neg, .i .u64 r0.1, .i .u64 r0.2] : AV) = some (.agg [.b x.neg, .i .u64 r0.1, .i .u64 r0.2])) (by kernel_rfl) ⟨⟨⟨rfl, rfl, rfl, rfl, rfl, rfl, trivial⟩, ⟨rfl, rfl, rfl, trivial⟩, rfl, trivial, closL_mk (by kernel_rfl) ⟨⟨rows_lit (by kernel_rfl), by decide⟩, ⟨⟨rows_lit (by kernel_rfl), by decide⟩, ⟨⟨rows_lit (by kernel_rfl), by decide⟩, trivial⟩⟩⟩⟩, loopTo_x (loopTo_iter (s := (0, 0, 0, 127)) (r := r0) (ref01_over_L0_H x y) (ref01_over_L0_X x y) (ref01_over_L0_round x y) lr0) (rfl), rfl⟩

def ta_ref01_size (x : Int) : List AV := [.c (.i .i64 x)]

def tb_ref01_size (x : Int) : List (Nat × List (List Cell)) := []

def o_ref01_size (x : Int) (r : Int) : POfn := tplO (ta_ref01_size x) (tb_ref01_size x) (r = ref01_size x) (.c (.i .u64 r)) []

theorem ok_ref01_size (x : Int) (r : Int) : FOK Try.prog 139 (o_ref01_size x r) := by
  unfold o_ref01_size
  refine fok_plain (fn := Try.f139) (c := Try.f139.body.getD .skip) tabOK eqOK follows ⟨Try.func139, by kernel_rfl, by kernel_rfl, by kernel_rfl, Nat.le_of_ble_eq_true (by kernel_rfl)⟩ (by kernel_rfl) (fun q hq => by cases hq) ?_
  intro hr
  by_cases h0 : x < 0
  · skip
    rw [show r = IntKind.u64.wrap (IntKind.i64.wrap (0 - x)) from hr.trans (by unfold ref01_size; exact (if_pos h0).trans rfl)]
    exact of_run (ds := [.br true]) (B := (decide (x < 0) = true) ∧ some (.c (.i .u64 (IntKind.u64.wrap (IntKind.i64.wrap (0 - x)))) : AV) = some (.c (.i .u64 (IntKind.u64.wrap (IntKind.i64.wrap (0 - x)))))) (by kernel_rfl) ⟨decide_eq_true h0, rfl⟩
  · skip
    rw [show r = IntKind.u64.wrap x from hr.trans (by unfold ref01_size; exact (if_neg h0).trans rfl)]
    exact of_run (ds := [.br false]) (B := (decide (x < 0) = false) ∧ some (.c (.i .u64 (IntKind.u64.wrap x)) : AV) = some (.c (.i .u64 (IntKind.u64.wrap x)))) (by kernel_rfl) ⟨decide_eq_false h0, rfl⟩

def ta_fixed_exact_down (x : Exact) : List AV := [.agg [.b x.neg, .i .u64 x.w.w0, .i .u64 x.w.w1]]

def tb_fixed_exact_down (x : Exact) : List (Nat × List (List Cell)) := []

def o_fixed_exact_down (x : Exact) (r : Exact) : POfn := tplO (ta_fixed_exact_down x) (tb_fixed_exact_down x) (r = fixed_exact_down x) (.agg [.b r.neg, .i .u64 r.w.w0, .i .u64 r.w.w1]) []

theorem ok_fixed_exact_down (x : Exact) (r : Exact) : FOK Try.prog 143 (o_fixed_exact_down x r) := by
  unfold o_fixed_exact_down
  refine fok_plain (fn := Try.f143) (c := Try.f143.body.getD .skip) tabOK eqOK follows ⟨Try.func143, by kernel_rfl, by kernel_rfl, by kernel_rfl, Nat.le_of_ble_eq_true (by kernel_rfl)⟩ (by kernel_rfl) (fun q hq => by cases hq) ?_
  intro hr
  rw [show r = (⟨x.neg, ⟨Go.bits .or .u64 (IntKind.u64.wrap (x.w.w1 * 4294967296)) ((x.w.w0).fdiv 4294967296), (x.w.w1).fdiv 4294967296⟩⟩ : Exact) from hr.trans (by unfold fixed_exact_down; exact rfl)]
  exact of_run (ds := []) (B := ((0 : Int) ≤ 32) ∧ ((0 : Int) ≤ 32) ∧ ((0 : Int) ≤ 32) ∧ some (.agg [.b x.neg, .i .u64 (Go.bits .or .u64 (IntKind.u64.wrap (x.w.w1 * 4294967296)) ((x.w.w0).fdiv 4294967296)), .i .u64 ((x.w.w1).fdiv 4294967296)] : AV) = some (.agg [.b x.neg, .i .u64 (Go.bits .or .u64 (IntKind.u64.wrap (x.w.w1 * 4294967296)) ((x.w.w0).fdiv 4294967296)), .i .u64 ((x.w.w1).fdiv 4294967296)])) (by kernel_rfl) ⟨by decide, by decide, by decide, rfl⟩

def ta_ref01_down (x : Wide) : List AV := [.agg [.b x.neg, .i .u64 x.hi, .i .u64 x.lo]]

def tb_ref01_down (x : Wide) : List (Nat × List (List Cell)) := []

def o_ref01_down (x : Wide) (r : Wide) : POfn := tplO (ta_ref01_down x) (tb_ref01_down x) (r = ref01_down x) (.agg [.b r.neg, .i .u64 r.hi, .i .u64 r.lo]) []

theorem ok_ref01_down (x : Wide) (r : Wide) : FOK Try.prog 144 (o_ref01_down x r) := by
  unfold o_ref01_down
  refine fok_plain (fn := Try.f144) (c := Try.f144.body.getD .skip) tabOK eqOK follows ⟨Try.func144, by kernel_rfl, by kernel_rfl, by kernel_rfl, Nat.le_of_ble_eq_true (by kernel_rfl)⟩ (by kernel_rfl) (fun q hq => by cases hq) ?_
  intro hr
  rw [show r = (⟨x.neg, (x.hi).fdiv 4294967296, Go.bits .or .u64 (IntKind.u64.wrap (x.hi * 4294967296)) ((x.lo).fdiv 4294967296)⟩ : Wide) from hr.trans (by unfold ref01_down; exact rfl)]
  exact of_run (ds := []) (B := ((0 : Int) ≤ 32) ∧ ((0 : Int) ≤ 32) ∧ ((0 : Int) ≤ 32) ∧ some (.agg [.b x.neg, .i .u64 ((x.hi).fdiv 4294967296), .i .u64 (Go.bits .or .u64 (IntKind.u64.wrap (x.hi * 4294967296)) ((x.lo).fdiv 4294967296))] : AV) = some (.agg [.b x.neg, .i .u64 ((x.hi).fdiv 4294967296), .i .u64 (Go.bits .or .u64 (IntKind.u64.wrap (x.hi * 4294967296)) ((x.lo).fdiv 4294967296))])) (by kernel_rfl) ⟨by decide, by decide, by decide, rfl⟩

def ref01_flagged_L0_H (c0 : Option Nat) (x : (List Num)) (s : Int) : St := mkS [(0, .c (.slc (0, 0) 0 2 x.length (c0))), (2, .c (.b false)), (3, .c (.i .i64 s))] [((0, 0), ⟨rowsOf rNum x, 2, 0, false, none⟩)] 1 1

def ref01_flagged_L0_X (c0 : Option Nat) (x : (List Num)) (v : Nat × (Unit) × (Unit)) : Exit × St := if v.1 = 0 then (.ret, mkS [(2, .c (.b true))] [((0, 0), ⟨rowsOf rNum x, 2, 0, false, none⟩)] 1 1) else ((.exit 0), mkS [(2, .c (.b false))] [((0, 0), ⟨rowsOf rNum x, 2, 0, false, none⟩)] 1 1)

theorem ref01_flagged_L0_round (c0 : Option Nat) (x : (List Num)) : ∀ s : Int, RoundOK tab EQ Try.prog (loopAt Try.f148 0) (ref01_flagged_L0_step x) (ref01_flagged_L0_H c0 x) (ref01_flagged_L0_X c0 x) s := by
  intro s
  by_cases qh0 : s < ((x.length : Nat) : Int)
  · skip
    by_cases qn0 : ((0 : Int) ≤ s ∧ s < ((x.length : Nat) : Int))
    rotate_left
    · have hs : ref01_flagged_L0_step x s = none := by unfold ref01_flagged_L0_step; exact (if_pos qh0).trans ((if_neg qn0).trans rfl)
      exact round_none hs
    obtain ⟨qr0, eqr0⟩ : ∃ q, q = ref01_whole (nth x s) := ⟨_, rfl⟩
    by_cases qh1 : qr0.2 = true
    · skip
      have hs : ref01_flagged_L0_step x s = some (.inr (0, (), default)) := by subst eqr0; unfold ref01_flagged_L0_step; exact (if_pos qh0).trans ((if_pos qn0).trans ((if_pos qh1).trans rfl))
      exact round_inr hs (e := .ret) rfl (by intro h; cases h) (stepR (ds := [.br true, .row [.i .i64 ((nth x s).V), .b ((nth x s).F)], .use (o_ref01_whole (nth x s) qr0), .br true]) (B := (decide (s < ((x.length : Nat) : Int)) = true) ∧ (((0 : Int) ≤ s ∧ s < ((x.length : Nat) : Int))) ∧ (0 + (s).toNat < (rowsOf rNum x).length) ∧ ((rowsOf rNum x)[0 + (s).toNat]? = some [.i .i64 ((nth x s).V), .b ((nth x s).F)]) ∧ (FOK Try.prog 127 (o_ref01_whole (nth x s) qr0)) ∧ (tplP (ta_ref01_whole (nth x s)) (tb_ref01_whole (nth x s)) (qr0 = ref01_whole (nth x s)) [.agg [.i .i64 ((nth x s).V), .b ((nth x s).F)]] []) ∧ (qr0.2 = true) ∧ (((.c (.b true) : AV) = .c (.b true) ∧ True) ∧ ((some ⟨rowsOf rNum x, 2, 0, false, none⟩ : Option Blk) = some ⟨rowsOf rNum x, 2, 0, false, none⟩ ∧ True) ∧ 1 = 1 ∧ ((some ⟨rowsOf rNum x, 2, 0, false, none⟩ : Option Blk) = some ⟨rowsOf rNum x, 2, 0, false, none⟩ ∧ True) ∧ closL [(2, .c (.b true))] [((0, 0), ⟨rowsOf rNum x, 2, 0, false, none⟩)] 1 1)) (by kernel_rfl) ⟨decide_eq_true qh0, qn0, rows_lt (A := rNum) rfl qn0, rows_nth (A := rNum) (l := x) rfl qn0, ok_ref01_whole (nth x s) qr0, ⟨rfl, rfl, eqr0⟩, qh1, ⟨⟨rfl, trivial⟩, ⟨rfl, trivial⟩, rfl, ⟨rfl, trivial⟩, closL_mk (by kernel_rfl) ⟨⟨rows_okAll (A := rNum) rfl _, by decide⟩, trivial⟩⟩⟩)
    · skip
      have hs : ref01_flagged_L0_step x s = some (.inl (IntKind.i64.wrap (s + 1))) := by subst eqr0; unfold ref01_flagged_L0_step; exact (if_pos qh0).trans ((if_pos qn0).trans ((if_neg qh1).trans rfl))
      exact round_inl hs (stepN (ds := [.br true, .row [.i .i64 ((nth x s).V), .b ((nth x s).F)], .use (o_ref01_whole (nth x s) qr0), .br false]) (B := (decide (s < ((x.length : Nat) : Int)) = true) ∧ (((0 : Int) ≤ s ∧ s < ((x.length : Nat) : Int))) ∧ (0 + (s).toNat < (rowsOf rNum x).length) ∧ ((rowsOf rNum x)[0 + (s).toNat]? = some [.i .i64 ((nth x s).V), .b ((nth x s).F)]) ∧ (FOK Try.prog 127 (o_ref01_whole (nth x s) qr0)) ∧ (tplP (ta_ref01_whole (nth x s)) (tb_ref01_whole (nth x s)) (qr0 = ref01_whole (nth x s)) [.agg [.i .i64 ((nth x s).V), .b ((nth x s).F)]] []) ∧ (qr0.2 = false) ∧ (((.c (.slc (0, 0) 0 2 x.length (c0)) : AV) = .c (.slc (0, 0) 0 2 x.length (c0)) ∧ (.c (.b false) : AV) = .c (.b false) ∧ (.c (.i .i64 (IntKind.i64.wrap (s + 1))) : AV) = .c (.i .i64 (IntKind.i64.wrap (s + 1))) ∧ True) ∧ ((some ⟨rowsOf rNum x, 2, 0, false, none⟩ : Option Blk) = some ⟨rowsOf rNum x, 2, 0, false, none⟩ ∧ True) ∧ 1 = 1 ∧ ((some ⟨rowsOf rNum x, 2, 0, false, none⟩ : Option Blk) = some ⟨rowsOf rNum x, 2, 0, false, none⟩ ∧ True) ∧ closL [(0, .c (.slc (0, 0) 0 2 x.length (c0))), (2, .c (.b false)), (3, .c (.i .i64 (IntKind.i64.wrap (s + 1))))] [((0, 0), ⟨rowsOf rNum x, 2, 0, false, none⟩)] 1 1)) (by kernel_rfl) ⟨decide_eq_true qh0, qn0, rows_lt (A := rNum) rfl qn0, rows_nth (A := rNum) (l := x) rfl qn0, ok_ref01_whole (nth x s) qr0, ⟨rfl, rfl, eqr0⟩, Bool.eq_false_iff.2 qh1, ⟨⟨rfl, rfl, rfl, trivial⟩, ⟨rfl, trivial⟩, rfl, ⟨rfl, trivial⟩, closL_mk (by kernel_rfl) ⟨⟨rows_okAll (A := rNum) rfl _, by decide⟩, trivial⟩⟩⟩)
  · skip
    have hs : ref01_flagged_L0_step x s = some (.inr (1, default, ())) := by unfold ref01_flagged_L0_step; exact (if_neg qh0).trans rfl
    exact round_inr hs (e := (.exit 0)) rfl (by intro h; cases h) (stepX (id := 0) (ds := [.br false]) (B := (decide (s < ((x.length : Nat) : Int)) = false) ∧ (((.c (.b false) : AV) = .c (.b false) ∧ True) ∧ ((some ⟨rowsOf rNum x, 2, 0, false, none⟩ : Option Blk) = some ⟨rowsOf rNum x, 2, 0, false, none⟩ ∧ True) ∧ 1 = 1 ∧ ((some ⟨rowsOf rNum x, 2, 0, false, none⟩ : Option Blk) = some ⟨rowsOf rNum x, 2, 0, false, none⟩ ∧ True) ∧ closL [(2, .c (.b false))] [((0, 0), ⟨rowsOf rNum x, 2, 0, false, none⟩)] 1 1)) (by kernel_rfl) ⟨decide_eq_false qh0, ⟨⟨rfl, trivial⟩, ⟨rfl, trivial⟩, rfl, ⟨rfl, trivial⟩, closL_mk (by kernel_rfl) ⟨⟨rows_okAll (A := rNum) rfl _, by decide⟩, trivial⟩⟩⟩)

def ta_ref01_flagged (x : (List Num)) (c0 : Option Nat) : List AV := [.c (.slc (0, 0) 0 2 x.length (c0))]

def tb_ref01_flagged (x : (List Num)) : List (Nat × List (List Cell)) := [(2, rowsOf rNum x)]

def o_ref01_flagged (x : (List Num)) (c0 : Option Nat) (r : Bool) : POfn := tplO (ta_ref01_flagged x c0) (tb_ref01_flagged x) (P_ref01_flagged x ∧ r = ref01_flagged x) (.c (.b r)) []

theorem ok_ref01_flagged (x : (List Num)) (c0 : Option Nat) (r : Bool) : FOK Try.prog 148 (o_ref01_flagged x c0 r) := by
  unfold o_ref01_flagged
  refine fok_plain (fn := Try.f148) (c := Try.f148.body.getD .skip) tabOK eqOK follows ⟨Try.func148, by kernel_rfl, by kernel_rfl, by kernel_rfl, Nat.le_of_ble_eq_true (by kernel_rfl)⟩ (by kernel_rfl) (by intro q hq; simp only [tb_ref01_flagged, List.mem_cons, List.not_mem_nil, or_false] at hq; rcases hq with rfl <;> exact rowsOf_plain _ _) ?_
  rintro ⟨hp, hr⟩
  have n0 : (iterO (ref01_flagged_L0_step x) NN 0).isSome = true := by exact (hp).1
  obtain ⟨r0, lr0⟩ := Option.isSome_iff_exists.1 n0
  have er0 : r0 = (iterO (ref01_flagged_L0_step x) NN 0).getD default := by rw [lr0]; rfl
  by_cases h0 : r0.1 = 0
  · skip
    rw [show r = true from hr.trans (by subst er0; unfold ref01_flagged; exact (if_pos h0).trans rfl)]
    exact of_run (ds := [.to [(0, .c (.slc (0, 0) 0 2 x.length (c0))), (2, .c (.b false)), (3, .c (.i .i64 0))] [((0, 0), ⟨rowsOf rNum x, 2, 0, false, none⟩)] 1 1 .ret (mkS [(2, .c (.b true))] [((0, 0), ⟨rowsOf rNum x, 2, 0, false, none⟩)] 1 1)]) (B := ((((.c (.slc (0, 0) 0 2 x.length (c0)) : AV) = .c (.slc (0, 0) 0 2 x.length (c0)) ∧ (.c (.b false) : AV) = .c (.b false) ∧ (.c (.i .i64 0) : AV) = .c (.i .i64 0) ∧ True) ∧ ((some ⟨rowsOf rNum x, 2, 0, false, none⟩ : Option Blk) = some ⟨rowsOf rNum x, 2, 0, false, none⟩ ∧ True) ∧ 1 = 1 ∧ ((some ⟨rowsOf rNum x, 2, 0, false, none⟩ : Option Blk) = some ⟨rowsOf rNum x, 2, 0, false, none⟩ ∧ True) ∧ closL [(0, .c (.slc (0, 0) 0 2 x.length (c0))), (2, .c (.b false)), (3, .c (.i .i64 0))] [((0, 0), ⟨rowsOf rNum x, 2, 0, false, none⟩)] 1 1)) ∧ (LoopTo tab EQ Try.prog (loopAt Try.f148 0) (mkS [(0, .c (.slc (0, 0) 0 2 x.length (c0))), (2, .c (.b false)), (3, .c (.i .i64 0))] [((0, 0), ⟨rowsOf rNum x, 2, 0, false, none⟩)] 1 1) .ret (mkS [(2, .c (.b true))] [((0, 0), ⟨rowsOf rNum x, 2, 0, false, none⟩)] 1 1)) ∧ some (.c (.b true) : AV) = some (.c (.b true))) (by kernel_rfl) ⟨⟨⟨rfl, rfl, rfl, trivial⟩, ⟨rfl, trivial⟩, rfl, ⟨rfl, trivial⟩, closL_mk (by kernel_rfl) ⟨⟨rows_okAll (A := rNum) rfl _, by decide⟩, trivial⟩⟩, loopTo_x (loopTo_iter (s := 0) (r := r0) (ref01_flagged_L0_H c0 x) (ref01_flagged_L0_X c0 x) (ref01_flagged_L0_round c0 x) lr0) ((if_pos h0).trans rfl), rfl⟩
  · skip
    rw [show r = false from hr.trans (by subst er0; unfold ref01_flagged; exact (if_neg h0).trans rfl)]
    exact of_run (ds := [.to [(0, .c (.slc (0, 0) 0 2 x.length (c0))), (2, .c (.b false)), (3, .c (.i .i64 0))] [((0, 0), ⟨rowsOf rNum x, 2, 0, false, none⟩)] 1 1 (.exit 0) (mkS [(2, .c (.b false))] [((0, 0), ⟨rowsOf rNum x, 2, 0, false, none⟩)] 1 1)]) (B := ((((.c (.slc (0, 0) 0 2 x.length (c0)) : AV) = .c (.slc (0, 0) 0 2 x.length (c0)) ∧ (.c (.b false) : AV) = .c (.b false) ∧ (.c (.i .i64 0) : AV) = .c (.i .i64 0) ∧ True) ∧ ((some ⟨rowsOf rNum x, 2, 0, false, none⟩ : Option Blk) = some ⟨rowsOf rNum x, 2, 0, false, none⟩ ∧ True) ∧ 1 = 1 ∧ ((some ⟨rowsOf rNum x, 2, 0, false, none⟩ : Option Blk) = some ⟨rowsOf rNum x, 2, 0, false, none⟩ ∧ True) ∧ closL [(0, .c (.slc (0, 0) 0 2 x.length (c0))), (2, .c (.b false)), (3, .c (.i .i64 0))] [((0, 0), ⟨rowsOf rNum x, 2, 0, false, none⟩)] 1 1)) ∧ (LoopTo tab EQ Try.prog (loopAt Try.f148 0) (mkS [(0, .c (.slc (0, 0) 0 2 x.length (c0))), (2, .c (.b false)), (3, .c (.i .i64 0))] [((0, 0), ⟨rowsOf rNum x, 2, 0, false, none⟩)] 1 1) (.exit 0) (mkS [(2, .c (.b false))] [((0, 0), ⟨rowsOf rNum x, 2, 0, false, none⟩)] 1 1)) ∧ some (.c (.b false) : AV) = some (.c (.b false))) (by kernel_rfl) ⟨⟨⟨rfl, rfl, rfl, trivial⟩, ⟨rfl, trivial⟩, rfl, ⟨rfl, trivial⟩, closL_mk (by kernel_rfl) ⟨⟨rows_okAll (A := rNum) rfl _, by decide⟩, trivial⟩⟩, loopTo_x (loopTo_iter (s := 0) (r := r0) (ref01_flagged_L0_H c0 x) (ref01_flagged_L0_X c0 x) (ref01_flagged_L0_round c0 x) lr0) ((if_neg h0).trans rfl), rfl⟩

def ta_plane_spot_minus (x : Spot) (y : Spot) : List AV := [.agg [.i .i64 x.X, .i .i64 x.Y], .agg [.i .i64 y.X, .i .i64 y.Y]]

def tb_plane_spot_minus (x : Spot) (y : Spot) : List (Nat × List (List Cell)) := []

def o_plane_spot_minus (x : Spot) (y : Spot) (r : Spot) : POfn := tplO (ta_plane_spot_minus x y) (tb_plane_spot_minus x y) (r = plane_spot_minus x y) (.agg [.i .i64 r.X, .i .i64 r.Y]) []

theorem ok_plane_spot_minus (x : Spot) (y : Spot) (r : Spot) : FOK Try.prog 151 (o_plane_spot_minus x y r) := by
  unfold o_plane_spot_minus
  refine fok_plain (fn := Try.f151) (c := Try.f151.body.getD .skip) tabOK eqOK follows ⟨Try.func151, by kernel_rfl, by kernel_rfl, by kernel_rfl, Nat.le_of_ble_eq_true (by kernel_rfl)⟩ (by kernel_rfl) (fun q hq => by cases hq) ?_
  intro hr
  rw [show r = (⟨IntKind.i64.wrap (x.X - y.X), IntKind.i64.wrap (x.Y - y.Y)⟩ : Spot) from hr.trans (by unfold plane_spot_minus; exact rfl)]
  exact of_run (ds := []) (B := some (.agg [.i .i64 (IntKind.i64.wrap (x.X - y.X)), .i .i64 (IntKind.i64.wrap (x.Y - y.Y))] : AV) = some (.agg [.i .i64 (IntKind.i64.wrap (x.X - y.X)), .i .i64 (IntKind.i64.wrap (x.Y - y.Y))])) (by kernel_rfl) rfl

def ta_plane_spot_span (x : Spot) : List AV := [.agg [.i .i64 x.X, .i .i64 x.Y]]

def tb_plane_spot_span (x : Spot) : List (Nat × List (List Cell)) := []

def o_plane_spot_span (x : Spot) (r : Int) : POfn := tplO (ta_plane_spot_span x) (tb_plane_spot_span x) (r = plane_spot_span x) (.c (.i .i64 r)) []

theorem ok_plane_spot_span (x : Spot) (r : Int) : FOK Try.prog 152 (o_plane_spot_span x r) := by
  unfold o_plane_spot_span
  refine fok_plain (fn := Try.f152) (c := Try.f152.body.getD .skip) tabOK eqOK follows ⟨Try.func152, by kernel_rfl, by kernel_rfl, by kernel_rfl, Nat.le_of_ble_eq_true (by kernel_rfl)⟩ (by kernel_rfl) (fun q hq => by cases hq) ?_
  intro hr
  rw [show r = IntKind.i64.wrap (max x.X (IntKind.i64.wrap (0 - x.X)) + max x.Y (IntKind.i64.wrap (0 - x.Y))) from hr.trans (by unfold plane_spot_span; exact rfl)]
  exact of_run (ds := []) (B := some (.c (.i .i64 (IntKind.i64.wrap (max x.X (IntKind.i64.wrap (0 - x.X)) + max x.Y (IntKind.i64.wrap (0 - x.Y))))) : AV) = some (.c (.i .i64 (IntKind.i64.wrap (max x.X (IntKind.i64.wrap (0 - x.X)) + max x.Y (IntKind.i64.wrap (0 - x.Y))))))) (by kernel_rfl) rfl

def ta_cmp_isNaN_int64 (x : Int) : List AV := [.c (.i .i64 x)]

def tb_cmp_isNaN_int64 (x : Int) : List (Nat × List (List Cell)) := []

def o_cmp_isNaN_int64 (x : Int) (r : Bool) : POfn := tplO (ta_cmp_isNaN_int64 x) (tb_cmp_isNaN_int64 x) (r = cmp_isNaN_int64 x) (.c (.b r)) []

theorem ok_cmp_isNaN_int64 (x : Int) (r : Bool) : FOK Try.prog 158 (o_cmp_isNaN_int64 x r) := by
  unfold o_cmp_isNaN_int64
  refine fok_plain (fn := Try.f158) (c := Try.f158.body.getD .skip) tabOK eqOK follows ⟨Try.func158, by kernel_rfl, by kernel_rfl, by kernel_rfl, Nat.le_of_ble_eq_true (by kernel_rfl)⟩ (by kernel_rfl) (fun q hq => by cases hq) ?_
  intro hr
  rw [show r = (!(x == x)) from hr.trans (by unfold cmp_isNaN_int64; exact rfl)]
  exact of_run (ds := []) (B := some (.c (.b (!(x == x))) : AV) = some (.c (.b (!(x == x))))) (by kernel_rfl) rfl

def ta_bits_Mul64 (x : Int) (y : Int) : List AV := [.c (.i .u64 x), .c (.i .u64 y)]

def tb_bits_Mul64 (x : Int) (y : Int) : List (Nat × List (List Cell)) := []

def o_bits_Mul64 (x : Int) (y : Int) (r : (Int × Int)) : POfn := tplO (ta_bits_Mul64 x y) (tb_bits_Mul64 x y) (r = bits_Mul64 x y) (.t2 (.c (.i .u64 r.1)) (.c (.i .u64 r.2))) []

theorem ok_bits_Mul64 (x : Int) (y : Int) (r : (Int × Int)) : FOK Try.prog 160 (o_bits_Mul64 x y r) := by
  unfold o_bits_Mul64
  refine fok_plain (fn := Try.f160) (c := Try.f160.body.getD .skip) tabOK eqOK follows ⟨Try.func160, by kernel_rfl, by kernel_rfl, by kernel_rfl, Nat.le_of_ble_eq_true (by kernel_rfl)⟩ (by kernel_rfl) (fun q hq => by cases hq) ?_
  intro hr
  rw [show r = ((IntKind.u64.wrap (IntKind.u64.wrap (IntKind.u64.wrap ((x).fdiv 4294967296 * (y).fdiv 4294967296) + (IntKind.u64.wrap (IntKind.u64.wrap ((x).fdiv 4294967296 * Go.bits .and .u64 y 4294967295) + (IntKind.u64.wrap (Go.bits .and .u64 x 4294967295 * Go.bits .and .u64 y 4294967295)).fdiv 4294967296)).fdiv 4294967296) + (IntKind.u64.wrap (Go.bits .and .u64 (IntKind.u64.wrap (IntKind.u64.wrap ((x).fdiv 4294967296 * Go.bits .and .u64 y 4294967295) + (IntKind.u64.wrap (Go.bits .and .u64 x 4294967295 * Go.bits .and .u64 y 4294967295)).fdiv 4294967296)) 4294967295 + IntKind.u64.wrap (Go.bits .and .u64 x 4294967295 * (y).fdiv 4294967296))).fdiv 4294967296)), (IntKind.u64.wrap (x * y))) from hr.trans (by unfold bits_Mul64; exact rfl)]
  exact of_run (ds := []) (B := ((0 : Int) ≤ 32) ∧ ((0 : Int) ≤ 32) ∧ ((0 : Int) ≤ 32) ∧ ((0 : Int) ≤ 32) ∧ ((0 : Int) ≤ 32) ∧ some (.t2 (.c (.i .u64 (IntKind.u64.wrap (IntKind.u64.wrap (IntKind.u64.wrap ((x).fdiv 4294967296 * (y).fdiv 4294967296) + (IntKind.u64.wrap (IntKind.u64.wrap ((x).fdiv 4294967296 * Go.bits .and .u64 y 4294967295) + (IntKind.u64.wrap (Go.bits .and .u64 x 4294967295 * Go.bits .and .u64 y 4294967295)).fdiv 4294967296)).fdiv 4294967296) + (IntKind.u64.wrap (Go.bits .and .u64 (IntKind.u64.wrap (IntKind.u64.wrap ((x).fdiv 4294967296 * Go.bits .and .u64 y 4294967295) + (IntKind.u64.wrap (Go.bits .and .u64 x 4294967295 * Go.bits .and .u64 y 4294967295)).fdiv 4294967296)) 4294967295 + IntKind.u64.wrap (Go.bits .and .u64 x 4294967295 * (y).fdiv 4294967296))).fdiv 4294967296)))) (.c (.i .u64 (IntKind.u64.wrap (x * y)))) : AV) = some (.t2 (.c (.i .u64 (IntKind.u64.wrap (IntKind.u64.wrap (IntKind.u64.wrap ((x).fdiv 4294967296 * (y).fdiv 4294967296) + (IntKind.u64.wrap (IntKind.u64.wrap ((x).fdiv 4294967296 * Go.bits .and .u64 y 4294967295) + (IntKind.u64.wrap (Go.bits .and .u64 x 4294967295 * Go.bits .and .u64 y 4294967295)).fdiv 4294967296)).fdiv 4294967296) + (IntKind.u64.wrap (Go.bits .and .u64 (IntKind.u64.wrap (IntKind.u64.wrap ((x).fdiv 4294967296 * Go.bits .and .u64 y 4294967295) + (IntKind.u64.wrap (Go.bits .and .u64 x 4294967295 * Go.bits .and .u64 y 4294967295)).fdiv 4294967296)) 4294967295 + IntKind.u64.wrap (Go.bits .and .u64 x 4294967295 * (y).fdiv 4294967296))).fdiv 4294967296)))) (.c (.i .u64 (IntKind.u64.wrap (x * y)))))) (by kernel_rfl) ⟨by decide, by decide, by decide, by decide, by decide, rfl⟩

def ta_bits_Len64 (x : Int) : List AV := [.c (.i .u64 x)]

def tb_bits_Len64 (x : Int) : List (Nat × List (List Cell)) := []

def o_bits_Len64 (x : Int) (r : Int) : POfn := tplO (ta_bits_Len64 x) (tb_bits_Len64 x) (r = bits_Len64 x) (.c (.i .i64 r)) []

theorem ok_bits_Len64 (x : Int) (r : Int) : FOK Try.prog 164 (o_bits_Len64 x r) := by
  unfold o_bits_Len64
  refine fok_plain (fn := Try.f164) (c := Try.f164.body.getD .skip) tabOK eqOK follows ⟨Try.func164, by kernel_rfl, by kernel_rfl, by kernel_rfl, Nat.le_of_ble_eq_true (by kernel_rfl)⟩ (by kernel_rfl) (fun q hq => by cases hq) ?_
  intro hr
  by_cases h0 : x ≥ 4294967296
  · skip
    by_cases h1 : (x).fdiv 4294967296 ≥ 65536
    · skip
      by_cases h2 : ((x).fdiv 4294967296).fdiv 65536 ≥ 256
      · skip
        rw [show r = IntKind.i64.wrap (56 + IntKind.i64.wrap (len8 (IntKind.u8.wrap ((((x).fdiv 4294967296).fdiv 65536).fdiv 256)))) from hr.trans (by unfold bits_Len64; exact (if_pos h0).trans ((if_pos h1).trans ((if_pos h2).trans rfl)))]
        exact of_run (ds := [.br true, .br true, .br true, .row [.i .u8 (len8 (IntKind.u8.wrap ((((x).fdiv 4294967296).fdiv 65536).fdiv 256)))]]) (B := (decide (x ≥ 4294967296) = true) ∧ ((0 : Int) ≤ 32) ∧ (decide ((x).fdiv 4294967296 ≥ 65536) = true) ∧ ((0 : Int) ≤ 16) ∧ (decide (((x).fdiv 4294967296).fdiv 65536 ≥ 256) = true) ∧ ((0 : Int) ≤ 8) ∧ (strAt len8S (IntKind.u8.wrap ((((x).fdiv 4294967296).fdiv 65536).fdiv 256)) = some (len8 (IntKind.u8.wrap ((((x).fdiv 4294967296).fdiv 65536).fdiv 256)))) ∧ some (.c (.i .i64 (IntKind.i64.wrap (56 + IntKind.i64.wrap (len8 (IntKind.u8.wrap ((((x).fdiv 4294967296).fdiv 65536).fdiv 256)))))) : AV) = some (.c (.i .i64 (IntKind.i64.wrap (56 + IntKind.i64.wrap (len8 (IntKind.u8.wrap ((((x).fdiv 4294967296).fdiv 65536).fdiv 256)))))))) (by kernel_rfl) ⟨decide_eq_true h0, by decide, decide_eq_true h1, by decide, decide_eq_true h2, by decide, len8_at _, rfl⟩
      · skip
        rw [show r = IntKind.i64.wrap (48 + IntKind.i64.wrap (len8 (IntKind.u8.wrap (((x).fdiv 4294967296).fdiv 65536)))) from hr.trans (by unfold bits_Len64; exact (if_pos h0).trans ((if_pos h1).trans ((if_neg h2).trans rfl)))]
        exact of_run (ds := [.br true, .br true, .br false, .row [.i .u8 (len8 (IntKind.u8.wrap (((x).fdiv 4294967296).fdiv 65536)))]]) (B := (decide (x ≥ 4294967296) = true) ∧ ((0 : Int) ≤ 32) ∧ (decide ((x).fdiv 4294967296 ≥ 65536) = true) ∧ ((0 : Int) ≤ 16) ∧ (decide (((x).fdiv 4294967296).fdiv 65536 ≥ 256) = false) ∧ (strAt len8S (IntKind.u8.wrap (((x).fdiv 4294967296).fdiv 65536)) = some (len8 (IntKind.u8.wrap (((x).fdiv 4294967296).fdiv 65536)))) ∧ some (.c (.i .i64 (IntKind.i64.wrap (48 + IntKind.i64.wrap (len8 (IntKind.u8.wrap (((x).fdiv 4294967296).fdiv 65536)))))) : AV) = some (.c (.i .i64 (IntKind.i64.wrap (48 + IntKind.i64.wrap (len8 (IntKind.u8.wrap (((x).fdiv 4294967296).fdiv 65536)))))))) (by kernel_rfl) ⟨decide_eq_true h0, by decide, decide_eq_true h1, by decide, decide_eq_false h2, len8_at _, rfl⟩
    · skip
      by_cases h2 : (x).fdiv 4294967296 ≥ 256
      · skip
        rw [show r = IntKind.i64.wrap (40 + IntKind.i64.wrap (len8 (IntKind.u8.wrap (((x).fdiv 4294967296).fdiv 256)))) from hr.trans (by unfold bits_Len64; exact (if_pos h0).trans ((if_neg h1).trans ((if_pos h2).trans rfl)))]
        exact of_run (ds := [.br true, .br false, .br true, .row [.i .u8 (len8 (IntKind.u8.wrap (((x).fdiv 4294967296).fdiv 256)))]]) (B := (decide (x ≥ 4294967296) = true) ∧ ((0 : Int) ≤ 32) ∧ (decide ((x).fdiv 4294967296 ≥ 65536) = false) ∧ (decide ((x).fdiv 4294967296 ≥ 256) = true) ∧ ((0 : Int) ≤ 8) ∧ (strAt len8S (IntKind.u8.wrap (((x).fdiv 4294967296).fdiv 256)) = some (len8 (IntKind.u8.wrap (((x).fdiv 4294967296).fdiv 256)))) ∧ some (.c (.i .i64 (IntKind.i64.wrap (40 + IntKind.i64.wrap (len8 (IntKind.u8.wrap (((x).fdiv 4294967296).fdiv 256)))))) : AV) = some (.c (.i .i64 (IntKind.i64.wrap (40 + IntKind.i64.wrap (len8 (IntKind.u8.wrap (((x).fdiv 4294967296).fdiv 256)))))))) (by kernel_rfl) ⟨decide_eq_true h0, by decide, decide_eq_false h1, decide_eq_true h2, by decide, len8_at _, rfl⟩
      · skip
        rw [show r = IntKind.i64.wrap (32 + IntKind.i64.wrap (len8 (IntKind.u8.wrap ((x).fdiv 4294967296)))) from hr.trans (by unfold bits_Len64; exact (if_pos h0).trans ((if_neg h1).trans ((if_neg h2).trans rfl)))]
        exact of_run (ds := [.br true, .br false, .br false, .row [.i .u8 (len8 (IntKind.u8.wrap ((x).fdiv 4294967296)))]]) (B := (decide (x ≥ 4294967296) = true) ∧ ((0 : Int) ≤ 32) ∧ (decide ((x).fdiv 4294967296 ≥ 65536) = false) ∧ (decide ((x).fdiv 4294967296 ≥ 256) = false) ∧ (strAt len8S (IntKind.u8.wrap ((x).fdiv 4294967296)) = some (len8 (IntKind.u8.wrap ((x).fdiv 4294967296)))) ∧ some (.c (.i .i64 (IntKind.i64.wrap (32 + IntKind.i64.wrap (len8 (IntKind.u8.wrap ((x).fdiv 4294967296)))))) : AV) = some (.c (.i .i64 (IntKind.i64.wrap (32 + IntKind.i64.wrap (len8 (IntKind.u8.wrap ((x).fdiv 4294967296)))))))) (by kernel_rfl) ⟨decide_eq_true h0, by decide, decide_eq_false h1, decide_eq_false h2, len8_at _, rfl⟩
  · skip
    by_cases h1 : x ≥ 65536
    · skip
      by_cases h2 : (x).fdiv 65536 ≥ 256
      · skip
        rw [show r = IntKind.i64.wrap (24 + IntKind.i64.wrap (len8 (IntKind.u8.wrap (((x).fdiv 65536).fdiv 256)))) from hr.trans (by unfold bits_Len64; exact (if_neg h0).trans ((if_pos h1).trans ((if_pos h2).trans rfl)))]
        exact of_run (ds := [.br false, .br true, .br true, .row [.i .u8 (len8 (IntKind.u8.wrap (((x).fdiv 65536).fdiv 256)))]]) (B := (decide (x ≥ 4294967296) = false) ∧ (decide (x ≥ 65536) = true) ∧ ((0 : Int) ≤ 16) ∧ (decide ((x).fdiv 65536 ≥ 256) = true) ∧ ((0 : Int) ≤ 8) ∧ (strAt len8S (IntKind.u8.wrap (((x).fdiv 65536).fdiv 256)) = some (len8 (IntKind.u8.wrap (((x).fdiv 65536).fdiv 256)))) ∧ some (.c (.i .i64 (IntKind.i64.wrap (24 + IntKind.i64.wrap (len8 (IntKind.u8.wrap (((x).fdiv 65536).fdiv 256)))))) : AV) = some (.c (.i .i64 (IntKind.i64.wrap (24 + IntKind.i64.wrap (len8 (IntKind.u8.wrap (((x).fdiv 65536).fdiv 256)))))))) (by kernel_rfl) ⟨decide_eq_false h0, decide_eq_true h1, by decide, decide_eq_true h2, by decide, len8_at _, rfl⟩
      · skip
        rw [show r = IntKind.i64.wrap (16 + IntKind.i64.wrap (len8 (IntKind.u8.wrap ((x).fdiv 65536)))) from hr.trans (by unfold bits_Len64; exact (if_neg h0).trans ((if_pos h1).trans ((if_neg h2).trans rfl)))]
        exact of_run (ds := [.br false, .br true, .br false, .row [.i .u8 (len8 (IntKind.u8.wrap ((x).fdiv 65536)))]]) (B := (decide (x ≥ 4294967296) = false) ∧ (decide (x ≥ 65536) = true) ∧ ((0 : Int) ≤ 16) ∧ (decide ((x).fdiv 65536 ≥ 256) = false) ∧ (strAt len8S (IntKind.u8.wrap ((x).fdiv 65536)) = some (len8 (IntKind.u8.wrap ((x).fdiv 65536)))) ∧ some (.c (.i .i64 (IntKind.i64.wrap (16 + IntKind.i64.wrap (len8 (IntKind.u8.wrap ((x).fdiv 65536)))))) : AV) = some (.c (.i .i64 (IntKind.i64.wrap (16 + IntKind.i64.wrap (len8 (IntKind.u8.wrap ((x).fdiv 65536)))))))) (by kernel_rfl) ⟨decide_eq_false h0, decide_eq_true h1, by decide, decide_eq_false h2, len8_at _, rfl⟩
    · skip
      by_cases h2 : x ≥ 256
      · skip
        rw [show r = IntKind.i64.wrap (8 + IntKind.i64.wrap (len8 (IntKind.u8.wrap ((x).fdiv 256)))) from hr.trans (by unfold bits_Len64; exact (if_neg h0).trans ((if_neg h1).trans ((if_pos h2).trans rfl)))]
        exact of_run (ds := [.br false, .br false, .br true, .row [.i .u8 (len8 (IntKind.u8.wrap ((x).fdiv 256)))]]) (B := (decide (x ≥ 4294967296) = false) ∧ (decide (x ≥ 65536) = false) ∧ (decide (x ≥ 256) = true) ∧ ((0 : Int) ≤ 8) ∧ (strAt len8S (IntKind.u8.wrap ((x).fdiv 256)) = some (len8 (IntKind.u8.wrap ((x).fdiv 256)))) ∧ some (.c (.i .i64 (IntKind.i64.wrap (8 + IntKind.i64.wrap (len8 (IntKind.u8.wrap ((x).fdiv 256)))))) : AV) = some (.c (.i .i64 (IntKind.i64.wrap (8 + IntKind.i64.wrap (len8 (IntKind.u8.wrap ((x).fdiv 256)))))))) (by kernel_rfl) ⟨decide_eq_false h0, decide_eq_false h1, decide_eq_true h2, by decide, len8_at _, rfl⟩
      · skip
        rw [show r = IntKind.i64.wrap (0 + IntKind.i64.wrap (len8 (IntKind.u8.wrap x))) from hr.trans (by unfold bits_Len64; exact (if_neg h0).trans ((if_neg h1).trans ((if_neg h2).trans rfl)))]
        exact of_run (ds := [.br false, .br false, .br false, .row [.i .u8 (len8 (IntKind.u8.wrap x))]]) (B := (decide (x ≥ 4294967296) = false) ∧ (decide (x ≥ 65536) = false) ∧ (decide (x ≥ 256) = false) ∧ (strAt len8S (IntKind.u8.wrap x) = some (len8 (IntKind.u8.wrap x))) ∧ some (.c (.i .i64 (IntKind.i64.wrap (0 + IntKind.i64.wrap (len8 (IntKind.u8.wrap x))))) : AV) = some (.c (.i .i64 (IntKind.i64.wrap (0 + IntKind.i64.wrap (len8 (IntKind.u8.wrap x))))))) (by kernel_rfl) ⟨decide_eq_false h0, decide_eq_false h1, decide_eq_false h2, len8_at _, rfl⟩

def ta_ref01_less (x : Wide) (y : Wide) : List AV := [.agg [.b x.neg, .i .u64 x.hi, .i .u64 x.lo], .agg [.b y.neg, .i .u64 y.hi, .i .u64 y.lo]]

def tb_ref01_less (x : Wide) (y : Wide) : List (Nat × List (List Cell)) := []

def o_ref01_less (x : Wide) (y : Wide) (r : Bool) : POfn := tplO (ta_ref01_less x y) (tb_ref01_less x y) (r = ref01_less x y) (.c (.b r)) []

theorem ok_ref01_less (x : Wide) (y : Wide) (r : Bool) : FOK Try.prog 165 (o_ref01_less x y r) := by
  unfold o_ref01_less
  refine fok_plain (fn := Try.f165) (c := Try.f165.body.getD .skip) tabOK eqOK follows ⟨Try.func165, by kernel_rfl, by kernel_rfl, by kernel_rfl, Nat.le_of_ble_eq_true (by kernel_rfl)⟩ (by kernel_rfl) (fun q hq => by cases hq) ?_
  intro hr
  by_cases h0 : x.hi < y.hi
  · skip
    rw [show r = true from hr.trans (by unfold ref01_less; exact (if_pos h0).trans rfl)]
    exact of_run (ds := [.br true, .br true, .br true, .br true, .br true, .br true, .br true, .br true]) (B := (decide (x.hi < y.hi) = true) ∧ (decide (x.hi < y.hi) = true) ∧ (decide (x.hi < y.hi) = true) ∧ (decide (x.hi < y.hi) = true) ∧ (decide (x.hi < y.hi) = true) ∧ (decide (x.hi < y.hi) = true) ∧ (decide (x.hi < y.hi) = true) ∧ (decide (x.hi < y.hi) = true) ∧ some (.c (.b true) : AV) = some (.c (.b true))) (by kernel_rfl) ⟨decide_eq_true h0, decide_eq_true h0, decide_eq_true h0, decide_eq_true h0, decide_eq_true h0, decide_eq_true h0, decide_eq_true h0, decide_eq_true h0, rfl⟩
  · skip
    by_cases h1 : x.hi = y.hi
    · skip
      rw [show r = decide (x.lo < y.lo) from hr.trans (by unfold ref01_less; exact (if_neg h0).trans ((if_pos h1).trans rfl))]
      exact of_run (ds := [.br false, .br false, .br false, .br false, .br false, .br false, .br true, .br true, .br true, .br true, .br true, .br false, .br true, .br false]) (B := (decide (x.hi < y.hi) = false) ∧ (decide (x.hi < y.hi) = false) ∧ (decide (x.hi < y.hi) = false) ∧ (decide (x.hi < y.hi) = false) ∧ (decide (x.hi < y.hi) = false) ∧ (decide (x.hi < y.hi) = false) ∧ ((x.hi == y.hi) = true) ∧ ((x.hi == y.hi) = true) ∧ ((x.hi == y.hi) = true) ∧ ((x.hi == y.hi) = true) ∧ ((x.hi == y.hi) = true) ∧ (decide (x.hi < y.hi) = false) ∧ ((x.hi == y.hi) = true) ∧ (decide (x.hi < y.hi) = false) ∧ some (.c (.b (decide (x.lo < y.lo))) : AV) = some (.c (.b (decide (x.lo < y.lo))))) (by kernel_rfl) ⟨decide_eq_false h0, decide_eq_false h0, decide_eq_false h0, decide_eq_false h0, decide_eq_false h0, decide_eq_false h0, beq_iff_eq.2 h1, beq_iff_eq.2 h1, beq_iff_eq.2 h1, beq_iff_eq.2 h1, beq_iff_eq.2 h1, decide_eq_false h0, beq_iff_eq.2 h1, decide_eq_false h0, rfl⟩
    · skip
      rw [show r = false from hr.trans (by unfold ref01_less; exact (if_neg h0).trans ((if_neg h1).trans rfl))]
      exact of_run (ds := [.br false, .br false, .br false, .br false, .br false, .br false, .br false, .br false, .br false, .br false, .br false, .br false, .br false, .br false]) (B := (decide (x.hi < y.hi) = false) ∧ (decide (x.hi < y.hi) = false) ∧ (decide (x.hi < y.hi) = false) ∧ (decide (x.hi < y.hi) = false) ∧ (decide (x.hi < y.hi) = false) ∧ (decide (x.hi < y.hi) = false) ∧ ((x.hi == y.hi) = false) ∧ ((x.hi == y.hi) = false) ∧ ((x.hi == y.hi) = false) ∧ ((x.hi == y.hi) = false) ∧ ((x.hi == y.hi) = false) ∧ (decide (x.hi < y.hi) = false) ∧ ((x.hi == y.hi) = false) ∧ (decide (x.hi < y.hi) = false) ∧ some (.c (.b false) : AV) = some (.c (.b false))) (by kernel_rfl) ⟨decide_eq_false h0, decide_eq_false h0, decide_eq_false h0, decide_eq_false h0, decide_eq_false h0, decide_eq_false h0, beq_eq_false_iff_ne.2 h1, beq_eq_false_iff_ne.2 h1, beq_eq_false_iff_ne.2 h1, beq_eq_false_iff_ne.2 h1, beq_eq_false_iff_ne.2 h1, decide_eq_false h0, beq_eq_false_iff_ne.2 h1, decide_eq_false h0, rfl⟩

def cmp_Or_int_L0_H (c0 : Option Nat) (x : (List Int)) (s : Int) : St := mkS [(2, .c (.i .i64 0)), (3, .c (.i .i64 0)), (6, .c (.slc (0, 0) 0 1 x.length (c0))), (7, .c (.i .i64 ((x.length : Nat) : Int))), (8, .c (.i .i64 s))] [((0, 0), ⟨rowsOf (rI .i64) x, 1, 0, false, none⟩)] 1 1

def cmp_Or_int_L0_X (c0 : Option Nat) (x : (List Int)) (v : Nat × (Int) × (Unit)) : Exit × St := if v.1 = 0 then (.ret, mkS [(2, .c (.i .i64 v.2.1))] [((0, 0), ⟨rowsOf (rI .i64) x, 1, 0, false, none⟩)] 1 1) else ((.exit 0), mkS [(2, .c (.i .i64 0)), (3, .c (.i .i64 0))] [((0, 0), ⟨rowsOf (rI .i64) x, 1, 0, false, none⟩)] 1 1)

theorem cmp_Or_int_L0_round (c0 : Option Nat) (x : (List Int)) : ∀ s : Int, RoundOK tab EQ Try.prog (loopAt Try.f168 0) (cmp_Or_int_L0_step x) (cmp_Or_int_L0_H c0 x) (cmp_Or_int_L0_X c0 x) s := by
  intro s
  by_cases qh0 : s < ((x.length : Nat) : Int)
  · skip
    by_cases qn0 : ((0 : Int) ≤ s ∧ s < ((x.length : Nat) : Int))
    rotate_left
    · have hs : cmp_Or_int_L0_step x s = none := by unfold cmp_Or_int_L0_step; exact (if_pos qh0).trans ((if_neg qn0).trans rfl)
      exact round_none hs
    by_cases qh1 : nth x s = 0
    · skip
      have hs : cmp_Or_int_L0_step x s = some (.inl (IntKind.i64.wrap (s + 1))) := by unfold cmp_Or_int_L0_step; exact (if_pos qh0).trans ((if_pos qn0).trans ((if_pos qh1).trans rfl))
      exact round_inl hs (stepN (ds := [.br true, .row [.i .i64 (nth x s)], .br false]) (B := (decide (s < ((x.length : Nat) : Int)) = true) ∧ (((0 : Int) ≤ s ∧ s < ((x.length : Nat) : Int))) ∧ (0 + (s).toNat < (rowsOf (rI .i64) x).length) ∧ ((rowsOf (rI .i64) x)[0 + (s).toNat]? = some [.i .i64 (nth x s)]) ∧ ((!(nth x s == 0)) = false) ∧ (((.c (.i .i64 0) : AV) = .c (.i .i64 0) ∧ (.c (.i .i64 0) : AV) = .c (.i .i64 0) ∧ (.c (.slc (0, 0) 0 1 x.length (c0)) : AV) = .c (.slc (0, 0) 0 1 x.length (c0)) ∧ (.c (.i .i64 ((x.length : Nat) : Int)) : AV) = .c (.i .i64 ((x.length : Nat) : Int)) ∧ (.c (.i .i64 (IntKind.i64.wrap (s + 1))) : AV) = .c (.i .i64 (IntKind.i64.wrap (s + 1))) ∧ True) ∧ ((some ⟨rowsOf (rI .i64) x, 1, 0, false, none⟩ : Option Blk) = some ⟨rowsOf (rI .i64) x, 1, 0, false, none⟩ ∧ True) ∧ 1 = 1 ∧ ((some ⟨rowsOf (rI .i64) x, 1, 0, false, none⟩ : Option Blk) = some ⟨rowsOf (rI .i64) x, 1, 0, false, none⟩ ∧ True) ∧ closL [(2, .c (.i .i64 0)), (3, .c (.i .i64 0)), (6, .c (.slc (0, 0) 0 1 x.length (c0))), (7, .c (.i .i64 ((x.length : Nat) : Int))), (8, .c (.i .i64 (IntKind.i64.wrap (s + 1))))] [((0, 0), ⟨rowsOf (rI .i64) x, 1, 0, false, none⟩)] 1 1)) (by kernel_rfl) ⟨decide_eq_true qh0, qn0, rows_lt (A := (rI .i64)) rfl qn0, rows_nth (A := (rI .i64)) (l := x) rfl qn0, not_f (beq_iff_eq.2 qh1), ⟨⟨rfl, rfl, rfl, rfl, rfl, trivial⟩, ⟨rfl, trivial⟩, rfl, ⟨rfl, trivial⟩, closL_mk (by kernel_rfl) ⟨⟨rows_okAll (A := (rI .i64)) rfl _, by decide⟩, trivial⟩⟩⟩)
    · skip
      have hs : cmp_Or_int_L0_step x s = some (.inr (0, nth x s, default)) := by unfold cmp_Or_int_L0_step; exact (if_pos qh0).trans ((if_pos qn0).trans ((if_neg qh1).trans rfl))
      exact round_inr hs (e := .ret) rfl (by intro h; cases h) (stepR (ds := [.br true, .row [.i .i64 (nth x s)], .br true]) (B := (decide (s < ((x.length : Nat) : Int)) = true) ∧ (((0 : Int) ≤ s ∧ s < ((x.length : Nat) : Int))) ∧ (0 + (s).toNat < (rowsOf (rI .i64) x).length) ∧ ((rowsOf (rI .i64) x)[0 + (s).toNat]? = some [.i .i64 (nth x s)]) ∧ ((!(nth x s == 0)) = true) ∧ (((.c (.i .i64 (nth x s)) : AV) = .c (.i .i64 (nth x s)) ∧ True) ∧ ((some ⟨rowsOf (rI .i64) x, 1, 0, false, none⟩ : Option Blk) = some ⟨rowsOf (rI .i64) x, 1, 0, false, none⟩ ∧ True) ∧ 1 = 1 ∧ ((some ⟨rowsOf (rI .i64) x, 1, 0, false, none⟩ : Option Blk) = some ⟨rowsOf (rI .i64) x, 1, 0, false, none⟩ ∧ True) ∧ closL [(2, .c (.i .i64 (nth x s)))] [((0, 0), ⟨rowsOf (rI .i64) x, 1, 0, false, none⟩)] 1 1)) (by kernel_rfl) ⟨decide_eq_true qh0, qn0, rows_lt (A := (rI .i64)) rfl qn0, rows_nth (A := (rI .i64)) (l := x) rfl qn0, not_t (beq_eq_false_iff_ne.2 qh1), ⟨⟨rfl, trivial⟩, ⟨rfl, trivial⟩, rfl, ⟨rfl, trivial⟩, closL_mk (by kernel_rfl) ⟨⟨rows_okAll (A := (rI .i64)) rfl _, by decide⟩, trivial⟩⟩⟩)
  · skip
    have hs : cmp_Or_int_L0_step x s = some (.inr (1, default, ())) := by unfold cmp_Or_int_L0_step; exact (if_neg qh0).trans rfl
    exact round_inr hs (e := (.exit 0)) rfl (by intro h; cases h) (stepX (id := 0) (ds := [.br false]) (B := (decide (s < ((x.length : Nat) : Int)) = false) ∧ (((.c (.i .i64 0) : AV) = .c (.i .i64 0) ∧ (.c (.i .i64 0) : AV) = .c (.i .i64 0) ∧ True) ∧ ((some ⟨rowsOf (rI .i64) x, 1, 0, false, none⟩ : Option Blk) = some ⟨rowsOf (rI .i64) x, 1, 0, false, none⟩ ∧ True) ∧ 1 = 1 ∧ ((some ⟨rowsOf (rI .i64) x, 1, 0, false, none⟩ : Option Blk) = some ⟨rowsOf (rI .i64) x, 1, 0, false, none⟩ ∧ True) ∧ closL [(2, .c (.i .i64 0)), (3, .c (.i .i64 0))] [((0, 0), ⟨rowsOf (rI .i64) x, 1, 0, false, none⟩)] 1 1)) (by kernel_rfl) ⟨decide_eq_false qh0, ⟨⟨rfl, rfl, trivial⟩, ⟨rfl, trivial⟩, rfl, ⟨rfl, trivial⟩, closL_mk (by kernel_rfl) ⟨⟨rows_okAll (A := (rI .i64)) rfl _, by decide⟩, trivial⟩⟩⟩)

def ta_cmp_Or_int (x : (List Int)) (c0 : Option Nat) : List AV := [.c (.slc (0, 0) 0 1 x.length (c0))]

def tb_cmp_Or_int (x : (List Int)) : List (Nat × List (List Cell)) := [(1, rowsOf (rI .i64) x)]

def o_cmp_Or_int (x : (List Int)) (c0 : Option Nat) (r : Int) : POfn := tplO (ta_cmp_Or_int x c0) (tb_cmp_Or_int x) (P_cmp_Or_int x ∧ r = cmp_Or_int x) (.c (.i .i64 r)) []

theorem ok_cmp_Or_int (x : (List Int)) (c0 : Option Nat) (r : Int) : FOK Try.prog 168 (o_cmp_Or_int x c0 r) := by
  unfold o_cmp_Or_int
  refine fok_plain (fn := Try.f168) (c := Try.f168.body.getD .skip) tabOK eqOK follows ⟨Try.func168, by kernel_rfl, by kernel_rfl, by kernel_rfl, Nat.le_of_ble_eq_true (by kernel_rfl)⟩ (by kernel_rfl) (by intro q hq; simp only [tb_cmp_Or_int, List.mem_cons, List.not_mem_nil, or_false] at hq; rcases hq with rfl <;> exact rowsOf_plain _ _) ?_
  rintro ⟨hp, hr⟩
  have n0 : (iterO (cmp_Or_int_L0_step x) NN 0).isSome = true := by exact (hp).1
  obtain ⟨r0, lr0⟩ := Option.isSome_iff_exists.1 n0
  have er0 : r0 = (iterO (cmp_Or_int_L0_step x) NN 0).getD default := by rw [lr0]; rfl
  by_cases h0 : r0.1 = 0
  · skip
    rw [show r = r0.2.1 from hr.trans (by subst er0; unfold cmp_Or_int; exact (if_pos h0).trans rfl)]
    exact of_run (ds := [.to [(2, .c (.i .i64 0)), (3, .c (.i .i64 0)), (6, .c (.slc (0, 0) 0 1 x.length (c0))), (7, .c (.i .i64 ((x.length : Nat) : Int))), (8, .c (.i .i64 0))] [((0, 0), ⟨rowsOf (rI .i64) x, 1, 0, false, none⟩)] 1 1 .ret (mkS [(2, .c (.i .i64 r0.2.1))] [((0, 0), ⟨rowsOf (rI .i64) x, 1, 0, false, none⟩)] 1 1)]) (B := ((((.c (.i .i64 0) : AV) = .c (.i .i64 0) ∧ (.c (.i .i64 0) : AV) = .c (.i .i64 0) ∧ (.c (.slc (0, 0) 0 1 x.length (c0)) : AV) = .c (.slc (0, 0) 0 1 x.length (c0)) ∧ (.c (.i .i64 ((x.length : Nat) : Int)) : AV) = .c (.i .i64 ((x.length : Nat) : Int)) ∧ (.c (.i .i64 0) : AV) = .c (.i .i64 0) ∧ True) ∧ ((some ⟨rowsOf (rI .i64) x, 1, 0, false, none⟩ : Option Blk) = some ⟨rowsOf (rI .i64) x, 1, 0, false, none⟩ ∧ True) ∧ 1 = 1 ∧ ((some ⟨rowsOf (rI .i64) x, 1, 0, false, none⟩ : Option Blk) = some ⟨rowsOf (rI .i64) x, 1, 0, false, none⟩ ∧ True) ∧ closL [(2, .c (.i .i64 0)), (3, .c (.i .i64 0)), (6, .c (.slc (0, 0) 0 1 x.length (c0))), (7, .c (.i .i64 ((x.length : Nat) : Int))), (8, .c (.i .i64 0))] [((0, 0), ⟨rowsOf (rI .i64) x, 1, 0, false, none⟩)] 1 1)) ∧ (LoopTo tab EQ Try.prog (loopAt Try.f168 0) (mkS [(2, .c (.i .i64 0)), (3, .c (.i .i64 0)), (6, .c (.slc (0, 0) 0 1 x.length (c0))), (7, .c (.i .i64 ((x.length : Nat) : Int))), (8, .c (.i .i64 0))] [((0, 0), ⟨rowsOf (rI .i64) x, 1, 0, false, none⟩)] 1 1) .ret (mkS [(2, .c (.i .i64 r0.2.1))] [((0, 0), ⟨rowsOf (rI .i64) x, 1, 0, false, none⟩)] 1 1)) ∧ some (.c (.i .i64 r0.2.1) : AV) = some (.c (.i .i64 r0.2.1))) (by kernel_rfl) ⟨⟨⟨rfl, rfl, rfl, rfl, rfl, trivial⟩, ⟨rfl, trivial⟩, rfl, ⟨rfl, trivial⟩, closL_mk (by kernel_rfl) ⟨⟨rows_okAll (A := (rI .i64)) rfl _, by decide⟩, trivial⟩⟩, loopTo_x (loopTo_iter (s := 0) (r := r0) (cmp_Or_int_L0_H c0 x) (cmp_Or_int_L0_X c0 x) (cmp_Or_int_L0_round c0 x) lr0) ((if_pos h0).trans rfl), rfl⟩
  · skip
    rw [show r = 0 from hr.trans (by subst er0; unfold cmp_Or_int; exact (if_neg h0).trans rfl)]
    exact of_run (ds := [.to [(2, .c (.i .i64 0)), (3, .c (.i .i64 0)), (6, .c (.slc (0, 0) 0 1 x.length (c0))), (7, .c (.i .i64 ((x.length : Nat) : Int))), (8, .c (.i .i64 0))] [((0, 0), ⟨rowsOf (rI .i64) x, 1, 0, false, none⟩)] 1 1 (.exit 0) (mkS [(2, .c (.i .i64 0)), (3, .c (.i .i64 0))] [((0, 0), ⟨rowsOf (rI .i64) x, 1, 0, false, none⟩)] 1 1)]) (B := ((((.c (.i .i64 0) : AV) = .c (.i .i64 0) ∧ (.c (.i .i64 0) : AV) = .c (.i .i64 0) ∧ (.c (.slc (0, 0) 0 1 x.length (c0)) : AV) = .c (.slc (0, 0) 0 1 x.length (c0)) ∧ (.c (.i .i64 ((x.length : Nat) : Int)) : AV) = .c (.i .i64 ((x.length : Nat) : Int)) ∧ (.c (.i .i64 0) : AV) = .c (.i .i64 0) ∧ True) ∧ ((some ⟨rowsOf (rI .i64) x, 1, 0, false, none⟩ : Option Blk) = some ⟨rowsOf (rI .i64) x, 1, 0, false, none⟩ ∧ True) ∧ 1 = 1 ∧ ((some ⟨rowsOf (rI .i64) x, 1, 0, false, none⟩ : Option Blk) = some ⟨rowsOf (rI .i64) x, 1, 0, false, none⟩ ∧ True) ∧ closL [(2, .c (.i .i64 0)), (3, .c (.i .i64 0)), (6, .c (.slc (0, 0) 0 1 x.length (c0))), (7, .c (.i .i64 ((x.length : Nat) : Int))), (8, .c (.i .i64 0))] [((0, 0), ⟨rowsOf (rI .i64) x, 1, 0, false, none⟩)] 1 1)) ∧ (LoopTo tab EQ Try.prog (loopAt Try.f168 0) (mkS [(2, .c (.i .i64 0)), (3, .c (.i .i64 0)), (6, .c (.slc (0, 0) 0 1 x.length (c0))), (7, .c (.i .i64 ((x.length : Nat) : Int))), (8, .c (.i .i64 0))] [((0, 0), ⟨rowsOf (rI .i64) x, 1, 0, false, none⟩)] 1 1) (.exit 0) (mkS [(2, .c (.i .i64 0)), (3, .c (.i .i64 0))] [((0, 0), ⟨rowsOf (rI .i64) x, 1, 0, false, none⟩)] 1 1)) ∧ some (.c (.i .i64 0) : AV) = some (.c (.i .i64 0))) (by kernel_rfl) ⟨⟨⟨rfl, rfl, rfl, rfl, rfl, trivial⟩, ⟨rfl, trivial⟩, rfl, ⟨rfl, trivial⟩, closL_mk (by kernel_rfl) ⟨⟨rows_okAll (A := (rI .i64)) rfl _, by decide⟩, trivial⟩⟩, loopTo_x (loopTo_iter (s := 0) (r := r0) (cmp_Or_int_L0_H c0 x) (cmp_Or_int_L0_X c0 x) (cmp_Or_int_L0_round c0 x) lr0) ((if_neg h0).trans rfl), rfl⟩

def ta_cmp_isNaN_uint64 (x : Int) : List AV := [.c (.i .u64 x)]

def tb_cmp_isNaN_uint64 (x : Int) : List (Nat × List (List Cell)) := []

def o_cmp_isNaN_uint64 (x : Int) (r : Bool) : POfn := tplO (ta_cmp_isNaN_uint64 x) (tb_cmp_isNaN_uint64 x) (r = cmp_isNaN_uint64 x) (.c (.b r)) []

theorem ok_cmp_isNaN_uint64 (x : Int) (r : Bool) : FOK Try.prog 171 (o_cmp_isNaN_uint64 x r) := by
  unfold o_cmp_isNaN_uint64
  refine fok_plain (fn := Try.f171) (c := Try.f171.body.getD .skip) tabOK eqOK follows ⟨Try.func171, by kernel_rfl, by kernel_rfl, by kernel_rfl, Nat.le_of_ble_eq_true (by kernel_rfl)⟩ (by kernel_rfl) (fun q hq => by cases hq) ?_
  intro hr
  rw [show r = (!(x == x)) from hr.trans (by unfold cmp_isNaN_uint64; exact rfl)]
  exact of_run (ds := []) (B := some (.c (.b (!(x == x))) : AV) = some (.c (.b (!(x == x))))) (by kernel_rfl) rfl

def ta_law02_vec (x : Int) (y : Int) : List AV := [.c (.i .i64 x), .c (.i .i64 y)]

def tb_law02_vec (x : Int) (y : Int) : List (Nat × List (List Cell)) := []

def o_law02_vec (x : Int) (y : Int) (r : Vec) : POfn := tplO (ta_law02_vec x y) (tb_law02_vec x y) (r = law02_vec x y) (.agg [.i .i64 r.X.V, .b r.X.F, .i .i64 r.Y.V, .b r.Y.F]) []

theorem ok_law02_vec (x : Int) (y : Int) (r : Vec) : FOK Try.prog 38 (o_law02_vec x y r) := by
  unfold o_law02_vec
  refine fok_plain (fn := Try.f38) (c := Try.f38.body.getD .skip) tabOK eqOK follows ⟨Try.func38, by kernel_rfl, by kernel_rfl, by kernel_rfl, Nat.le_of_ble_eq_true (by kernel_rfl)⟩ (by kernel_rfl) (fun q hq => by cases hq) ?_
  intro hr
  obtain ⟨r0, er0⟩ : ∃ q, q = law02_num x := ⟨_, rfl⟩
  obtain ⟨r1, er1⟩ : ∃ q, q = law02_num y := ⟨_, rfl⟩
  rw [show r = (⟨r0, r1⟩ : Vec) from hr.trans (by subst er1 er0; unfold law02_vec; exact rfl)]
  exact of_run (ds := [.use (o_law02_num x r0), .use (o_law02_num y r1)]) (B := (FOK Try.prog 41 (o_law02_num x r0)) ∧ (tplP (ta_law02_num x) (tb_law02_num x) (r0 = law02_num x) [.c (.i .i64 x)] []) ∧ (FOK Try.prog 41 (o_law02_num y r1)) ∧ (tplP (ta_law02_num y) (tb_law02_num y) (r1 = law02_num y) [.c (.i .i64 y)] []) ∧ some (.agg [.i .i64 r0.V, .b r0.F, .i .i64 r1.V, .b r1.F] : AV) = some (.agg [.i .i64 r0.V, .b r0.F, .i .i64 r1.V, .b r1.F])) (by kernel_rfl) ⟨ok_law02_num x r0, ⟨rfl, rfl, er0⟩, ok_law02_num y r1, ⟨rfl, rfl, er1⟩, rfl⟩

def ta_fixed_Int (x : Int) : List AV := [.c (.i .i64 x)]

def tb_fixed_Int (x : Int) : List (Nat × List (List Cell)) := []

def o_fixed_Int (x : Int) (r : Num) : POfn := tplO (ta_fixed_Int x) (tb_fixed_Int x) (r = fixed_Int x) (.agg [.i .i64 r.V, .b r.F]) []

theorem ok_fixed_Int (x : Int) (r : Num) : FOK Try.prog 85 (o_fixed_Int x r) := by
  unfold o_fixed_Int
  refine fok_plain (fn := Try.f85) (c := Try.f85.body.getD .skip) tabOK eqOK follows ⟨Try.func85, by kernel_rfl, by kernel_rfl, by kernel_rfl, Nat.le_of_ble_eq_true (by kernel_rfl)⟩ (by kernel_rfl) (fun q hq => by cases hq) ?_
  intro hr
  obtain ⟨r0, er0⟩ : ∃ q, q = fixed_of x := ⟨_, rfl⟩
  obtain ⟨r1, er1⟩ : ∃ q, q = fixed_exact_up r0 := ⟨_, rfl⟩
  obtain ⟨r2, er2⟩ : ∃ q, q = fixed_exact_fit r1 false := ⟨_, rfl⟩
  rw [show r = r2 from hr.trans (by subst er2 er1 er0; unfold fixed_Int; exact rfl)]
  exact of_run (ds := [.use (o_fixed_of x r0), .use (o_fixed_exact_up r0 r1), .use (o_fixed_exact_fit r1 false r2)]) (B := (FOK Try.prog 129 (o_fixed_of x r0)) ∧ (tplP (ta_fixed_of x) (tb_fixed_of x) (r0 = fixed_of x) [.c (.i .i64 x)] []) ∧ (FOK Try.prog 130 (o_fixed_exact_up r0 r1)) ∧ (tplP (ta_fixed_exact_up r0) (tb_fixed_exact_up r0) (r1 = fixed_exact_up r0) [.agg [.b r0.neg, .i .u64 r0.w.w0, .i .u64 r0.w.w1]] []) ∧ (FOK Try.prog 131 (o_fixed_exact_fit r1 false r2)) ∧ (tplP (ta_fixed_exact_fit r1 false) (tb_fixed_exact_fit r1 false) (r2 = fixed_exact_fit r1 false) [.agg [.b r1.neg, .i .u64 r1.w.w0, .i .u64 r1.w.w1], .c (.b false)] []) ∧ some (.agg [.i .i64 r2.V, .b r2.F] : AV) = some (.agg [.i .i64 r2.V, .b r2.F])) (by kernel_rfl) ⟨ok_fixed_of x r0, ⟨rfl, rfl, er0⟩, ok_fixed_exact_up r0 r1, ⟨rfl, rfl, er1⟩, ok_fixed_exact_fit r1 false r2, ⟨rfl, rfl, er2⟩, rfl⟩

def ta_fixed_Of (x : Int) : List AV := [.c (.i .i64 x)]

def tb_fixed_Of (x : Int) : List (Nat × List (List Cell)) := []

def o_fixed_Of (x : Int) (r : Num) : POfn := tplO (ta_fixed_Of x) (tb_fixed_Of x) (r = fixed_Of x) (.agg [.i .i64 r.V, .b r.F]) []

theorem ok_fixed_Of (x : Int) (r : Num) : FOK Try.prog 86 (o_fixed_Of x r) := by
  unfold o_fixed_Of
  refine fok_plain (fn := Try.f86) (c := Try.f86.body.getD .skip) tabOK eqOK follows ⟨Try.func86, by kernel_rfl, by kernel_rfl, by kernel_rfl, Nat.le_of_ble_eq_true (by kernel_rfl)⟩ (by kernel_rfl) (fun q hq => by cases hq) ?_
  intro hr
  obtain ⟨r0, er0⟩ : ∃ q, q = fixed_sound (⟨x, false⟩ : Num) := ⟨_, rfl⟩
  rw [show r = r0 from hr.trans (by subst er0; unfold fixed_Of; exact rfl)]
  exact of_run (ds := [.use (o_fixed_sound (⟨x, false⟩ : Num) r0)]) (B := (FOK Try.prog 125 (o_fixed_sound (⟨x, false⟩ : Num) r0)) ∧ (tplP (ta_fixed_sound (⟨x, false⟩ : Num)) (tb_fixed_sound (⟨x, false⟩ : Num)) (r0 = fixed_sound (⟨x, false⟩ : Num)) [.agg [.i .i64 x, .b false]] []) ∧ some (.agg [.i .i64 r0.V, .b r0.F] : AV) = some (.agg [.i .i64 r0.V, .b r0.F])) (by kernel_rfl) ⟨ok_fixed_sound (⟨x, false⟩ : Num) r0, ⟨rfl, rfl, er0⟩, rfl⟩

def ta_fixed_Neg (x : Num) : List AV := [.agg [.i .i64 x.V, .b x.F]]

def tb_fixed_Neg (x : Num) : List (Nat × List (List Cell)) := []

def o_fixed_Neg (x : Num) (r : Num) : POfn := tplO (ta_fixed_Neg x) (tb_fixed_Neg x) (r = fixed_Neg x) (.agg [.i .i64 r.V, .b r.F]) []

theorem ok_fixed_Neg (x : Num) (r : Num) : FOK Try.prog 100 (o_fixed_Neg x r) := by
  unfold o_fixed_Neg
  refine fok_plain (fn := Try.f100) (c := Try.f100.body.getD .skip) tabOK eqOK follows ⟨Try.func100, by kernel_rfl, by kernel_rfl, by kernel_rfl, Nat.le_of_ble_eq_true (by kernel_rfl)⟩ (by kernel_rfl) (fun q hq => by cases hq) ?_
  intro hr
  obtain ⟨r0, er0⟩ : ∃ q, q = fixed_sound x := ⟨_, rfl⟩
  rw [show r = (⟨IntKind.i64.wrap (0 - r0.V), r0.F⟩ : Num) from hr.trans (by subst er0; unfold fixed_Neg; exact rfl)]
  exact of_run (ds := [.use (o_fixed_sound x r0)]) (B := (FOK Try.prog 125 (o_fixed_sound x r0)) ∧ (tplP (ta_fixed_sound x) (tb_fixed_sound x) (r0 = fixed_sound x) [.agg [.i .i64 x.V, .b x.F]] []) ∧ some (.agg [.i .i64 (IntKind.i64.wrap (0 - r0.V)), .b r0.F] : AV) = some (.agg [.i .i64 (IntKind.i64.wrap (0 - r0.V)), .b r0.F])) (by kernel_rfl) ⟨ok_fixed_sound x r0, ⟨rfl, rfl, er0⟩, rfl⟩

def ta_ref01_Neg (x : Num) : List AV := [.agg [.i .i64 x.V, .b x.F]]

def tb_ref01_Neg (x : Num) : List (Nat × List (List Cell)) := []

def o_ref01_Neg (x : Num) (r : Num) : POfn := tplO (ta_ref01_Neg x) (tb_ref01_Neg x) (r = ref01_Neg x) (.agg [.i .i64 r.V, .b r.F]) []

theorem ok_ref01_Neg (x : Num) (r : Num) : FOK Try.prog 102 (o_ref01_Neg x r) := by
  unfold o_ref01_Neg
  refine fok_plain (fn := Try.f102) (c := Try.f102.body.getD .skip) tabOK eqOK follows ⟨Try.func102, by kernel_rfl, by kernel_rfl, by kernel_rfl, Nat.le_of_ble_eq_true (by kernel_rfl)⟩ (by kernel_rfl) (fun q hq => by cases hq) ?_
  intro hr
  obtain ⟨r0, er0⟩ : ∃ q, q = ref01_whole x := ⟨_, rfl⟩
  rw [show r = (⟨IntKind.i64.wrap (0 - r0.1), r0.2⟩ : Num) from hr.trans (by subst er0; unfold ref01_Neg; exact rfl)]
  exact of_run (ds := [.use (o_ref01_whole x r0)]) (B := (FOK Try.prog 127 (o_ref01_whole x r0)) ∧ (tplP (ta_ref01_whole x) (tb_ref01_whole x) (r0 = ref01_whole x) [.agg [.i .i64 x.V, .b x.F]] []) ∧ some (.agg [.i .i64 (IntKind.i64.wrap (0 - r0.1)), .b r0.2] : AV) = some (.agg [.i .i64 (IntKind.i64.wrap (0 - r0.1)), .b r0.2])) (by kernel_rfl) ⟨ok_ref01_whole x r0, ⟨rfl, rfl, er0⟩, rfl⟩

def ta_plane_Fault_in1 (x : Vec) : List AV := [.agg [.i .i64 x.X.V, .b x.X.F, .i .i64 x.Y.V, .b x.Y.F]]

def tb_plane_Fault_in1 (x : Vec) : List (Nat × List (List Cell)) := []

def o_plane_Fault_in1 (x : Vec) (r : Bool) : POfn := tplO (ta_plane_Fault_in1 x) (tb_plane_Fault_in1 x) (r = plane_Fault_in1 x) (.c (.b r)) []

theorem ok_plane_Fault_in1 (x : Vec) (r : Bool) : FOK Try.prog 109 (o_plane_Fault_in1 x r) := by
  unfold o_plane_Fault_in1
  refine fok_plain (fn := Try.f109) (c := Try.f109.body.getD .skip) tabOK eqOK follows ⟨Try.func109, by kernel_rfl, by kernel_rfl, by kernel_rfl, Nat.le_of_ble_eq_true (by kernel_rfl)⟩ (by kernel_rfl) (fun q hq => by cases hq) ?_
  intro hr
  obtain ⟨r0, er0⟩ : ∃ q, q = fixed_Neg x.X := ⟨_, rfl⟩
  by_cases h0 : r0.F = true
  · skip
    rw [show r = true from hr.trans (by subst er0; unfold plane_Fault_in1; exact (if_pos h0).trans rfl)]
    exact of_run (ds := [.use (o_fixed_Neg x.X r0), .br true, .br true, .br true, .br true, .br true]) (B := (FOK Try.prog 100 (o_fixed_Neg x.X r0)) ∧ (tplP (ta_fixed_Neg x.X) (tb_fixed_Neg x.X) (r0 = fixed_Neg x.X) [.agg [.i .i64 x.X.V, .b x.X.F]] []) ∧ (r0.F = true) ∧ (r0.F = true) ∧ (r0.F = true) ∧ (r0.F = true) ∧ (r0.F = true) ∧ some (.c (.b true) : AV) = some (.c (.b true))) (by kernel_rfl) ⟨ok_fixed_Neg x.X r0, ⟨rfl, rfl, er0⟩, h0, h0, h0, h0, h0, rfl⟩
  · skip
    obtain ⟨r1, er1⟩ : ∃ q, q = fixed_Neg x.Y := ⟨_, rfl⟩
    rw [show r = r1.F from hr.trans (by subst er1 er0; unfold plane_Fault_in1; exact (if_neg h0).trans rfl)]
    exact of_run (ds := [.use (o_fixed_Neg x.X r0), .br false, .br false, .br false, .use (o_fixed_Neg x.Y r1), .br false, .br false]) (B := (FOK Try.prog 100 (o_fixed_Neg x.X r0)) ∧ (tplP (ta_fixed_Neg x.X) (tb_fixed_Neg x.X) (r0 = fixed_Neg x.X) [.agg [.i .i64 x.X.V, .b x.X.F]] []) ∧ (r0.F = false) ∧ (r0.F = false) ∧ (r0.F = false) ∧ (FOK Try.prog 100 (o_fixed_Neg x.Y r1)) ∧ (tplP (ta_fixed_Neg x.Y) (tb_fixed_Neg x.Y) (r1 = fixed_Neg x.Y) [.agg [.i .i64 x.Y.V, .b x.Y.F]] []) ∧ (r0.F = false) ∧ (r0.F = false) ∧ some (.c (.b r1.F) : AV) = some (.c (.b r1.F))) (by kernel_rfl) ⟨ok_fixed_Neg x.X r0, ⟨rfl, rfl, er0⟩, Bool.eq_false_iff.2 h0, Bool.eq_false_iff.2 h0, Bool.eq_false_iff.2 h0, ok_fixed_Neg x.Y r1, ⟨rfl, rfl, er1⟩, Bool.eq_false_iff.2 h0, Bool.eq_false_iff.2 h0, rfl⟩

def ta_cmp_Compare_int64 (x : Int) (y : Int) : List AV := [.c (.i .i64 x), .c (.i .i64 y)]

def tb_cmp_Compare_int64 (x : Int) (y : Int) : List (Nat × List (List Cell)) := []

def o_cmp_Compare_int64 (x : Int) (y : Int) (r : Int) : POfn := tplO (ta_cmp_Compare_int64 x y) (tb_cmp_Compare_int64 x y) (r = cmp_Compare_int64 x y) (.c (.i .i64 r)) []

theorem ok_cmp_Compare_int64 (x : Int) (y : Int) (r : Int) : FOK Try.prog 132 (o_cmp_Compare_int64 x y r) := by
  unfold o_cmp_Compare_int64
  refine fok_plain (fn := Try.f132) (c := Try.f132.body.getD .skip) tabOK eqOK follows ⟨Try.func132, by kernel_rfl, by kernel_rfl, by kernel_rfl, Nat.le_of_ble_eq_true (by kernel_rfl)⟩ (by kernel_rfl) (fun q hq => by cases hq) ?_
  intro hr
  obtain ⟨r0, er0⟩ : ∃ q, q = cmp_isNaN_int64 x := ⟨_, rfl⟩
  obtain ⟨r1, er1⟩ : ∃ q, q = cmp_isNaN_int64 y := ⟨_, rfl⟩
  by_cases h0 : r0 = true
  · skip
    by_cases h1 : r1 = true
    · skip
      rw [show r = 0 from hr.trans (by subst er1 er0; unfold cmp_Compare_int64; exact (if_pos h0).trans ((if_pos h1).trans rfl))]
      exact of_run (ds := [.use (o_cmp_isNaN_int64 x r0), .use (o_cmp_isNaN_int64 y r1), .br true, .br true]) (B := (FOK Try.prog 158 (o_cmp_isNaN_int64 x r0)) ∧ (tplP (ta_cmp_isNaN_int64 x) (tb_cmp_isNaN_int64 x) (r0 = cmp_isNaN_int64 x) [.c (.i .i64 x)] []) ∧ (FOK Try.prog 158 (o_cmp_isNaN_int64 y r1)) ∧ (tplP (ta_cmp_isNaN_int64 y) (tb_cmp_isNaN_int64 y) (r1 = cmp_isNaN_int64 y) [.c (.i .i64 y)] []) ∧ (r0 = true) ∧ (r1 = true) ∧ some (.c (.i .i64 0) : AV) = some (.c (.i .i64 0))) (by kernel_rfl) ⟨ok_cmp_isNaN_int64 x r0, ⟨rfl, rfl, er0⟩, ok_cmp_isNaN_int64 y r1, ⟨rfl, rfl, er1⟩, h0, h1, rfl⟩
    · skip
      rw [show r = (-1) from hr.trans (by subst er1 er0; unfold cmp_Compare_int64; exact (if_pos h0).trans ((if_neg h1).trans rfl))]
      exact of_run (ds := [.use (o_cmp_isNaN_int64 x r0), .use (o_cmp_isNaN_int64 y r1), .br true, .br false]) (B := (FOK Try.prog 158 (o_cmp_isNaN_int64 x r0)) ∧ (tplP (ta_cmp_isNaN_int64 x) (tb_cmp_isNaN_int64 x) (r0 = cmp_isNaN_int64 x) [.c (.i .i64 x)] []) ∧ (FOK Try.prog 158 (o_cmp_isNaN_int64 y r1)) ∧ (tplP (ta_cmp_isNaN_int64 y) (tb_cmp_isNaN_int64 y) (r1 = cmp_isNaN_int64 y) [.c (.i .i64 y)] []) ∧ (r0 = true) ∧ (r1 = false) ∧ some (.c (.i .i64 (-1)) : AV) = some (.c (.i .i64 (-1)))) (by kernel_rfl) ⟨ok_cmp_isNaN_int64 x r0, ⟨rfl, rfl, er0⟩, ok_cmp_isNaN_int64 y r1, ⟨rfl, rfl, er1⟩, h0, Bool.eq_false_iff.2 h1, rfl⟩
  · skip
    by_cases h1 : r1 = true
    · skip
      rw [show r = 1 from hr.trans (by subst er1 er0; unfold cmp_Compare_int64; exact (if_neg h0).trans ((if_pos h1).trans rfl))]
      exact of_run (ds := [.use (o_cmp_isNaN_int64 x r0), .use (o_cmp_isNaN_int64 y r1), .br false, .br true]) (B := (FOK Try.prog 158 (o_cmp_isNaN_int64 x r0)) ∧ (tplP (ta_cmp_isNaN_int64 x) (tb_cmp_isNaN_int64 x) (r0 = cmp_isNaN_int64 x) [.c (.i .i64 x)] []) ∧ (FOK Try.prog 158 (o_cmp_isNaN_int64 y r1)) ∧ (tplP (ta_cmp_isNaN_int64 y) (tb_cmp_isNaN_int64 y) (r1 = cmp_isNaN_int64 y) [.c (.i .i64 y)] []) ∧ (r0 = false) ∧ (r1 = true) ∧ some (.c (.i .i64 1) : AV) = some (.c (.i .i64 1))) (by kernel_rfl) ⟨ok_cmp_isNaN_int64 x r0, ⟨rfl, rfl, er0⟩, ok_cmp_isNaN_int64 y r1, ⟨rfl, rfl, er1⟩, Bool.eq_false_iff.2 h0, h1, rfl⟩
    · skip
      by_cases h2 : x < y
      · skip
        rw [show r = (-1) from hr.trans (by subst er1 er0; unfold cmp_Compare_int64; exact (if_neg h0).trans ((if_neg h1).trans ((if_pos h2).trans rfl)))]
        exact of_run (ds := [.use (o_cmp_isNaN_int64 x r0), .use (o_cmp_isNaN_int64 y r1), .br false, .br false, .br true]) (B := (FOK Try.prog 158 (o_cmp_isNaN_int64 x r0)) ∧ (tplP (ta_cmp_isNaN_int64 x) (tb_cmp_isNaN_int64 x) (r0 = cmp_isNaN_int64 x) [.c (.i .i64 x)] []) ∧ (FOK Try.prog 158 (o_cmp_isNaN_int64 y r1)) ∧ (tplP (ta_cmp_isNaN_int64 y) (tb_cmp_isNaN_int64 y) (r1 = cmp_isNaN_int64 y) [.c (.i .i64 y)] []) ∧ (r0 = false) ∧ (r1 = false) ∧ (decide (x < y) = true) ∧ some (.c (.i .i64 (-1)) : AV) = some (.c (.i .i64 (-1)))) (by kernel_rfl) ⟨ok_cmp_isNaN_int64 x r0, ⟨rfl, rfl, er0⟩, ok_cmp_isNaN_int64 y r1, ⟨rfl, rfl, er1⟩, Bool.eq_false_iff.2 h0, Bool.eq_false_iff.2 h1, decide_eq_true h2, rfl⟩
      · skip
        by_cases h3 : x > y
        · skip
          rw [show r = 1 from hr.trans (by subst er1 er0; unfold cmp_Compare_int64; exact (if_neg h0).trans ((if_neg h1).trans ((if_neg h2).trans ((if_pos h3).trans rfl))))]
          exact of_run (ds := [.use (o_cmp_isNaN_int64 x r0), .use (o_cmp_isNaN_int64 y r1), .br false, .br false, .br false, .br true]) (B := (FOK Try.prog 158 (o_cmp_isNaN_int64 x r0)) ∧ (tplP (ta_cmp_isNaN_int64 x) (tb_cmp_isNaN_int64 x) (r0 = cmp_isNaN_int64 x) [.c (.i .i64 x)] []) ∧ (FOK Try.prog 158 (o_cmp_isNaN_int64 y r1)) ∧ (tplP (ta_cmp_isNaN_int64 y) (tb_cmp_isNaN_int64 y) (r1 = cmp_isNaN_int64 y) [.c (.i .i64 y)] []) ∧ (r0 = false) ∧ (r1 = false) ∧ (decide (x < y) = false) ∧ (decide (x > y) = true) ∧ some (.c (.i .i64 1) : AV) = some (.c (.i .i64 1))) (by kernel_rfl) ⟨ok_cmp_isNaN_int64 x r0, ⟨rfl, rfl, er0⟩, ok_cmp_isNaN_int64 y r1, ⟨rfl, rfl, er1⟩, Bool.eq_false_iff.2 h0, Bool.eq_false_iff.2 h1, decide_eq_false h2, decide_eq_true h3, rfl⟩
        · skip
          rw [show r = 0 from hr.trans (by subst er1 er0; unfold cmp_Compare_int64; exact (if_neg h0).trans ((if_neg h1).trans ((if_neg h2).trans ((if_neg h3).trans rfl))))]
          exact of_run (ds := [.use (o_cmp_isNaN_int64 x r0), .use (o_cmp_isNaN_int64 y r1), .br false, .br false, .br false, .br false]) (B := (FOK Try.prog 158 (o_cmp_isNaN_int64 x r0)) ∧ (tplP (ta_cmp_isNaN_int64 x) (tb_cmp_isNaN_int64 x) (r0 = cmp_isNaN_int64 x) [.c (.i .i64 x)] []) ∧ (FOK Try.prog 158 (o_cmp_isNaN_int64 y r1)) ∧ (tplP (ta_cmp_isNaN_int64 y) (tb_cmp_isNaN_int64 y) (r1 = cmp_isNaN_int64 y) [.c (.i .i64 y)] []) ∧ (r0 = false) ∧ (r1 = false) ∧ (decide (x < y) = false) ∧ (decide (x > y) = false) ∧ some (.c (.i .i64 0) : AV) = some (.c (.i .i64 0))) (by kernel_rfl) ⟨ok_cmp_isNaN_int64 x r0, ⟨rfl, rfl, er0⟩, ok_cmp_isNaN_int64 y r1, ⟨rfl, rfl, er1⟩, Bool.eq_false_iff.2 h0, Bool.eq_false_iff.2 h1, decide_eq_false h2, decide_eq_false h3, rfl⟩

def ta_ref01_exact (x : Int) : List AV := [.c (.i .i64 x)]

def tb_ref01_exact (x : Int) : List (Nat × List (List Cell)) := []

def o_ref01_exact (x : Int) (r : Wide) : POfn := tplO (ta_ref01_exact x) (tb_ref01_exact x) (r = ref01_exact x) (.agg [.b r.neg, .i .u64 r.hi, .i .u64 r.lo]) []

theorem ok_ref01_exact (x : Int) (r : Wide) : FOK Try.prog 137 (o_ref01_exact x r) := by
  unfold o_ref01_exact
  refine fok_plain (fn := Try.f137) (c := Try.f137.body.getD .skip) tabOK eqOK follows ⟨Try.func137, by kernel_rfl, by kernel_rfl, by kernel_rfl, Nat.le_of_ble_eq_true (by kernel_rfl)⟩ (by kernel_rfl) (fun q hq => by cases hq) ?_
  intro hr
  obtain ⟨r0, er0⟩ : ∃ q, q = ref01_size x := ⟨_, rfl⟩
  rw [show r = (⟨decide (x < 0), 0, r0⟩ : Wide) from hr.trans (by subst er0; unfold ref01_exact; exact rfl)]
  exact of_run (ds := [.use (o_ref01_size x r0)]) (B := (FOK Try.prog 139 (o_ref01_size x r0)) ∧ (tplP (ta_ref01_size x) (tb_ref01_size x) (r0 = ref01_size x) [.c (.i .i64 x)] []) ∧ some (.agg [.b (decide (x < 0)), .i .u64 0, .i .u64 r0] : AV) = some (.agg [.b (decide (x < 0)), .i .u64 0, .i .u64 r0])) (by kernel_rfl) ⟨ok_ref01_size x r0, ⟨rfl, rfl, er0⟩, rfl⟩

def ta_fixed_product (x : Int) (y : Int) : List AV := [.c (.i .i64 x), .c (.i .i64 y)]

def tb_fixed_product (x : Int) (y : Int) : List (Nat × List (List Cell)) := []

def o_fixed_product (x : Int) (y : Int) (r : Exact) : POfn := tplO (ta_fixed_product x y) (tb_fixed_product x y) (r = fixed_product x y) (.agg [.b r.neg, .i .u64 r.w.w0, .i .u64 r.w.w1]) []

theorem ok_fixed_product (x : Int) (y : Int) (r : Exact) : FOK Try.prog 140 (o_fixed_product x y r) := by
  unfold o_fixed_product
  refine fok_plain (fn := Try.f140) (c := Try.f140.body.getD .skip) tabOK eqOK follows ⟨Try.func140, by kernel_rfl, by kernel_rfl, by kernel_rfl, Nat.le_of_ble_eq_true (by kernel_rfl)⟩ (by kernel_rfl) (fun q hq => by cases hq) ?_
  intro hr
  obtain ⟨r0, er0⟩ : ∃ q, q = fixed_of x := ⟨_, rfl⟩
  obtain ⟨r1, er1⟩ : ∃ q, q = fixed_of y := ⟨_, rfl⟩
  obtain ⟨r2, er2⟩ : ∃ q, q = bits_Mul64 r0.w.w0 r1.w.w0 := ⟨_, rfl⟩
  rw [show r = (⟨(!(r0.neg == r1.neg)), ⟨r2.2, r2.1⟩⟩ : Exact) from hr.trans (by subst er2 er1 er0; unfold fixed_product; exact rfl)]
  exact of_run (ds := [.use (o_fixed_of x r0), .use (o_fixed_of y r1), .use (o_bits_Mul64 r0.w.w0 r1.w.w0 r2)]) (B := (FOK Try.prog 129 (o_fixed_of x r0)) ∧ (tplP (ta_fixed_of x) (tb_fixed_of x) (r0 = fixed_of x) [.c (.i .i64 x)] []) ∧ (FOK Try.prog 129 (o_fixed_of y r1)) ∧ (tplP (ta_fixed_of y) (tb_fixed_of y) (r1 = fixed_of y) [.c (.i .i64 y)] []) ∧ (FOK Try.prog 160 (o_bits_Mul64 r0.w.w0 r1.w.w0 r2)) ∧ (tplP (ta_bits_Mul64 r0.w.w0 r1.w.w0) (tb_bits_Mul64 r0.w.w0 r1.w.w0) (r2 = bits_Mul64 r0.w.w0 r1.w.w0) [.c (.i .u64 r0.w.w0), .c (.i .u64 r1.w.w0)] []) ∧ some (.agg [.b (!(r0.neg == r1.neg)), .i .u64 r2.2, .i .u64 r2.1] : AV) = some (.agg [.b (!(r0.neg == r1.neg)), .i .u64 r2.2, .i .u64 r2.1])) (by kernel_rfl) ⟨ok_fixed_of x r0, ⟨rfl, rfl, er0⟩, ok_fixed_of y r1, ⟨rfl, rfl, er1⟩, ok_bits_Mul64 r0.w.w0 r1.w.w0 r2, ⟨rfl, rfl, er2⟩, rfl⟩

def ta_ref01_plus (x : Wide) (y : Wide) : List AV := [.agg [.b x.neg, .i .u64 x.hi, .i .u64 x.lo], .agg [.b y.neg, .i .u64 y.hi, .i .u64 y.lo]]

def tb_ref01_plus (x : Wide) (y : Wide) : List (Nat × List (List Cell)) := []

def o_ref01_plus (x : Wide) (y : Wide) (r : Wide) : POfn := tplO (ta_ref01_plus x y) (tb_ref01_plus x y) (P_ref01_plus x y ∧ r = ref01_plus x y) (.agg [.b r.neg, .i .u64 r.hi, .i .u64 r.lo]) []

theorem ok_ref01_plus (x : Wide) (y : Wide) (r : Wide) : FOK Try.prog 145 (o_ref01_plus x y r) := by
  unfold o_ref01_plus
  refine fok_plain (fn := Try.f145) (c := Try.f145.body.getD .skip) tabOK eqOK follows ⟨Try.func145, by kernel_rfl, by kernel_rfl, by kernel_rfl, Nat.le_of_ble_eq_true (by kernel_rfl)⟩ (by kernel_rfl) (fun q hq => by cases hq) ?_
  rintro ⟨hp, hr⟩
  by_cases h0 : x.neg = y.neg
  · skip
    obtain ⟨r0, er0⟩ : ∃ q, q = bits_Add64 x.lo y.lo 0 := ⟨_, rfl⟩
    obtain ⟨r1, er1⟩ : ∃ q, q = bits_Add64 x.hi y.hi r0.2 := ⟨_, rfl⟩
    have n0 : P_carry x.hi y.hi r0.2 := by subst er1 er0; exact (Eq.mp (if_pos h0) (hp)).1
    rw [show r = (⟨x.neg, r1.1, r0.1⟩ : Wide) from hr.trans (by subst er1 er0; unfold ref01_plus; exact (if_pos h0).trans rfl)]
    exact of_run (ds := [.br true, .use (o_bits_Add64 x.lo y.lo 0 r0), .use (o_bits_Add64 x.hi y.hi r0.2 r1)]) (B := ((x.neg == y.neg) = true) ∧ (FOK Try.prog 161 (o_bits_Add64 x.lo y.lo 0 r0)) ∧ (tplP (ta_bits_Add64 x.lo y.lo 0) (tb_bits_Add64 x.lo y.lo 0) (P_carry x.lo y.lo 0 ∧ r0 = bits_Add64 x.lo y.lo 0) [.c (.i .u64 x.lo), .c (.i .u64 y.lo), .c (.i .u64 0)] []) ∧ (FOK Try.prog 161 (o_bits_Add64 x.hi y.hi r0.2 r1)) ∧ (tplP (ta_bits_Add64 x.hi y.hi r0.2) (tb_bits_Add64 x.hi y.hi r0.2) (P_carry x.hi y.hi r0.2 ∧ r1 = bits_Add64 x.hi y.hi r0.2) [.c (.i .u64 x.hi), .c (.i .u64 y.hi), .c (.i .u64 r0.2)] []) ∧ some (.agg [.b x.neg, .i .u64 r1.1, .i .u64 r0.1] : AV) = some (.agg [.b x.neg, .i .u64 r1.1, .i .u64 r0.1])) (by kernel_rfl) ⟨beq_iff_eq.2 h0, ok_bits_Add64 x.lo y.lo 0 r0, ⟨rfl, rfl, (show P_carry _ _ 0 from by unfold P_carry; decide), er0⟩, ok_bits_Add64 x.hi y.hi r0.2 r1, ⟨rfl, rfl, n0, er1⟩, rfl⟩
  · skip
    obtain ⟨r0, er0⟩ : ∃ q, q = ref01_less x y := ⟨_, rfl⟩
    by_cases h1 : r0 = true
    · skip
      obtain ⟨r1, er1⟩ : ∃ q, q = bits_Sub64 y.lo x.lo 0 := ⟨_, rfl⟩
      obtain ⟨r2, er2⟩ : ∃ q, q = bits_Sub64 y.hi x.hi r1.2 := ⟨_, rfl⟩
      by_cases h2 : y.neg = true
      · skip
        by_cases h3 : r2.1 = 0
        · skip
          rw [show r = (⟨(!(r1.1 == 0)), r2.1, r1.1⟩ : Wide) from hr.trans (by subst er2 er1 er0; unfold ref01_plus; exact (if_neg h0).trans ((if_pos h1).trans ((if_pos h2).trans ((if_pos h3).trans rfl))))]
          exact of_run (ds := [.br false, .use (o_ref01_less x y r0), .br true, .use (o_bits_Sub64 y.lo x.lo 0 r1), .use (o_bits_Sub64 y.hi x.hi r1.2 r2), .br true, .br true, .br true, .br false, .br false, .br true, .br false, .br true]) (B := ((x.neg == y.neg) = false) ∧ (FOK Try.prog 165 (o_ref01_less x y r0)) ∧ (tplP (ta_ref01_less x y) (tb_ref01_less x y) (r0 = ref01_less x y) [.agg [.b x.neg, .i .u64 x.hi, .i .u64 x.lo], .agg [.b y.neg, .i .u64 y.hi, .i .u64 y.lo]] []) ∧ (r0 = true) ∧ (FOK Try.prog 163 (o_bits_Sub64 y.lo x.lo 0 r1)) ∧ (tplP (ta_bits_Sub64 y.lo x.lo 0) (tb_bits_Sub64 y.lo x.lo 0) (P_carry y.lo x.lo 0 ∧ r1 = bits_Sub64 y.lo x.lo 0) [.c (.i .u64 y.lo), .c (.i .u64 x.lo), .c (.i .u64 0)] []) ∧ (FOK Try.prog 163 (o_bits_Sub64 y.hi x.hi r1.2 r2)) ∧ (tplP (ta_bits_Sub64 y.hi x.hi r1.2) (tb_bits_Sub64 y.hi x.hi r1.2) (P_carry y.hi x.hi r1.2 ∧ r2 = bits_Sub64 y.hi x.hi r1.2) [.c (.i .u64 y.hi), .c (.i .u64 x.hi), .c (.i .u64 r1.2)] []) ∧ (y.neg = true) ∧ (y.neg = true) ∧ (y.neg = true) ∧ ((!(r2.1 == 0)) = false) ∧ ((!(r2.1 == 0)) = false) ∧ (y.neg = true) ∧ ((!(r2.1 == 0)) = false) ∧ (y.neg = true) ∧ some (.agg [.b (!(r1.1 == 0)), .i .u64 r2.1, .i .u64 r1.1] : AV) = some (.agg [.b (!(r1.1 == 0)), .i .u64 r2.1, .i .u64 r1.1])) (by kernel_rfl) ⟨beq_eq_false_iff_ne.2 h0, ok_ref01_less x y r0, ⟨rfl, rfl, er0⟩, h1, ok_bits_Sub64 y.lo x.lo 0 r1, ⟨rfl, rfl, (show P_carry _ _ 0 from by unfold P_carry; decide), er1⟩, ok_bits_Sub64 y.hi x.hi r1.2 r2, ⟨rfl, rfl, (borrow_le' er1), er2⟩, h2, h2, h2, not_f (beq_iff_eq.2 h3), not_f (beq_iff_eq.2 h3), h2, not_f (beq_iff_eq.2 h3), h2, rfl⟩
        · skip
          rw [show r = (⟨true, r2.1, r1.1⟩ : Wide) from hr.trans (by subst er2 er1 er0; unfold ref01_plus; exact (if_neg h0).trans ((if_pos h1).trans ((if_pos h2).trans ((if_neg h3).trans rfl))))]
          exact of_run (ds := [.br false, .use (o_ref01_less x y r0), .br true, .use (o_bits_Sub64 y.lo x.lo 0 r1), .use (o_bits_Sub64 y.hi x.hi r1.2 r2), .br true, .br true, .br true, .br true, .br true, .br true, .br true, .br true]) (B := ((x.neg == y.neg) = false) ∧ (FOK Try.prog 165 (o_ref01_less x y r0)) ∧ (tplP (ta_ref01_less x y) (tb_ref01_less x y) (r0 = ref01_less x y) [.agg [.b x.neg, .i .u64 x.hi, .i .u64 x.lo], .agg [.b y.neg, .i .u64 y.hi, .i .u64 y.lo]] []) ∧ (r0 = true) ∧ (FOK Try.prog 163 (o_bits_Sub64 y.lo x.lo 0 r1)) ∧ (tplP (ta_bits_Sub64 y.lo x.lo 0) (tb_bits_Sub64 y.lo x.lo 0) (P_carry y.lo x.lo 0 ∧ r1 = bits_Sub64 y.lo x.lo 0) [.c (.i .u64 y.lo), .c (.i .u64 x.lo), .c (.i .u64 0)] []) ∧ (FOK Try.prog 163 (o_bits_Sub64 y.hi x.hi r1.2 r2)) ∧ (tplP (ta_bits_Sub64 y.hi x.hi r1.2) (tb_bits_Sub64 y.hi x.hi r1.2) (P_carry y.hi x.hi r1.2 ∧ r2 = bits_Sub64 y.hi x.hi r1.2) [.c (.i .u64 y.hi), .c (.i .u64 x.hi), .c (.i .u64 r1.2)] []) ∧ (y.neg = true) ∧ (y.neg = true) ∧ (y.neg = true) ∧ ((!(r2.1 == 0)) = true) ∧ ((!(r2.1 == 0)) = true) ∧ (y.neg = true) ∧ ((!(r2.1 == 0)) = true) ∧ (y.neg = true) ∧ some (.agg [.b true, .i .u64 r2.1, .i .u64 r1.1] : AV) = some (.agg [.b true, .i .u64 r2.1, .i .u64 r1.1])) (by kernel_rfl) ⟨beq_eq_false_iff_ne.2 h0, ok_ref01_less x y r0, ⟨rfl, rfl, er0⟩, h1, ok_bits_Sub64 y.lo x.lo 0 r1, ⟨rfl, rfl, (show P_carry _ _ 0 from by unfold P_carry; decide), er1⟩, ok_bits_Sub64 y.hi x.hi r1.2 r2, ⟨rfl, rfl, (borrow_le' er1), er2⟩, h2, h2, h2, not_t (beq_eq_false_iff_ne.2 h3), not_t (beq_eq_false_iff_ne.2 h3), h2, not_t (beq_eq_false_iff_ne.2 h3), h2, rfl⟩
      · skip
        rw [show r = (⟨false, r2.1, r1.1⟩ : Wide) from hr.trans (by subst er2 er1 er0; unfold ref01_plus; exact (if_neg h0).trans ((if_pos h1).trans ((if_neg h2).trans rfl)))]
        exact of_run (ds := [.br false, .use (o_ref01_less x y r0), .br true, .use (o_bits_Sub64 y.lo x.lo 0 r1), .use (o_bits_Sub64 y.hi x.hi r1.2 r2), .br false, .br false, .br false, .br false, .br false]) (B := ((x.neg == y.neg) = false) ∧ (FOK Try.prog 165 (o_ref01_less x y r0)) ∧ (tplP (ta_ref01_less x y) (tb_ref01_less x y) (r0 = ref01_less x y) [.agg [.b x.neg, .i .u64 x.hi, .i .u64 x.lo], .agg [.b y.neg, .i .u64 y.hi, .i .u64 y.lo]] []) ∧ (r0 = true) ∧ (FOK Try.prog 163 (o_bits_Sub64 y.lo x.lo 0 r1)) ∧ (tplP (ta_bits_Sub64 y.lo x.lo 0) (tb_bits_Sub64 y.lo x.lo 0) (P_carry y.lo x.lo 0 ∧ r1 = bits_Sub64 y.lo x.lo 0) [.c (.i .u64 y.lo), .c (.i .u64 x.lo), .c (.i .u64 0)] []) ∧ (FOK Try.prog 163 (o_bits_Sub64 y.hi x.hi r1.2 r2)) ∧ (tplP (ta_bits_Sub64 y.hi x.hi r1.2) (tb_bits_Sub64 y.hi x.hi r1.2) (P_carry y.hi x.hi r1.2 ∧ r2 = bits_Sub64 y.hi x.hi r1.2) [.c (.i .u64 y.hi), .c (.i .u64 x.hi), .c (.i .u64 r1.2)] []) ∧ (y.neg = false) ∧ (y.neg = false) ∧ (y.neg = false) ∧ (y.neg = false) ∧ (y.neg = false) ∧ some (.agg [.b false, .i .u64 r2.1, .i .u64 r1.1] : AV) = some (.agg [.b false, .i .u64 r2.1, .i .u64 r1.1])) (by kernel_rfl) ⟨beq_eq_false_iff_ne.2 h0, ok_ref01_less x y r0, ⟨rfl, rfl, er0⟩, h1, ok_bits_Sub64 y.lo x.lo 0 r1, ⟨rfl, rfl, (show P_carry _ _ 0 from by unfold P_carry; decide), er1⟩, ok_bits_Sub64 y.hi x.hi r1.2 r2, ⟨rfl, rfl, (borrow_le' er1), er2⟩, Bool.eq_false_iff.2 h2, Bool.eq_false_iff.2 h2, Bool.eq_false_iff.2 h2, Bool.eq_false_iff.2 h2, Bool.eq_false_iff.2 h2, rfl⟩
    · skip
      obtain ⟨r1, er1⟩ : ∃ q, q = bits_Sub64 x.lo y.lo 0 := ⟨_, rfl⟩
      obtain ⟨r2, er2⟩ : ∃ q, q = bits_Sub64 x.hi y.hi r1.2 := ⟨_, rfl⟩
      by_cases h2 : x.neg = true
      · skip
        by_cases h3 : r2.1 = 0
        · skip
          rw [show r = (⟨(!(r1.1 == 0)), r2.1, r1.1⟩ : Wide) from hr.trans (by subst er2 er1 er0; unfold ref01_plus; exact (if_neg h0).trans ((if_neg h1).trans ((if_pos h2).trans ((if_pos h3).trans rfl))))]
          exact of_run (ds := [.br false, .use (o_ref01_less x y r0), .br false, .use (o_bits_Sub64 x.lo y.lo 0 r1), .use (o_bits_Sub64 x.hi y.hi r1.2 r2), .br true, .br true, .br true, .br false, .br false, .br true, .br false, .br true]) (B := ((x.neg == y.neg) = false) ∧ (FOK Try.prog 165 (o_ref01_less x y r0)) ∧ (tplP (ta_ref01_less x y) (tb_ref01_less x y) (r0 = ref01_less x y) [.agg [.b x.neg, .i .u64 x.hi, .i .u64 x.lo], .agg [.b y.neg, .i .u64 y.hi, .i .u64 y.lo]] []) ∧ (r0 = false) ∧ (FOK Try.prog 163 (o_bits_Sub64 x.lo y.lo 0 r1)) ∧ (tplP (ta_bits_Sub64 x.lo y.lo 0) (tb_bits_Sub64 x.lo y.lo 0) (P_carry x.lo y.lo 0 ∧ r1 = bits_Sub64 x.lo y.lo 0) [.c (.i .u64 x.lo), .c (.i .u64 y.lo), .c (.i .u64 0)] []) ∧ (FOK Try.prog 163 (o_bits_Sub64 x.hi y.hi r1.2 r2)) ∧ (tplP (ta_bits_Sub64 x.hi y.hi r1.2) (tb_bits_Sub64 x.hi y.hi r1.2) (P_carry x.hi y.hi r1.2 ∧ r2 = bits_Sub64 x.hi y.hi r1.2) [.c (.i .u64 x.hi), .c (.i .u64 y.hi), .c (.i .u64 r1.2)] []) ∧ (x.neg = true) ∧ (x.neg = true) ∧ (x.neg = true) ∧ ((!(r2.1 == 0)) = false) ∧ ((!(r2.1 == 0)) = false) ∧ (x.neg = true) ∧ ((!(r2.1 == 0)) = false) ∧ (x.neg = true) ∧ some (.agg [.b (!(r1.1 == 0)), .i .u64 r2.1, .i .u64 r1.1] : AV) = some (.agg [.b (!(r1.1 == 0)), .i .u64 r2.1, .i .u64 r1.1])) (by kernel_rfl) ⟨beq_eq_false_iff_ne.2 h0, ok_ref01_less x y r0, ⟨rfl, rfl, er0⟩, Bool.eq_false_iff.2 h1, ok_bits_Sub64 x.lo y.lo 0 r1, ⟨rfl, rfl, (show P_carry _ _ 0 from by unfold P_carry; decide), er1⟩, ok_bits_Sub64 x.hi y.hi r1.2 r2, ⟨rfl, rfl, (borrow_le' er1), er2⟩, h2, h2, h2, not_f (beq_iff_eq.2 h3), not_f (beq_iff_eq.2 h3), h2, not_f (beq_iff_eq.2 h3), h2, rfl⟩
        · skip
          rw [show r = (⟨true, r2.1, r1.1⟩ : Wide) from hr.trans (by subst er2 er1 er0; unfold ref01_plus; exact (if_neg h0).trans ((if_neg h1).trans ((if_pos h2).trans ((if_neg h3).trans rfl))))]
          exact of_run (ds := [.br false, .use (o_ref01_less x y r0), .br false, .use (o_bits_Sub64 x.lo y.lo 0 r1), .use (o_bits_Sub64 x.hi y.hi r1.2 r2), .br true, .br true, .br true, .br true, .br true, .br true, .br true, .br true]) (B := ((x.neg == y.neg) = false) ∧ (FOK Try.prog 165 (o_ref01_less x y r0)) ∧ (tplP (ta_ref01_less x y) (tb_ref01_less x y) (r0 = ref01_less x y) [.agg [.b x.neg, .i .u64 x.hi, .i .u64 x.lo], .agg [.b y.neg, .i .u64 y.hi, .i .u64 y.lo]] []) ∧ (r0 = false) ∧ (FOK Try.prog 163 (o_bits_Sub64 x.lo y.lo 0 r1)) ∧ (tplP (ta_bits_Sub64 x.lo y.lo 0) (tb_bits_Sub64 x.lo y.lo 0) (P_carry x.lo y.lo 0 ∧ r1 = bits_Sub64 x.lo y.lo 0) [.c (.i .u64 x.lo), .c (.i .u64 y.lo), .c (.i .u64 0)] []) ∧ (FOK Try.prog 163 (o_bits_Sub64 x.hi y.hi r1.2 r2)) ∧ (tplP (ta_bits_Sub64 x.hi y.hi r1.2) (tb_bits_Sub64 x.hi y.hi r1.2) (P_carry x.hi y.hi r1.2 ∧ r2 = bits_Sub64 x.hi y.hi r1.2) [.c (.i .u64 x.hi), .c (.i .u64 y.hi), .c (.i .u64 r1.2)] []) ∧ (x.neg = true) ∧ (x.neg = true) ∧ (x.neg = true) ∧ ((!(r2.1 == 0)) = true) ∧ ((!(r2.1 == 0)) = true) ∧ (x.neg = true) ∧ ((!(r2.1 == 0)) = true) ∧ (x.neg = true) ∧ some (.agg [.b true, .i .u64 r2.1, .i .u64 r1.1] : AV) = some (.agg [.b true, .i .u64 r2.1, .i .u64 r1.1])) (by kernel_rfl) ⟨beq_eq_false_iff_ne.2 h0, ok_ref01_less x y r0, ⟨rfl, rfl, er0⟩, Bool.eq_false_iff.2 h1, ok_bits_Sub64 x.lo y.lo 0 r1, ⟨rfl, rfl, (show P_carry _ _ 0 from by unfold P_carry; decide), er1⟩, ok_bits_Sub64 x.hi y.hi r1.2 r2, ⟨rfl, rfl, (borrow_le' er1), er2⟩, h2, h2, h2, not_t (beq_eq_false_iff_ne.2 h3), not_t (beq_eq_false_iff_ne.2 h3), h2, not_t (beq_eq_false_iff_ne.2 h3), h2, rfl⟩
      · skip
        rw [show r = (⟨false, r2.1, r1.1⟩ : Wide) from hr.trans (by subst er2 er1 er0; unfold ref01_plus; exact (if_neg h0).trans ((if_neg h1).trans ((if_neg h2).trans rfl)))]
        exact of_run (ds := [.br false, .use (o_ref01_less x y r0), .br false, .use (o_bits_Sub64 x.lo y.lo 0 r1), .use (o_bits_Sub64 x.hi y.hi r1.2 r2), .br false, .br false, .br false, .br false, .br false]) (B := ((x.neg == y.neg) = false) ∧ (FOK Try.prog 165 (o_ref01_less x y r0)) ∧ (tplP (ta_ref01_less x y) (tb_ref01_less x y) (r0 = ref01_less x y) [.agg [.b x.neg, .i .u64 x.hi, .i .u64 x.lo], .agg [.b y.neg, .i .u64 y.hi, .i .u64 y.lo]] []) ∧ (r0 = false) ∧ (FOK Try.prog 163 (o_bits_Sub64 x.lo y.lo 0 r1)) ∧ (tplP (ta_bits_Sub64 x.lo y.lo 0) (tb_bits_Sub64 x.lo y.lo 0) (P_carry x.lo y.lo 0 ∧ r1 = bits_Sub64 x.lo y.lo 0) [.c (.i .u64 x.lo), .c (.i .u64 y.lo), .c (.i .u64 0)] []) ∧ (FOK Try.prog 163 (o_bits_Sub64 x.hi y.hi r1.2 r2)) ∧ (tplP (ta_bits_Sub64 x.hi y.hi r1.2) (tb_bits_Sub64 x.hi y.hi r1.2) (P_carry x.hi y.hi r1.2 ∧ r2 = bits_Sub64 x.hi y.hi r1.2) [.c (.i .u64 x.hi), .c (.i .u64 y.hi), .c (.i .u64 r1.2)] []) ∧ (x.neg = false) ∧ (x.neg = false) ∧ (x.neg = false) ∧ (x.neg = false) ∧ (x.neg = false) ∧ some (.agg [.b false, .i .u64 r2.1, .i .u64 r1.1] : AV) = some (.agg [.b false, .i .u64 r2.1, .i .u64 r1.1])) (by kernel_rfl) ⟨beq_eq_false_iff_ne.2 h0, ok_ref01_less x y r0, ⟨rfl, rfl, er0⟩, Bool.eq_false_iff.2 h1, ok_bits_Sub64 x.lo y.lo 0 r1, ⟨rfl, rfl, (show P_carry _ _ 0 from by unfold P_carry; decide), er1⟩, ok_bits_Sub64 x.hi y.hi r1.2 r2, ⟨rfl, rfl, (borrow_le' er1), er2⟩, Bool.eq_false_iff.2 h2, Bool.eq_false_iff.2 h2, Bool.eq_false_iff.2 h2, Bool.eq_false_iff.2 h2, Bool.eq_false_iff.2 h2, rfl⟩

def ta_ref01_times (x : Int) (y : Int) : List AV := [.c (.i .i64 x), .c (.i .i64 y)]

def tb_ref01_times (x : Int) (y : Int) : List (Nat × List (List Cell)) := []

def o_ref01_times (x : Int) (y : Int) (r : Wide) : POfn := tplO (ta_ref01_times x y) (tb_ref01_times x y) (r = ref01_times x y) (.agg [.b r.neg, .i .u64 r.hi, .i .u64 r.lo]) []

theorem ok_ref01_times (x : Int) (y : Int) (r : Wide) : FOK Try.prog 146 (o_ref01_times x y r) := by
  unfold o_ref01_times
  refine fok_plain (fn := Try.f146) (c := Try.f146.body.getD .skip) tabOK eqOK follows ⟨Try.func146, by kernel_rfl, by kernel_rfl, by kernel_rfl, Nat.le_of_ble_eq_true (by kernel_rfl)⟩ (by kernel_rfl) (fun q hq => by cases hq) ?_
  intro hr
  obtain ⟨r0, er0⟩ : ∃ q, q = ref01_size x := ⟨_, rfl⟩
  obtain ⟨r1, er1⟩ : ∃ q, q = ref01_size y := ⟨_, rfl⟩
  obtain ⟨r2, er2⟩ : ∃ q, q = bits_Mul64 r0 r1 := ⟨_, rfl⟩
  by_cases h0 : decide (x < 0) = decide (y < 0)
  · skip
    rw [show r = (⟨false, r2.1, r2.2⟩ : Wide) from hr.trans (by subst er2 er1 er0; unfold ref01_times; exact (if_pos h0).trans rfl)]
    exact of_run (ds := [.use (o_ref01_size x r0), .use (o_ref01_size y r1), .use (o_bits_Mul64 r0 r1 r2), .br false, .br false, .br false, .br false, .br false, .br false]) (B := (FOK Try.prog 139 (o_ref01_size x r0)) ∧ (tplP (ta_ref01_size x) (tb_ref01_size x) (r0 = ref01_size x) [.c (.i .i64 x)] []) ∧ (FOK Try.prog 139 (o_ref01_size y r1)) ∧ (tplP (ta_ref01_size y) (tb_ref01_size y) (r1 = ref01_size y) [.c (.i .i64 y)] []) ∧ (FOK Try.prog 160 (o_bits_Mul64 r0 r1 r2)) ∧ (tplP (ta_bits_Mul64 r0 r1) (tb_bits_Mul64 r0 r1) (r2 = bits_Mul64 r0 r1) [.c (.i .u64 r0), .c (.i .u64 r1)] []) ∧ ((!(decide (x < 0) == decide (y < 0))) = false) ∧ ((!(decide (x < 0) == decide (y < 0))) = false) ∧ ((!(decide (x < 0) == decide (y < 0))) = false) ∧ (false = false) ∧ (false = false) ∧ (false = false) ∧ some (.agg [.b false, .i .u64 r2.1, .i .u64 r2.2] : AV) = some (.agg [.b false, .i .u64 r2.1, .i .u64 r2.2])) (by kernel_rfl) ⟨ok_ref01_size x r0, ⟨rfl, rfl, er0⟩, ok_ref01_size y r1, ⟨rfl, rfl, er1⟩, ok_bits_Mul64 r0 r1 r2, ⟨rfl, rfl, er2⟩, not_f (beq_iff_eq.2 h0), not_f (beq_iff_eq.2 h0), not_f (beq_iff_eq.2 h0), rfl, rfl, rfl, rfl⟩
  · skip
    by_cases h1 : x = 0
    · skip
      rw [show r = (⟨false, r2.1, r2.2⟩ : Wide) from hr.trans (by subst er2 er1 er0; unfold ref01_times; exact (if_neg h0).trans ((if_pos h1).trans rfl))]
      exact of_run (ds := [.use (o_ref01_size x r0), .use (o_ref01_size y r1), .use (o_bits_Mul64 r0 r1 r2), .br true, .br true, .br true, .br false, .br false, .br false]) (B := (FOK Try.prog 139 (o_ref01_size x r0)) ∧ (tplP (ta_ref01_size x) (tb_ref01_size x) (r0 = ref01_size x) [.c (.i .i64 x)] []) ∧ (FOK Try.prog 139 (o_ref01_size y r1)) ∧ (tplP (ta_ref01_size y) (tb_ref01_size y) (r1 = ref01_size y) [.c (.i .i64 y)] []) ∧ (FOK Try.prog 160 (o_bits_Mul64 r0 r1 r2)) ∧ (tplP (ta_bits_Mul64 r0 r1) (tb_bits_Mul64 r0 r1) (r2 = bits_Mul64 r0 r1) [.c (.i .u64 r0), .c (.i .u64 r1)] []) ∧ ((!(decide (x < 0) == decide (y < 0))) = true) ∧ ((!(decide (x < 0) == decide (y < 0))) = true) ∧ ((!(decide (x < 0) == decide (y < 0))) = true) ∧ ((!(x == 0)) = false) ∧ ((!(x == 0)) = false) ∧ ((!(x == 0)) = false) ∧ some (.agg [.b false, .i .u64 r2.1, .i .u64 r2.2] : AV) = some (.agg [.b false, .i .u64 r2.1, .i .u64 r2.2])) (by kernel_rfl) ⟨ok_ref01_size x r0, ⟨rfl, rfl, er0⟩, ok_ref01_size y r1, ⟨rfl, rfl, er1⟩, ok_bits_Mul64 r0 r1 r2, ⟨rfl, rfl, er2⟩, not_t (beq_eq_false_iff_ne.2 h0), not_t (beq_eq_false_iff_ne.2 h0), not_t (beq_eq_false_iff_ne.2 h0), not_f (beq_iff_eq.2 h1), not_f (beq_iff_eq.2 h1), not_f (beq_iff_eq.2 h1), rfl⟩
    · skip
      rw [show r = (⟨(!(y == 0)), r2.1, r2.2⟩ : Wide) from hr.trans (by subst er2 er1 er0; unfold ref01_times; exact (if_neg h0).trans ((if_neg h1).trans rfl))]
      exact of_run (ds := [.use (o_ref01_size x r0), .use (o_ref01_size y r1), .use (o_bits_Mul64 r0 r1 r2), .br true, .br true, .br true, .br true, .br true, .br true]) (B := (FOK Try.prog 139 (o_ref01_size x r0)) ∧ (tplP (ta_ref01_size x) (tb_ref01_size x) (r0 = ref01_size x) [.c (.i .i64 x)] []) ∧ (FOK Try.prog 139 (o_ref01_size y r1)) ∧ (tplP (ta_ref01_size y) (tb_ref01_size y) (r1 = ref01_size y) [.c (.i .i64 y)] []) ∧ (FOK Try.prog 160 (o_bits_Mul64 r0 r1 r2)) ∧ (tplP (ta_bits_Mul64 r0 r1) (tb_bits_Mul64 r0 r1) (r2 = bits_Mul64 r0 r1) [.c (.i .u64 r0), .c (.i .u64 r1)] []) ∧ ((!(decide (x < 0) == decide (y < 0))) = true) ∧ ((!(decide (x < 0) == decide (y < 0))) = true) ∧ ((!(decide (x < 0) == decide (y < 0))) = true) ∧ ((!(x == 0)) = true) ∧ ((!(x == 0)) = true) ∧ ((!(x == 0)) = true) ∧ some (.agg [.b (!(y == 0)), .i .u64 r2.1, .i .u64 r2.2] : AV) = some (.agg [.b (!(y == 0)), .i .u64 r2.1, .i .u64 r2.2])) (by kernel_rfl) ⟨ok_ref01_size x r0, ⟨rfl, rfl, er0⟩, ok_ref01_size y r1, ⟨rfl, rfl, er1⟩, ok_bits_Mul64 r0 r1 r2, ⟨rfl, rfl, er2⟩, not_t (beq_eq_false_iff_ne.2 h0), not_t (beq_eq_false_iff_ne.2 h0), not_t (beq_eq_false_iff_ne.2 h0), not_t (beq_eq_false_iff_ne.2 h1), not_t (beq_eq_false_iff_ne.2 h1), not_t (beq_eq_false_iff_ne.2 h1), rfl⟩

def slices_IndexFunc_L0_H (c0 : Option Nat) (x : (List Vec)) (s : Int) : St := mkS [(0, .c (.slc (0, 0) 0 4 x.length (c0))), (1, .fn 109 []), (4, .c (.i .i64 0)), (7, .c (.i .i64 ((x.length : Nat) : Int))), (8, .c (.i .i64 s))] [((0, 0), ⟨rowsOf rVec x, 4, 0, false, none⟩)] 1 1

def slices_IndexFunc_L0_X (c0 : Option Nat) (x : (List Vec)) (v : Nat × (Int) × (Unit)) : Exit × St := if v.1 = 0 then (.ret, mkS [(4, .c (.i .i64 v.2.1))] [((0, 0), ⟨rowsOf rVec x, 4, 0, false, none⟩)] 1 1) else ((.exit 0), mkS [(4, .c (.i .i64 0))] [((0, 0), ⟨rowsOf rVec x, 4, 0, false, none⟩)] 1 1)

theorem slices_IndexFunc_L0_round (c0 : Option Nat) (x : (List Vec)) : ∀ s : Int, RoundOK tab EQ Try.prog (loopAt Try.f149 0) (slices_IndexFunc_L0_step x) (slices_IndexFunc_L0_H c0 x) (slices_IndexFunc_L0_X c0 x) s := by
  intro s
  by_cases qh0 : s < ((x.length : Nat) : Int)
  · skip
    by_cases qn0 : ((0 : Int) ≤ s ∧ s < ((x.length : Nat) : Int))
    rotate_left
    · have hs : slices_IndexFunc_L0_step x s = none := by unfold slices_IndexFunc_L0_step; exact (if_pos qh0).trans ((if_neg qn0).trans rfl)
      exact round_none hs
    obtain ⟨qr0, eqr0⟩ : ∃ q, q = plane_Fault_in1 (nth x s) := ⟨_, rfl⟩
    by_cases qh1 : qr0 = true
    · skip
      have hs : slices_IndexFunc_L0_step x s = some (.inr (0, s, default)) := by subst eqr0; unfold slices_IndexFunc_L0_step; exact (if_pos qh0).trans ((if_pos qn0).trans ((if_pos qh1).trans rfl))
      exact round_inr hs (e := .ret) rfl (by intro h; cases h) (stepR (ds := [.br true, .row [.i .i64 (((nth x s).X).V), .b (((nth x s).X).F), .i .i64 (((nth x s).Y).V), .b (((nth x s).Y).F)], .use (o_plane_Fault_in1 (nth x s) qr0), .br true]) (B := (decide (s < ((x.length : Nat) : Int)) = true) ∧ (((0 : Int) ≤ s ∧ s < ((x.length : Nat) : Int))) ∧ (0 + (s).toNat < (rowsOf rVec x).length) ∧ ((rowsOf rVec x)[0 + (s).toNat]? = some [.i .i64 (((nth x s).X).V), .b (((nth x s).X).F), .i .i64 (((nth x s).Y).V), .b (((nth x s).Y).F)]) ∧ (FOK Try.prog 109 (o_plane_Fault_in1 (nth x s) qr0)) ∧ (tplP (ta_plane_Fault_in1 (nth x s)) (tb_plane_Fault_in1 (nth x s)) (qr0 = plane_Fault_in1 (nth x s)) [.agg [.i .i64 (((nth x s).X).V), .b (((nth x s).X).F), .i .i64 (((nth x s).Y).V), .b (((nth x s).Y).F)]] []) ∧ (qr0 = true) ∧ (((.c (.i .i64 s) : AV) = .c (.i .i64 s) ∧ True) ∧ ((some ⟨rowsOf rVec x, 4, 0, false, none⟩ : Option Blk) = some ⟨rowsOf rVec x, 4, 0, false, none⟩ ∧ True) ∧ 1 = 1 ∧ ((some ⟨rowsOf rVec x, 4, 0, false, none⟩ : Option Blk) = some ⟨rowsOf rVec x, 4, 0, false, none⟩ ∧ True) ∧ closL [(4, .c (.i .i64 s))] [((0, 0), ⟨rowsOf rVec x, 4, 0, false, none⟩)] 1 1)) (by kernel_rfl) ⟨decide_eq_true qh0, qn0, rows_lt (A := rVec) rfl qn0, rows_nth (A := rVec) (l := x) rfl qn0, ok_plane_Fault_in1 (nth x s) qr0, ⟨rfl, rfl, eqr0⟩, qh1, ⟨⟨rfl, trivial⟩, ⟨rfl, trivial⟩, rfl, ⟨rfl, trivial⟩, closL_mk (by kernel_rfl) ⟨⟨rows_okAll (A := rVec) rfl _, by decide⟩, trivial⟩⟩⟩)
    · skip
      have hs : slices_IndexFunc_L0_step x s = some (.inl (IntKind.i64.wrap (s + 1))) := by subst eqr0; unfold slices_IndexFunc_L0_step; exact (if_pos qh0).trans ((if_pos qn0).trans ((if_neg qh1).trans rfl))
      exact round_inl hs (stepN (ds := [.br true, .row [.i .i64 (((nth x s).X).V), .b (((nth x s).X).F), .i .i64 (((nth x s).Y).V), .b (((nth x s).Y).F)], .use (o_plane_Fault_in1 (nth x s) qr0), .br false]) (B := (decide (s < ((x.length : Nat) : Int)) = true) ∧ (((0 : Int) ≤ s ∧ s < ((x.length : Nat) : Int))) ∧ (0 + (s).toNat < (rowsOf rVec x).length) ∧ ((rowsOf rVec x)[0 + (s).toNat]? = some [.i .i64 (((nth x s).X).V), .b (((nth x s).X).F), .i .i64 (((nth x s).Y).V), .b (((nth x s).Y).F)]) ∧ (FOK Try.prog 109 (o_plane_Fault_in1 (nth x s) qr0)) ∧ (tplP (ta_plane_Fault_in1 (nth x s)) (tb_plane_Fault_in1 (nth x s)) (qr0 = plane_Fault_in1 (nth x s)) [.agg [.i .i64 (((nth x s).X).V), .b (((nth x s).X).F), .i .i64 (((nth x s).Y).V), .b (((nth x s).Y).F)]] []) ∧ (qr0 = false) ∧ (((.c (.slc (0, 0) 0 4 x.length (c0)) : AV) = .c (.slc (0, 0) 0 4 x.length (c0)) ∧ (.fn 109 [] : AV) = .fn 109 [] ∧ (.c (.i .i64 0) : AV) = .c (.i .i64 0) ∧ (.c (.i .i64 ((x.length : Nat) : Int)) : AV) = .c (.i .i64 ((x.length : Nat) : Int)) ∧ (.c (.i .i64 (IntKind.i64.wrap (s + 1))) : AV) = .c (.i .i64 (IntKind.i64.wrap (s + 1))) ∧ True) ∧ ((some ⟨rowsOf rVec x, 4, 0, false, none⟩ : Option Blk) = some ⟨rowsOf rVec x, 4, 0, false, none⟩ ∧ True) ∧ 1 = 1 ∧ ((some ⟨rowsOf rVec x, 4, 0, false, none⟩ : Option Blk) = some ⟨rowsOf rVec x, 4, 0, false, none⟩ ∧ True) ∧ closL [(0, .c (.slc (0, 0) 0 4 x.length (c0))), (1, .fn 109 []), (4, .c (.i .i64 0)), (7, .c (.i .i64 ((x.length : Nat) : Int))), (8, .c (.i .i64 (IntKind.i64.wrap (s + 1))))] [((0, 0), ⟨rowsOf rVec x, 4, 0, false, none⟩)] 1 1)) (by kernel_rfl) ⟨decide_eq_true qh0, qn0, rows_lt (A := rVec) rfl qn0, rows_nth (A := rVec) (l := x) rfl qn0, ok_plane_Fault_in1 (nth x s) qr0, ⟨rfl, rfl, eqr0⟩, Bool.eq_false_iff.2 qh1, ⟨⟨rfl, rfl, rfl, rfl, rfl, trivial⟩, ⟨rfl, trivial⟩, rfl, ⟨rfl, trivial⟩, closL_mk (by kernel_rfl) ⟨⟨rows_okAll (A := rVec) rfl _, by decide⟩, trivial⟩⟩⟩)
  · skip
    have hs : slices_IndexFunc_L0_step x s = some (.inr (1, default, ())) := by unfold slices_IndexFunc_L0_step; exact (if_neg qh0).trans rfl
    exact round_inr hs (e := (.exit 0)) rfl (by intro h; cases h) (stepX (id := 0) (ds := [.br false]) (B := (decide (s < ((x.length : Nat) : Int)) = false) ∧ (((.c (.i .i64 0) : AV) = .c (.i .i64 0) ∧ True) ∧ ((some ⟨rowsOf rVec x, 4, 0, false, none⟩ : Option Blk) = some ⟨rowsOf rVec x, 4, 0, false, none⟩ ∧ True) ∧ 1 = 1 ∧ ((some ⟨rowsOf rVec x, 4, 0, false, none⟩ : Option Blk) = some ⟨rowsOf rVec x, 4, 0, false, none⟩ ∧ True) ∧ closL [(4, .c (.i .i64 0))] [((0, 0), ⟨rowsOf rVec x, 4, 0, false, none⟩)] 1 1)) (by kernel_rfl) ⟨decide_eq_false qh0, ⟨⟨rfl, trivial⟩, ⟨rfl, trivial⟩, rfl, ⟨rfl, trivial⟩, closL_mk (by kernel_rfl) ⟨⟨rows_okAll (A := rVec) rfl _, by decide⟩, trivial⟩⟩⟩)

def ta_slices_IndexFunc (x : (List Vec)) (c0 : Option Nat) : List AV := [.c (.slc (0, 0) 0 4 x.length (c0)), .fn 109 []]

def tb_slices_IndexFunc (x : (List Vec)) : List (Nat × List (List Cell)) := [(4, rowsOf rVec x)]

def o_slices_IndexFunc (x : (List Vec)) (c0 : Option Nat) (r : Int) : POfn := tplO (ta_slices_IndexFunc x c0) (tb_slices_IndexFunc x) (P_slices_IndexFunc x ∧ r = slices_IndexFunc x) (.c (.i .i64 r)) []

theorem ok_slices_IndexFunc (x : (List Vec)) (c0 : Option Nat) (r : Int) : FOK Try.prog 149 (o_slices_IndexFunc x c0 r) := by
  unfold o_slices_IndexFunc
  refine fok_plain (fn := Try.f149) (c := Try.f149.body.getD .skip) tabOK eqOK follows ⟨Try.func149, by kernel_rfl, by kernel_rfl, by kernel_rfl, Nat.le_of_ble_eq_true (by kernel_rfl)⟩ (by kernel_rfl) (by intro q hq; simp only [tb_slices_IndexFunc, List.mem_cons, List.not_mem_nil, or_false] at hq; rcases hq with rfl <;> exact rowsOf_plain _ _) ?_
  rintro ⟨hp, hr⟩
  have n0 : (iterO (slices_IndexFunc_L0_step x) NN 0).isSome = true := by exact (hp).1
  obtain ⟨r0, lr0⟩ := Option.isSome_iff_exists.1 n0
  have er0 : r0 = (iterO (slices_IndexFunc_L0_step x) NN 0).getD default := by rw [lr0]; rfl
  by_cases h0 : r0.1 = 0
  · skip
    rw [show r = r0.2.1 from hr.trans (by subst er0; unfold slices_IndexFunc; exact (if_pos h0).trans rfl)]
    exact of_run (ds := [.to [(0, .c (.slc (0, 0) 0 4 x.length (c0))), (1, .fn 109 []), (4, .c (.i .i64 0)), (7, .c (.i .i64 ((x.length : Nat) : Int))), (8, .c (.i .i64 0))] [((0, 0), ⟨rowsOf rVec x, 4, 0, false, none⟩)] 1 1 .ret (mkS [(4, .c (.i .i64 r0.2.1))] [((0, 0), ⟨rowsOf rVec x, 4, 0, false, none⟩)] 1 1)]) (B := ((((.c (.slc (0, 0) 0 4 x.length (c0)) : AV) = .c (.slc (0, 0) 0 4 x.length (c0)) ∧ (.fn 109 [] : AV) = .fn 109 [] ∧ (.c (.i .i64 0) : AV) = .c (.i .i64 0) ∧ (.c (.i .i64 ((x.length : Nat) : Int)) : AV) = .c (.i .i64 ((x.length : Nat) : Int)) ∧ (.c (.i .i64 0) : AV) = .c (.i .i64 0) ∧ True) ∧ ((some ⟨rowsOf rVec x, 4, 0, false, none⟩ : Option Blk) = some ⟨rowsOf rVec x, 4, 0, false, none⟩ ∧ True) ∧ 1 = 1 ∧ ((some ⟨rowsOf rVec x, 4, 0, false, none⟩ : Option Blk) = some ⟨rowsOf rVec x, 4, 0, false, none⟩ ∧ True) ∧ closL [(0, .c (.slc (0, 0) 0 4 x.length (c0))), (1, .fn 109 []), (4, .c (.i .i64 0)), (7, .c (.i .i64 ((x.length : Nat) : Int))), (8, .c (.i .i64 0))] [((0, 0), ⟨rowsOf rVec x, 4, 0, false, none⟩)] 1 1)) ∧ (LoopTo tab EQ Try.prog (loopAt Try.f149 0) (mkS [(0, .c (.slc (0, 0) 0 4 x.length (c0))), (1, .fn 109 []), (4, .c (.i .i64 0)), (7, .c (.i .i64 ((x.length : Nat) : Int))), (8, .c (.i .i64 0))] [((0, 0), ⟨rowsOf rVec x, 4, 0, false, none⟩)] 1 1) .ret (mkS [(4, .c (.i .i64 r0.2.1))] [((0, 0), ⟨rowsOf rVec x, 4, 0, false, none⟩)] 1 1)) ∧ some (.c (.i .i64 r0.2.1) : AV) = some (.c (.i .i64 r0.2.1))) (by kernel_rfl) ⟨⟨⟨rfl, rfl, rfl, rfl, rfl, trivial⟩, ⟨rfl, trivial⟩, rfl, ⟨rfl, trivial⟩, closL_mk (by kernel_rfl) ⟨⟨rows_okAll (A := rVec) rfl _, by decide⟩, trivial⟩⟩, loopTo_x (loopTo_iter (s := 0) (r := r0) (slices_IndexFunc_L0_H c0 x) (slices_IndexFunc_L0_X c0 x) (slices_IndexFunc_L0_round c0 x) lr0) ((if_pos h0).trans rfl), rfl⟩
  · skip
    rw [show r = (-1) from hr.trans (by subst er0; unfold slices_IndexFunc; exact (if_neg h0).trans rfl)]
    exact of_run (ds := [.to [(0, .c (.slc (0, 0) 0 4 x.length (c0))), (1, .fn 109 []), (4, .c (.i .i64 0)), (7, .c (.i .i64 ((x.length : Nat) : Int))), (8, .c (.i .i64 0))] [((0, 0), ⟨rowsOf rVec x, 4, 0, false, none⟩)] 1 1 (.exit 0) (mkS [(4, .c (.i .i64 0))] [((0, 0), ⟨rowsOf rVec x, 4, 0, false, none⟩)] 1 1)]) (B := ((((.c (.slc (0, 0) 0 4 x.length (c0)) : AV) = .c (.slc (0, 0) 0 4 x.length (c0)) ∧ (.fn 109 [] : AV) = .fn 109 [] ∧ (.c (.i .i64 0) : AV) = .c (.i .i64 0) ∧ (.c (.i .i64 ((x.length : Nat) : Int)) : AV) = .c (.i .i64 ((x.length : Nat) : Int)) ∧ (.c (.i .i64 0) : AV) = .c (.i .i64 0) ∧ True) ∧ ((some ⟨rowsOf rVec x, 4, 0, false, none⟩ : Option Blk) = some ⟨rowsOf rVec x, 4, 0, false, none⟩ ∧ True) ∧ 1 = 1 ∧ ((some ⟨rowsOf rVec x, 4, 0, false, none⟩ : Option Blk) = some ⟨rowsOf rVec x, 4, 0, false, none⟩ ∧ True) ∧ closL [(0, .c (.slc (0, 0) 0 4 x.length (c0))), (1, .fn 109 []), (4, .c (.i .i64 0)), (7, .c (.i .i64 ((x.length : Nat) : Int))), (8, .c (.i .i64 0))] [((0, 0), ⟨rowsOf rVec x, 4, 0, false, none⟩)] 1 1)) ∧ (LoopTo tab EQ Try.prog (loopAt Try.f149 0) (mkS [(0, .c (.slc (0, 0) 0 4 x.length (c0))), (1, .fn 109 []), (4, .c (.i .i64 0)), (7, .c (.i .i64 ((x.length : Nat) : Int))), (8, .c (.i .i64 0))] [((0, 0), ⟨rowsOf rVec x, 4, 0, false, none⟩)] 1 1) (.exit 0) (mkS [(4, .c (.i .i64 0))] [((0, 0), ⟨rowsOf rVec x, 4, 0, false, none⟩)] 1 1)) ∧ some (.c (.i .i64 (-1)) : AV) = some (.c (.i .i64 (-1)))) (by kernel_rfl) ⟨⟨⟨rfl, rfl, rfl, rfl, rfl, trivial⟩, ⟨rfl, trivial⟩, rfl, ⟨rfl, trivial⟩, closL_mk (by kernel_rfl) ⟨⟨rows_okAll (A := rVec) rfl _, by decide⟩, trivial⟩⟩, loopTo_x (loopTo_iter (s := 0) (r := r0) (slices_IndexFunc_L0_H c0 x) (slices_IndexFunc_L0_X c0 x) (slices_IndexFunc_L0_round c0 x) lr0) ((if_neg h0).trans rfl), rfl⟩

def ta_bits_LeadingZeros64 (x : Int) : List AV := [.c (.i .u64 x)]

def tb_bits_LeadingZeros64 (x : Int) : List (Nat × List (List Cell)) := []

def o_bits_LeadingZeros64 (x : Int) (r : Int) : POfn := tplO (ta_bits_LeadingZeros64 x) (tb_bits_LeadingZeros64 x) (r = bits_LeadingZeros64 x) (.c (.i .i64 r)) []

theorem ok_bits_LeadingZeros64 (x : Int) (r : Int) : FOK Try.prog 159 (o_bits_LeadingZeros64 x r) := by
  unfold o_bits_LeadingZeros64
  refine fok_plain (fn := Try.f159) (c := Try.f159.body.getD .skip) tabOK eqOK follows ⟨Try.func159, by kernel_rfl, by kernel_rfl, by kernel_rfl, Nat.le_of_ble_eq_true (by kernel_rfl)⟩ (by kernel_rfl) (fun q hq => by cases hq) ?_
  intro hr
  obtain ⟨r0, er0⟩ : ∃ q, q = bits_Len64 x := ⟨_, rfl⟩
  rw [show r = IntKind.i64.wrap (64 - r0) from hr.trans (by subst er0; unfold bits_LeadingZeros64; exact rfl)]
  exact of_run (ds := [.use (o_bits_Len64 x r0)]) (B := (FOK Try.prog 164 (o_bits_Len64 x r0)) ∧ (tplP (ta_bits_Len64 x) (tb_bits_Len64 x) (r0 = bits_Len64 x) [.c (.i .u64 x)] []) ∧ some (.c (.i .i64 (IntKind.i64.wrap (64 - r0))) : AV) = some (.c (.i .i64 (IntKind.i64.wrap (64 - r0))))) (by kernel_rfl) ⟨ok_bits_Len64 x r0, ⟨rfl, rfl, er0⟩, rfl⟩

def ta_cmp_Compare_uint64 (x : Int) (y : Int) : List AV := [.c (.i .u64 x), .c (.i .u64 y)]

def tb_cmp_Compare_uint64 (x : Int) (y : Int) : List (Nat × List (List Cell)) := []

def o_cmp_Compare_uint64 (x : Int) (y : Int) (r : Int) : POfn := tplO (ta_cmp_Compare_uint64 x y) (tb_cmp_Compare_uint64 x y) (r = cmp_Compare_uint64 x y) (.c (.i .i64 r)) []

theorem ok_cmp_Compare_uint64 (x : Int) (y : Int) (r : Int) : FOK Try.prog 169 (o_cmp_Compare_uint64 x y r) := by
  unfold o_cmp_Compare_uint64
  refine fok_plain (fn := Try.f169) (c := Try.f169.body.getD .skip) tabOK eqOK follows ⟨Try.func169, by kernel_rfl, by kernel_rfl, by kernel_rfl, Nat.le_of_ble_eq_true (by kernel_rfl)⟩ (by kernel_rfl) (fun q hq => by cases hq) ?_
  intro hr
  obtain ⟨r0, er0⟩ : ∃ q, q = cmp_isNaN_uint64 x := ⟨_, rfl⟩
  obtain ⟨r1, er1⟩ : ∃ q, q = cmp_isNaN_uint64 y := ⟨_, rfl⟩
  by_cases h0 : r0 = true
  · skip
    by_cases h1 : r1 = true
    · skip
      rw [show r = 0 from hr.trans (by subst er1 er0; unfold cmp_Compare_uint64; exact (if_pos h0).trans ((if_pos h1).trans rfl))]
      exact of_run (ds := [.use (o_cmp_isNaN_uint64 x r0), .use (o_cmp_isNaN_uint64 y r1), .br true, .br true]) (B := (FOK Try.prog 171 (o_cmp_isNaN_uint64 x r0)) ∧ (tplP (ta_cmp_isNaN_uint64 x) (tb_cmp_isNaN_uint64 x) (r0 = cmp_isNaN_uint64 x) [.c (.i .u64 x)] []) ∧ (FOK Try.prog 171 (o_cmp_isNaN_uint64 y r1)) ∧ (tplP (ta_cmp_isNaN_uint64 y) (tb_cmp_isNaN_uint64 y) (r1 = cmp_isNaN_uint64 y) [.c (.i .u64 y)] []) ∧ (r0 = true) ∧ (r1 = true) ∧ some (.c (.i .i64 0) : AV) = some (.c (.i .i64 0))) (by kernel_rfl) ⟨ok_cmp_isNaN_uint64 x r0, ⟨rfl, rfl, er0⟩, ok_cmp_isNaN_uint64 y r1, ⟨rfl, rfl, er1⟩, h0, h1, rfl⟩
    · skip
      rw [show r = (-1) from hr.trans (by subst er1 er0; unfold cmp_Compare_uint64; exact (if_pos h0).trans ((if_neg h1).trans rfl))]
      exact of_run (ds := [.use (o_cmp_isNaN_uint64 x r0), .use (o_cmp_isNaN_uint64 y r1), .br true, .br false]) (B := (FOK Try.prog 171 (o_cmp_isNaN_uint64 x r0)) ∧ (tplP (ta_cmp_isNaN_uint64 x) (tb_cmp_isNaN_uint64 x) (r0 = cmp_isNaN_uint64 x) [.c (.i .u64 x)] []) ∧ (FOK Try.prog 171 (o_cmp_isNaN_uint64 y r1)) ∧ (tplP (ta_cmp_isNaN_uint64 y) (tb_cmp_isNaN_uint64 y) (r1 = cmp_isNaN_uint64 y) [.c (.i .u64 y)] []) ∧ (r0 = true) ∧ (r1 = false) ∧ some (.c (.i .i64 (-1)) : AV) = some (.c (.i .i64 (-1)))) (by kernel_rfl) ⟨ok_cmp_isNaN_uint64 x r0, ⟨rfl, rfl, er0⟩, ok_cmp_isNaN_uint64 y r1, ⟨rfl, rfl, er1⟩, h0, Bool.eq_false_iff.2 h1, rfl⟩
  · skip
    by_cases h1 : r1 = true
    · skip
      rw [show r = 1 from hr.trans (by subst er1 er0; unfold cmp_Compare_uint64; exact (if_neg h0).trans ((if_pos h1).trans rfl))]
      exact of_run (ds := [.use (o_cmp_isNaN_uint64 x r0), .use (o_cmp_isNaN_uint64 y r1), .br false, .br true]) (B := (FOK Try.prog 171 (o_cmp_isNaN_uint64 x r0)) ∧ (tplP (ta_cmp_isNaN_uint64 x) (tb_cmp_isNaN_uint64 x) (r0 = cmp_isNaN_uint64 x) [.c (.i .u64 x)] []) ∧ (FOK Try.prog 171 (o_cmp_isNaN_uint64 y r1)) ∧ (tplP (ta_cmp_isNaN_uint64 y) (tb_cmp_isNaN_uint64 y) (r1 = cmp_isNaN_uint64 y) [.c (.i .u64 y)] []) ∧ (r0 = false) ∧ (r1 = true) ∧ some (.c (.i .i64 1) : AV) = some (.c (.i .i64 1))) (by kernel_rfl) ⟨ok_cmp_isNaN_uint64 x r0, ⟨rfl, rfl, er0⟩, ok_cmp_isNaN_uint64 y r1, ⟨rfl, rfl, er1⟩, Bool.eq_false_iff.2 h0, h1, rfl⟩
    · skip
      by_cases h2 : x < y
      · skip
        rw [show r = (-1) from hr.trans (by subst er1 er0; unfold cmp_Compare_uint64; exact (if_neg h0).trans ((if_neg h1).trans ((if_pos h2).trans rfl)))]
        exact of_run (ds := [.use (o_cmp_isNaN_uint64 x r0), .use (o_cmp_isNaN_uint64 y r1), .br false, .br false, .br true]) (B := (FOK Try.prog 171 (o_cmp_isNaN_uint64 x r0)) ∧ (tplP (ta_cmp_isNaN_uint64 x) (tb_cmp_isNaN_uint64 x) (r0 = cmp_isNaN_uint64 x) [.c (.i .u64 x)] []) ∧ (FOK Try.prog 171 (o_cmp_isNaN_uint64 y r1)) ∧ (tplP (ta_cmp_isNaN_uint64 y) (tb_cmp_isNaN_uint64 y) (r1 = cmp_isNaN_uint64 y) [.c (.i .u64 y)] []) ∧ (r0 = false) ∧ (r1 = false) ∧ (decide (x < y) = true) ∧ some (.c (.i .i64 (-1)) : AV) = some (.c (.i .i64 (-1)))) (by kernel_rfl) ⟨ok_cmp_isNaN_uint64 x r0, ⟨rfl, rfl, er0⟩, ok_cmp_isNaN_uint64 y r1, ⟨rfl, rfl, er1⟩, Bool.eq_false_iff.2 h0, Bool.eq_false_iff.2 h1, decide_eq_true h2, rfl⟩
      · skip
        by_cases h3 : x > y
        · skip
          rw [show r = 1 from hr.trans (by subst er1 er0; unfold cmp_Compare_uint64; exact (if_neg h0).trans ((if_neg h1).trans ((if_neg h2).trans ((if_pos h3).trans rfl))))]
          exact of_run (ds := [.use (o_cmp_isNaN_uint64 x r0), .use (o_cmp_isNaN_uint64 y r1), .br false, .br false, .br false, .br true]) (B := (FOK Try.prog 171 (o_cmp_isNaN_uint64 x r0)) ∧ (tplP (ta_cmp_isNaN_uint64 x) (tb_cmp_isNaN_uint64 x) (r0 = cmp_isNaN_uint64 x) [.c (.i .u64 x)] []) ∧ (FOK Try.prog 171 (o_cmp_isNaN_uint64 y r1)) ∧ (tplP (ta_cmp_isNaN_uint64 y) (tb_cmp_isNaN_uint64 y) (r1 = cmp_isNaN_uint64 y) [.c (.i .u64 y)] []) ∧ (r0 = false) ∧ (r1 = false) ∧ (decide (x < y) = false) ∧ (decide (x > y) = true) ∧ some (.c (.i .i64 1) : AV) = some (.c (.i .i64 1))) (by kernel_rfl) ⟨ok_cmp_isNaN_uint64 x r0, ⟨rfl, rfl, er0⟩, ok_cmp_isNaN_uint64 y r1, ⟨rfl, rfl, er1⟩, Bool.eq_false_iff.2 h0, Bool.eq_false_iff.2 h1, decide_eq_false h2, decide_eq_true h3, rfl⟩
        · skip
          rw [show r = 0 from hr.trans (by subst er1 er0; unfold cmp_Compare_uint64; exact (if_neg h0).trans ((if_neg h1).trans ((if_neg h2).trans ((if_neg h3).trans rfl))))]
          exact of_run (ds := [.use (o_cmp_isNaN_uint64 x r0), .use (o_cmp_isNaN_uint64 y r1), .br false, .br false, .br false, .br false]) (B := (FOK Try.prog 171 (o_cmp_isNaN_uint64 x r0)) ∧ (tplP (ta_cmp_isNaN_uint64 x) (tb_cmp_isNaN_uint64 x) (r0 = cmp_isNaN_uint64 x) [.c (.i .u64 x)] []) ∧ (FOK Try.prog 171 (o_cmp_isNaN_uint64 y r1)) ∧ (tplP (ta_cmp_isNaN_uint64 y) (tb_cmp_isNaN_uint64 y) (r1 = cmp_isNaN_uint64 y) [.c (.i .u64 y)] []) ∧ (r0 = false) ∧ (r1 = false) ∧ (decide (x < y) = false) ∧ (decide (x > y) = false) ∧ some (.c (.i .i64 0) : AV) = some (.c (.i .i64 0))) (by kernel_rfl) ⟨ok_cmp_isNaN_uint64 x r0, ⟨rfl, rfl, er0⟩, ok_cmp_isNaN_uint64 y r1, ⟨rfl, rfl, er1⟩, Bool.eq_false_iff.2 h0, Bool.eq_false_iff.2 h1, decide_eq_false h2, decide_eq_false h3, rfl⟩

def ta_plane_Of (x : Int) (y : Int) : List AV := [.c (.i .i64 x), .c (.i .i64 y)]

def tb_plane_Of (x : Int) (y : Int) : List (Nat × List (List Cell)) := []

def o_plane_Of (x : Int) (y : Int) (r : Vec) : POfn := tplO (ta_plane_Of x y) (tb_plane_Of x y) (r = plane_Of x y) (.agg [.i .i64 r.X.V, .b r.X.F, .i .i64 r.Y.V, .b r.Y.F]) []

theorem ok_plane_Of (x : Int) (y : Int) (r : Vec) : FOK Try.prog 28 (o_plane_Of x y r) := by
  unfold o_plane_Of
  refine fok_plain (fn := Try.f28) (c := Try.f28.body.getD .skip) tabOK eqOK follows ⟨Try.func28, by kernel_rfl, by kernel_rfl, by kernel_rfl, Nat.le_of_ble_eq_true (by kernel_rfl)⟩ (by kernel_rfl) (fun q hq => by cases hq) ?_
  intro hr
  obtain ⟨r0, er0⟩ : ∃ q, q = fixed_Int x := ⟨_, rfl⟩
  obtain ⟨r1, er1⟩ : ∃ q, q = fixed_Int y := ⟨_, rfl⟩
  rw [show r = (⟨r0, r1⟩ : Vec) from hr.trans (by subst er1 er0; unfold plane_Of; exact rfl)]
  exact of_run (ds := [.use (o_fixed_Int x r0), .use (o_fixed_Int y r1)]) (B := (FOK Try.prog 85 (o_fixed_Int x r0)) ∧ (tplP (ta_fixed_Int x) (tb_fixed_Int x) (r0 = fixed_Int x) [.c (.i .i64 x)] []) ∧ (FOK Try.prog 85 (o_fixed_Int y r1)) ∧ (tplP (ta_fixed_Int y) (tb_fixed_Int y) (r1 = fixed_Int y) [.c (.i .i64 y)] []) ∧ some (.agg [.i .i64 r0.V, .b r0.F, .i .i64 r1.V, .b r1.F] : AV) = some (.agg [.i .i64 r0.V, .b r0.F, .i .i64 r1.V, .b r1.F])) (by kernel_rfl) ⟨ok_fixed_Int x r0, ⟨rfl, rfl, er0⟩, ok_fixed_Int y r1, ⟨rfl, rfl, er1⟩, rfl⟩

def ta_ref01_Ratio (x : Int) (y : Int) : List AV := [.c (.i .i64 x), .c (.i .i64 y)]

def tb_ref01_Ratio (x : Int) (y : Int) : List (Nat × List (List Cell)) := []

def o_ref01_Ratio (x : Int) (y : Int) (r : Num) : POfn := tplO (ta_ref01_Ratio x y) (tb_ref01_Ratio x y) (P_ref01_Ratio x y ∧ r = ref01_Ratio x y) (.agg [.i .i64 r.V, .b r.F]) []

theorem ok_ref01_Ratio (x : Int) (y : Int) (r : Num) : FOK Try.prog 92 (o_ref01_Ratio x y r) := by
  unfold o_ref01_Ratio
  refine fok_plain (fn := Try.f92) (c := Try.f92.body.getD .skip) tabOK eqOK follows ⟨Try.func92, by kernel_rfl, by kernel_rfl, by kernel_rfl, Nat.le_of_ble_eq_true (by kernel_rfl)⟩ (by kernel_rfl) (fun q hq => by cases hq) ?_
  rintro ⟨hp, hr⟩
  by_cases h0 : y = 0
  · skip
    obtain ⟨r0, er0⟩ : ∃ q, q = ref01_none x := ⟨_, rfl⟩
    rw [show r = (⟨r0.V, r0.F⟩ : Num) from hr.trans (by subst er0; unfold ref01_Ratio; exact (if_pos h0).trans rfl)]
    exact of_run (ds := [.br true, .use (o_ref01_none x r0)]) (B := ((y == 0) = true) ∧ (FOK Try.prog 128 (o_ref01_none x r0)) ∧ (tplP (ta_ref01_none x) (tb_ref01_none x) (r0 = ref01_none x) [.c (.i .i64 x)] []) ∧ some (.agg [.i .i64 r0.V, .b r0.F] : AV) = some (.agg [.i .i64 r0.V, .b r0.F])) (by kernel_rfl) ⟨beq_iff_eq.2 h0, ok_ref01_none x r0, ⟨rfl, rfl, er0⟩, rfl⟩
  · skip
    obtain ⟨r0, er0⟩ : ∃ q, q = ref01_exact x := ⟨_, rfl⟩
    obtain ⟨r1, er1⟩ : ∃ q, q = ref01_up r0 := ⟨_, rfl⟩
    obtain ⟨r2, er2⟩ : ∃ q, q = ref01_size y := ⟨_, rfl⟩
    obtain ⟨r3, er3⟩ : ∃ q, q = ref01_over r1 r2 := ⟨_, rfl⟩
    have n0 : P_ref01_over r1 r2 := by subst er3 er2 er1 er0; exact (Eq.mp (if_neg h0) (hp)).1
    obtain ⟨r4, er4⟩ : ∃ q, q = ref01_fit (⟨(!(decide (x < 0) == decide (y < 0))), r3.hi, r3.lo⟩ : Wide) false := ⟨_, rfl⟩
    rw [show r = r4 from hr.trans (by subst er4 er3 er2 er1 er0; unfold ref01_Ratio; exact (if_neg h0).trans rfl)]
    exact of_run (ds := [.br false, .use (o_ref01_exact x r0), .use (o_ref01_up r0 r1), .use (o_ref01_size y r2), .use (o_ref01_over r1 r2 r3), .use (o_ref01_fit (⟨(!(decide (x < 0) == decide (y < 0))), r3.hi, r3.lo⟩ : Wide) false r4)]) (B := ((y == 0) = false) ∧ (FOK Try.prog 137 (o_ref01_exact x r0)) ∧ (tplP (ta_ref01_exact x) (tb_ref01_exact x) (r0 = ref01_exact x) [.c (.i .i64 x)] []) ∧ (FOK Try.prog 136 (o_ref01_up r0 r1)) ∧ (tplP (ta_ref01_up r0) (tb_ref01_up r0) (r1 = ref01_up r0) [.agg [.b r0.neg, .i .u64 r0.hi, .i .u64 r0.lo]] []) ∧ (FOK Try.prog 139 (o_ref01_size y r2)) ∧ (tplP (ta_ref01_size y) (tb_ref01_size y) (r2 = ref01_size y) [.c (.i .i64 y)] []) ∧ (FOK Try.prog 138 (o_ref01_over r1 r2 r3)) ∧ (tplP (ta_ref01_over r1 r2) (tb_ref01_over r1 r2) (P_ref01_over r1 r2 ∧ r3 = ref01_over r1 r2) [.agg [.b r1.neg, .i .u64 r1.hi, .i .u64 r1.lo], .c (.i .u64 r2)] []) ∧ (FOK Try.prog 135 (o_ref01_fit (⟨(!(decide (x < 0) == decide (y < 0))), r3.hi, r3.lo⟩ : Wide) false r4)) ∧ (tplP (ta_ref01_fit (⟨(!(decide (x < 0) == decide (y < 0))), r3.hi, r3.lo⟩ : Wide) false) (tb_ref01_fit (⟨(!(decide (x < 0) == decide (y < 0))), r3.hi, r3.lo⟩ : Wide) false) (r4 = ref01_fit (⟨(!(decide (x < 0) == decide (y < 0))), r3.hi, r3.lo⟩ : Wide) false) [.agg [.b (!(decide (x < 0) == decide (y < 0))), .i .u64 r3.hi, .i .u64 r3.lo], .c (.b false)] []) ∧ some (.agg [.i .i64 r4.V, .b r4.F] : AV) = some (.agg [.i .i64 r4.V, .b r4.F])) (by kernel_rfl) ⟨beq_eq_false_iff_ne.2 h0, ok_ref01_exact x r0, ⟨rfl, rfl, er0⟩, ok_ref01_up r0 r1, ⟨rfl, rfl, er1⟩, ok_ref01_size y r2, ⟨rfl, rfl, er2⟩, ok_ref01_over r1 r2 r3, ⟨rfl, rfl, n0, er3⟩, ok_ref01_fit (⟨(!(decide (x < 0) == decide (y < 0))), r3.hi, r3.lo⟩ : Wide) false r4, ⟨rfl, rfl, er4⟩, rfl⟩

def ta_ref01_Dot (x : Num) (y : Num) (z : Num) (u : Num) : List AV := [.agg [.i .i64 x.V, .b x.F], .agg [.i .i64 y.V, .b y.F], .agg [.i .i64 z.V, .b z.F], .agg [.i .i64 u.V, .b u.F]]

def tb_ref01_Dot (x : Num) (y : Num) (z : Num) (u : Num) : List (Nat × List (List Cell)) := []

def o_ref01_Dot (x : Num) (y : Num) (z : Num) (u : Num) (r : Num) : POfn := tplO (ta_ref01_Dot x y z u) (tb_ref01_Dot x y z u) (P_ref01_Dot x y z u ∧ r = ref01_Dot x y z u) (.agg [.i .i64 r.V, .b r.F]) []

theorem ok_ref01_Dot (x : Num) (y : Num) (z : Num) (u : Num) (r : Num) : FOK Try.prog 101 (o_ref01_Dot x y z u r) := by
  unfold o_ref01_Dot
  refine fok_plain (fn := Try.f101) (c := Try.f101.body.getD .skip) tabOK eqOK follows ⟨Try.func101, by kernel_rfl, by kernel_rfl, by kernel_rfl, Nat.le_of_ble_eq_true (by kernel_rfl)⟩ (by kernel_rfl) (fun q hq => by cases hq) ?_
  rintro ⟨hp, hr⟩
  obtain ⟨r0, er0⟩ : ∃ q, q = ref01_whole x := ⟨_, rfl⟩
  obtain ⟨r1, er1⟩ : ∃ q, q = ref01_whole y := ⟨_, rfl⟩
  obtain ⟨r2, er2⟩ : ∃ q, q = ref01_whole z := ⟨_, rfl⟩
  obtain ⟨r3, er3⟩ : ∃ q, q = ref01_whole u := ⟨_, rfl⟩
  obtain ⟨r4, er4⟩ : ∃ q, q = ref01_times r0.1 r1.1 := ⟨_, rfl⟩
  obtain ⟨r5, er5⟩ : ∃ q, q = ref01_times r2.1 r3.1 := ⟨_, rfl⟩
  obtain ⟨r6, er6⟩ : ∃ q, q = ref01_plus r4 r5 := ⟨_, rfl⟩
  have n0 : P_ref01_plus r4 r5 := by subst er6 er5 er4 er3 er2 er1 er0; exact (hp).1
  obtain ⟨r7, er7⟩ : ∃ q, q = ref01_down r6 := ⟨_, rfl⟩
  by_cases h0 : r0.2 = true
  · skip
    obtain ⟨r8, er8⟩ : ∃ q, q = ref01_fit r7 true := ⟨_, rfl⟩
    rw [show r = r8 from hr.trans (by subst er8 er7 er6 er5 er4 er3 er2 er1 er0; unfold ref01_Dot; exact (if_pos h0).trans rfl)]
    exact of_run (ds := [.use (o_ref01_whole x r0), .use (o_ref01_whole y r1), .use (o_ref01_whole z r2), .use (o_ref01_whole u r3), .use (o_ref01_times r0.1 r1.1 r4), .use (o_ref01_times r2.1 r3.1 r5), .use (o_ref01_plus r4 r5 r6), .use (o_ref01_down r6 r7), .br true, .br true, .br true, .br true, .br true, .br true, .use (o_ref01_fit r7 true r8)]) (B := (FOK Try.prog 127 (o_ref01_whole x r0)) ∧ (tplP (ta_ref01_whole x) (tb_ref01_whole x) (r0 = ref01_whole x) [.agg [.i .i64 x.V, .b x.F]] []) ∧ (FOK Try.prog 127 (o_ref01_whole y r1)) ∧ (tplP (ta_ref01_whole y) (tb_ref01_whole y) (r1 = ref01_whole y) [.agg [.i .i64 y.V, .b y.F]] []) ∧ (FOK Try.prog 127 (o_ref01_whole z r2)) ∧ (tplP (ta_ref01_whole z) (tb_ref01_whole z) (r2 = ref01_whole z) [.agg [.i .i64 z.V, .b z.F]] []) ∧ (FOK Try.prog 127 (o_ref01_whole u r3)) ∧ (tplP (ta_ref01_whole u) (tb_ref01_whole u) (r3 = ref01_whole u) [.agg [.i .i64 u.V, .b u.F]] []) ∧ (FOK Try.prog 146 (o_ref01_times r0.1 r1.1 r4)) ∧ (tplP (ta_ref01_times r0.1 r1.1) (tb_ref01_times r0.1 r1.1) (r4 = ref01_times r0.1 r1.1) [.c (.i .i64 r0.1), .c (.i .i64 r1.1)] []) ∧ (FOK Try.prog 146 (o_ref01_times r2.1 r3.1 r5)) ∧ (tplP (ta_ref01_times r2.1 r3.1) (tb_ref01_times r2.1 r3.1) (r5 = ref01_times r2.1 r3.1) [.c (.i .i64 r2.1), .c (.i .i64 r3.1)] []) ∧ (FOK Try.prog 145 (o_ref01_plus r4 r5 r6)) ∧ (tplP (ta_ref01_plus r4 r5) (tb_ref01_plus r4 r5) (P_ref01_plus r4 r5 ∧ r6 = ref01_plus r4 r5) [.agg [.b r4.neg, .i .u64 r4.hi, .i .u64 r4.lo], .agg [.b r5.neg, .i .u64 r5.hi, .i .u64 r5.lo]] []) ∧ (FOK Try.prog 144 (o_ref01_down r6 r7)) ∧ (tplP (ta_ref01_down r6) (tb_ref01_down r6) (r7 = ref01_down r6) [.agg [.b r6.neg, .i .u64 r6.hi, .i .u64 r6.lo]] []) ∧ (r0.2 = true) ∧ (r0.2 = true) ∧ (true = true) ∧ (true = true) ∧ (true = true) ∧ (true = true) ∧ (FOK Try.prog 135 (o_ref01_fit r7 true r8)) ∧ (tplP (ta_ref01_fit r7 true) (tb_ref01_fit r7 true) (r8 = ref01_fit r7 true) [.agg [.b r7.neg, .i .u64 r7.hi, .i .u64 r7.lo], .c (.b true)] []) ∧ some (.agg [.i .i64 r8.V, .b r8.F] : AV) = some (.agg [.i .i64 r8.V, .b r8.F])) (by kernel_rfl) ⟨ok_ref01_whole x r0, ⟨rfl, rfl, er0⟩, ok_ref01_whole y r1, ⟨rfl, rfl, er1⟩, ok_ref01_whole z r2, ⟨rfl, rfl, er2⟩, ok_ref01_whole u r3, ⟨rfl, rfl, er3⟩, ok_ref01_times r0.1 r1.1 r4, ⟨rfl, rfl, er4⟩, ok_ref01_times r2.1 r3.1 r5, ⟨rfl, rfl, er5⟩, ok_ref01_plus r4 r5 r6, ⟨rfl, rfl, n0, er6⟩, ok_ref01_down r6 r7, ⟨rfl, rfl, er7⟩, h0, h0, rfl, rfl, rfl, rfl, ok_ref01_fit r7 true r8, ⟨rfl, rfl, er8⟩, rfl⟩
  · skip
    by_cases h1 : r1.2 = true
    · skip
      obtain ⟨r8, er8⟩ : ∃ q, q = ref01_fit r7 true := ⟨_, rfl⟩
      rw [show r = r8 from hr.trans (by subst er8 er7 er6 er5 er4 er3 er2 er1 er0; unfold ref01_Dot; exact (if_neg h0).trans ((if_pos h1).trans rfl))]
      exact of_run (ds := [.use (o_ref01_whole x r0), .use (o_ref01_whole y r1), .use (o_ref01_whole z r2), .use (o_ref01_whole u r3), .use (o_ref01_times r0.1 r1.1 r4), .use (o_ref01_times r2.1 r3.1 r5), .use (o_ref01_plus r4 r5 r6), .use (o_ref01_down r6 r7), .br false, .br false, .br true, .br true, .br true, .br true, .use (o_ref01_fit r7 true r8)]) (B := (FOK Try.prog 127 (o_ref01_whole x r0)) ∧ (tplP (ta_ref01_whole x) (tb_ref01_whole x) (r0 = ref01_whole x) [.agg [.i .i64 x.V, .b x.F]] []) ∧ (FOK Try.prog 127 (o_ref01_whole y r1)) ∧ (tplP (ta_ref01_whole y) (tb_ref01_whole y) (r1 = ref01_whole y) [.agg [.i .i64 y.V, .b y.F]] []) ∧ (FOK Try.prog 127 (o_ref01_whole z r2)) ∧ (tplP (ta_ref01_whole z) (tb_ref01_whole z) (r2 = ref01_whole z) [.agg [.i .i64 z.V, .b z.F]] []) ∧ (FOK Try.prog 127 (o_ref01_whole u r3)) ∧ (tplP (ta_ref01_whole u) (tb_ref01_whole u) (r3 = ref01_whole u) [.agg [.i .i64 u.V, .b u.F]] []) ∧ (FOK Try.prog 146 (o_ref01_times r0.1 r1.1 r4)) ∧ (tplP (ta_ref01_times r0.1 r1.1) (tb_ref01_times r0.1 r1.1) (r4 = ref01_times r0.1 r1.1) [.c (.i .i64 r0.1), .c (.i .i64 r1.1)] []) ∧ (FOK Try.prog 146 (o_ref01_times r2.1 r3.1 r5)) ∧ (tplP (ta_ref01_times r2.1 r3.1) (tb_ref01_times r2.1 r3.1) (r5 = ref01_times r2.1 r3.1) [.c (.i .i64 r2.1), .c (.i .i64 r3.1)] []) ∧ (FOK Try.prog 145 (o_ref01_plus r4 r5 r6)) ∧ (tplP (ta_ref01_plus r4 r5) (tb_ref01_plus r4 r5) (P_ref01_plus r4 r5 ∧ r6 = ref01_plus r4 r5) [.agg [.b r4.neg, .i .u64 r4.hi, .i .u64 r4.lo], .agg [.b r5.neg, .i .u64 r5.hi, .i .u64 r5.lo]] []) ∧ (FOK Try.prog 144 (o_ref01_down r6 r7)) ∧ (tplP (ta_ref01_down r6) (tb_ref01_down r6) (r7 = ref01_down r6) [.agg [.b r6.neg, .i .u64 r6.hi, .i .u64 r6.lo]] []) ∧ (r0.2 = false) ∧ (r0.2 = false) ∧ (r1.2 = true) ∧ (r1.2 = true) ∧ (true = true) ∧ (true = true) ∧ (FOK Try.prog 135 (o_ref01_fit r7 true r8)) ∧ (tplP (ta_ref01_fit r7 true) (tb_ref01_fit r7 true) (r8 = ref01_fit r7 true) [.agg [.b r7.neg, .i .u64 r7.hi, .i .u64 r7.lo], .c (.b true)] []) ∧ some (.agg [.i .i64 r8.V, .b r8.F] : AV) = some (.agg [.i .i64 r8.V, .b r8.F])) (by kernel_rfl) ⟨ok_ref01_whole x r0, ⟨rfl, rfl, er0⟩, ok_ref01_whole y r1, ⟨rfl, rfl, er1⟩, ok_ref01_whole z r2, ⟨rfl, rfl, er2⟩, ok_ref01_whole u r3, ⟨rfl, rfl, er3⟩, ok_ref01_times r0.1 r1.1 r4, ⟨rfl, rfl, er4⟩, ok_ref01_times r2.1 r3.1 r5, ⟨rfl, rfl, er5⟩, ok_ref01_plus r4 r5 r6, ⟨rfl, rfl, n0, er6⟩, ok_ref01_down r6 r7, ⟨rfl, rfl, er7⟩, Bool.eq_false_iff.2 h0, Bool.eq_false_iff.2 h0, h1, h1, rfl, rfl, ok_ref01_fit r7 true r8, ⟨rfl, rfl, er8⟩, rfl⟩
    · skip
      by_cases h2 : r2.2 = true
      · skip
        obtain ⟨r8, er8⟩ : ∃ q, q = ref01_fit r7 true := ⟨_, rfl⟩
        rw [show r = r8 from hr.trans (by subst er8 er7 er6 er5 er4 er3 er2 er1 er0; unfold ref01_Dot; exact (if_neg h0).trans ((if_neg h1).trans ((if_pos h2).trans rfl)))]
        exact of_run (ds := [.use (o_ref01_whole x r0), .use (o_ref01_whole y r1), .use (o_ref01_whole z r2), .use (o_ref01_whole u r3), .use (o_ref01_times r0.1 r1.1 r4), .use (o_ref01_times r2.1 r3.1 r5), .use (o_ref01_plus r4 r5 r6), .use (o_ref01_down r6 r7), .br false, .br false, .br false, .br false, .br true, .br true, .use (o_ref01_fit r7 true r8)]) (B := (FOK Try.prog 127 (o_ref01_whole x r0)) ∧ (tplP (ta_ref01_whole x) (tb_ref01_whole x) (r0 = ref01_whole x) [.agg [.i .i64 x.V, .b x.F]] []) ∧ (FOK Try.prog 127 (o_ref01_whole y r1)) ∧ (tplP (ta_ref01_whole y) (tb_ref01_whole y) (r1 = ref01_whole y) [.agg [.i .i64 y.V, .b y.F]] []) ∧ (FOK Try.prog 127 (o_ref01_whole z r2)) ∧ (tplP (ta_ref01_whole z) (tb_ref01_whole z) (r2 = ref01_whole z) [.agg [.i .i64 z.V, .b z.F]] []) ∧ (FOK Try.prog 127 (o_ref01_whole u r3)) ∧ (tplP (ta_ref01_whole u) (tb_ref01_whole u) (r3 = ref01_whole u) [.agg [.i .i64 u.V, .b u.F]] []) ∧ (FOK Try.prog 146 (o_ref01_times r0.1 r1.1 r4)) ∧ (tplP (ta_ref01_times r0.1 r1.1) (tb_ref01_times r0.1 r1.1) (r4 = ref01_times r0.1 r1.1) [.c (.i .i64 r0.1), .c (.i .i64 r1.1)] []) ∧ (FOK Try.prog 146 (o_ref01_times r2.1 r3.1 r5)) ∧ (tplP (ta_ref01_times r2.1 r3.1) (tb_ref01_times r2.1 r3.1) (r5 = ref01_times r2.1 r3.1) [.c (.i .i64 r2.1), .c (.i .i64 r3.1)] []) ∧ (FOK Try.prog 145 (o_ref01_plus r4 r5 r6)) ∧ (tplP (ta_ref01_plus r4 r5) (tb_ref01_plus r4 r5) (P_ref01_plus r4 r5 ∧ r6 = ref01_plus r4 r5) [.agg [.b r4.neg, .i .u64 r4.hi, .i .u64 r4.lo], .agg [.b r5.neg, .i .u64 r5.hi, .i .u64 r5.lo]] []) ∧ (FOK Try.prog 144 (o_ref01_down r6 r7)) ∧ (tplP (ta_ref01_down r6) (tb_ref01_down r6) (r7 = ref01_down r6) [.agg [.b r6.neg, .i .u64 r6.hi, .i .u64 r6.lo]] []) ∧ (r0.2 = false) ∧ (r0.2 = false) ∧ (r1.2 = false) ∧ (r1.2 = false) ∧ (r2.2 = true) ∧ (r2.2 = true) ∧ (FOK Try.prog 135 (o_ref01_fit r7 true r8)) ∧ (tplP (ta_ref01_fit r7 true) (tb_ref01_fit r7 true) (r8 = ref01_fit r7 true) [.agg [.b r7.neg, .i .u64 r7.hi, .i .u64 r7.lo], .c (.b true)] []) ∧ some (.agg [.i .i64 r8.V, .b r8.F] : AV) = some (.agg [.i .i64 r8.V, .b r8.F])) (by kernel_rfl) ⟨ok_ref01_whole x r0, ⟨rfl, rfl, er0⟩, ok_ref01_whole y r1, ⟨rfl, rfl, er1⟩, ok_ref01_whole z r2, ⟨rfl, rfl, er2⟩, ok_ref01_whole u r3, ⟨rfl, rfl, er3⟩, ok_ref01_times r0.1 r1.1 r4, ⟨rfl, rfl, er4⟩, ok_ref01_times r2.1 r3.1 r5, ⟨rfl, rfl, er5⟩, ok_ref01_plus r4 r5 r6, ⟨rfl, rfl, n0, er6⟩, ok_ref01_down r6 r7, ⟨rfl, rfl, er7⟩, Bool.eq_false_iff.2 h0, Bool.eq_false_iff.2 h0, Bool.eq_false_iff.2 h1, Bool.eq_false_iff.2 h1, h2, h2, ok_ref01_fit r7 true r8, ⟨rfl, rfl, er8⟩, rfl⟩
      · skip
        obtain ⟨r8, er8⟩ : ∃ q, q = ref01_fit r7 r3.2 := ⟨_, rfl⟩
        rw [show r = r8 from hr.trans (by subst er8 er7 er6 er5 er4 er3 er2 er1 er0; unfold ref01_Dot; exact (if_neg h0).trans ((if_neg h1).trans ((if_neg h2).trans rfl)))]
        exact of_run (ds := [.use (o_ref01_whole x r0), .use (o_ref01_whole y r1), .use (o_ref01_whole z r2), .use (o_ref01_whole u r3), .use (o_ref01_times r0.1 r1.1 r4), .use (o_ref01_times r2.1 r3.1 r5), .use (o_ref01_plus r4 r5 r6), .use (o_ref01_down r6 r7), .br false, .br false, .br false, .br false, .br false, .br false, .use (o_ref01_fit r7 r3.2 r8)]) (B := (FOK Try.prog 127 (o_ref01_whole x r0)) ∧ (tplP (ta_ref01_whole x) (tb_ref01_whole x) (r0 = ref01_whole x) [.agg [.i .i64 x.V, .b x.F]] []) ∧ (FOK Try.prog 127 (o_ref01_whole y r1)) ∧ (tplP (ta_ref01_whole y) (tb_ref01_whole y) (r1 = ref01_whole y) [.agg [.i .i64 y.V, .b y.F]] []) ∧ (FOK Try.prog 127 (o_ref01_whole z r2)) ∧ (tplP (ta_ref01_whole z) (tb_ref01_whole z) (r2 = ref01_whole z) [.agg [.i .i64 z.V, .b z.F]] []) ∧ (FOK Try.prog 127 (o_ref01_whole u r3)) ∧ (tplP (ta_ref01_whole u) (tb_ref01_whole u) (r3 = ref01_whole u) [.agg [.i .i64 u.V, .b u.F]] []) ∧ (FOK Try.prog 146 (o_ref01_times r0.1 r1.1 r4)) ∧ (tplP (ta_ref01_times r0.1 r1.1) (tb_ref01_times r0.1 r1.1) (r4 = ref01_times r0.1 r1.1) [.c (.i .i64 r0.1), .c (.i .i64 r1.1)] []) ∧ (FOK Try.prog 146 (o_ref01_times r2.1 r3.1 r5)) ∧ (tplP (ta_ref01_times r2.1 r3.1) (tb_ref01_times r2.1 r3.1) (r5 = ref01_times r2.1 r3.1) [.c (.i .i64 r2.1), .c (.i .i64 r3.1)] []) ∧ (FOK Try.prog 145 (o_ref01_plus r4 r5 r6)) ∧ (tplP (ta_ref01_plus r4 r5) (tb_ref01_plus r4 r5) (P_ref01_plus r4 r5 ∧ r6 = ref01_plus r4 r5) [.agg [.b r4.neg, .i .u64 r4.hi, .i .u64 r4.lo], .agg [.b r5.neg, .i .u64 r5.hi, .i .u64 r5.lo]] []) ∧ (FOK Try.prog 144 (o_ref01_down r6 r7)) ∧ (tplP (ta_ref01_down r6) (tb_ref01_down r6) (r7 = ref01_down r6) [.agg [.b r6.neg, .i .u64 r6.hi, .i .u64 r6.lo]] []) ∧ (r0.2 = false) ∧ (r0.2 = false) ∧ (r1.2 = false) ∧ (r1.2 = false) ∧ (r2.2 = false) ∧ (r2.2 = false) ∧ (FOK Try.prog 135 (o_ref01_fit r7 r3.2 r8)) ∧ (tplP (ta_ref01_fit r7 r3.2) (tb_ref01_fit r7 r3.2) (r8 = ref01_fit r7 r3.2) [.agg [.b r7.neg, .i .u64 r7.hi, .i .u64 r7.lo], .c (.b r3.2)] []) ∧ some (.agg [.i .i64 r8.V, .b r8.F] : AV) = some (.agg [.i .i64 r8.V, .b r8.F])) (by kernel_rfl) ⟨ok_ref01_whole x r0, ⟨rfl, rfl, er0⟩, ok_ref01_whole y r1, ⟨rfl, rfl, er1⟩, ok_ref01_whole z r2, ⟨rfl, rfl, er2⟩, ok_ref01_whole u r3, ⟨rfl, rfl, er3⟩, ok_ref01_times r0.1 r1.1 r4, ⟨rfl, rfl, er4⟩, ok_ref01_times r2.1 r3.1 r5, ⟨rfl, rfl, er5⟩, ok_ref01_plus r4 r5 r6, ⟨rfl, rfl, n0, er6⟩, ok_ref01_down r6 r7, ⟨rfl, rfl, er7⟩, Bool.eq_false_iff.2 h0, Bool.eq_false_iff.2 h0, Bool.eq_false_iff.2 h1, Bool.eq_false_iff.2 h1, Bool.eq_false_iff.2 h2, Bool.eq_false_iff.2 h2, ok_ref01_fit r7 r3.2 r8, ⟨rfl, rfl, er8⟩, rfl⟩

def ref01_Sum_L0_H (c0 : Option Nat) (x : (List Num)) (s : Bool × Int × Int × Int) : St := mkS [(0, .c (.slc (0, 0) 0 2 x.length (c0))), (2, .c (.ptr (2, 1) 0 2 0)), (3, .c (.ptr (3, 1) 0 3 0)), (4, .c (.i .i64 s.2.2.2))] [((0, 0), ⟨rowsOf rNum x, 2, 0, false, none⟩), ((2, 1), ⟨[[.i .i64 0, .b false]], 2, 23, true, some 1⟩), ((3, 1), ⟨[[.b s.1, .i .u64 s.2.1, .i .u64 s.2.2.1]], 3, 130, true, some 1⟩)] 1 1

def ref01_Sum_L0_X (c0 : Option Nat) (x : (List Num)) (v : Bool × Int × Int) : Exit × St := ((.exit 0), mkS [(0, .c (.slc (0, 0) 0 2 x.length (c0))), (2, .c (.ptr (2, 1) 0 2 0)), (3, .c (.ptr (3, 1) 0 3 0))] [((0, 0), ⟨rowsOf rNum x, 2, 0, false, none⟩), ((2, 1), ⟨[[.i .i64 0, .b false]], 2, 23, true, some 1⟩), ((3, 1), ⟨[[.b v.1, .i .u64 v.2.1, .i .u64 v.2.2]], 3, 130, true, some 1⟩)] 1 1)

theorem ref01_Sum_L0_round (c0 : Option Nat) (x : (List Num)) : ∀ s : Bool × Int × Int × Int, RoundOK tab EQ Try.prog (loopAt Try.f107 0) (ref01_Sum_L0_step x) (ref01_Sum_L0_H c0 x) (ref01_Sum_L0_X c0 x) s := by
  intro s
  by_cases qh0 : s.2.2.2 < ((x.length : Nat) : Int)
  · skip
    by_cases qn0 : ((0 : Int) ≤ s.2.2.2 ∧ s.2.2.2 < ((x.length : Nat) : Int))
    rotate_left
    · have hs : ref01_Sum_L0_step x s = none := by unfold ref01_Sum_L0_step; exact (if_pos qh0).trans ((if_neg qn0).trans rfl)
      exact round_none hs
    obtain ⟨qr0, eqr0⟩ : ∃ q, q = ref01_whole (nth x s.2.2.2) := ⟨_, rfl⟩
    obtain ⟨qr1, eqr1⟩ : ∃ q, q = ref01_exact qr0.1 := ⟨_, rfl⟩
    obtain ⟨qr2, eqr2⟩ : ∃ q, q = ref01_plus (⟨s.1, s.2.1, s.2.2.1⟩ : Wide) qr1 := ⟨_, rfl⟩
    by_cases qn1 : P_ref01_plus (⟨s.1, s.2.1, s.2.2.1⟩ : Wide) qr1
    rotate_left
    · have hs : ref01_Sum_L0_step x s = none := by subst eqr2 eqr1 eqr0; unfold ref01_Sum_L0_step; exact (if_pos qh0).trans ((if_pos qn0).trans ((if_neg qn1).trans rfl))
      exact round_none hs
    have hs : ref01_Sum_L0_step x s = some (.inl (qr2.neg, qr2.hi, qr2.lo, (IntKind.i64.wrap (s.2.2.2 + 1)))) := by subst eqr2 eqr1 eqr0; unfold ref01_Sum_L0_step; exact (if_pos qh0).trans ((if_pos qn0).trans ((if_pos qn1).trans rfl))
    exact round_inl hs (stepN (ds := [.br true, .row [.i .i64 ((nth x s.2.2.2).V), .b ((nth x s.2.2.2).F)], .use (o_ref01_whole (nth x s.2.2.2) qr0), .use (o_ref01_exact qr0.1 qr1), .use (o_ref01_plus (⟨s.1, s.2.1, s.2.2.1⟩ : Wide) qr1 qr2)]) (B := (decide (s.2.2.2 < ((x.length : Nat) : Int)) = true) ∧ (((0 : Int) ≤ s.2.2.2 ∧ s.2.2.2 < ((x.length : Nat) : Int))) ∧ (0 + (s.2.2.2).toNat < (rowsOf rNum x).length) ∧ ((rowsOf rNum x)[0 + (s.2.2.2).toNat]? = some [.i .i64 ((nth x s.2.2.2).V), .b ((nth x s.2.2.2).F)]) ∧ (FOK Try.prog 127 (o_ref01_whole (nth x s.2.2.2) qr0)) ∧ (tplP (ta_ref01_whole (nth x s.2.2.2)) (tb_ref01_whole (nth x s.2.2.2)) (qr0 = ref01_whole (nth x s.2.2.2)) [.agg [.i .i64 ((nth x s.2.2.2).V), .b ((nth x s.2.2.2).F)]] []) ∧ (FOK Try.prog 137 (o_ref01_exact qr0.1 qr1)) ∧ (tplP (ta_ref01_exact qr0.1) (tb_ref01_exact qr0.1) (qr1 = ref01_exact qr0.1) [.c (.i .i64 qr0.1)] []) ∧ (FOK Try.prog 145 (o_ref01_plus (⟨s.1, s.2.1, s.2.2.1⟩ : Wide) qr1 qr2)) ∧ (tplP (ta_ref01_plus (⟨s.1, s.2.1, s.2.2.1⟩ : Wide) qr1) (tb_ref01_plus (⟨s.1, s.2.1, s.2.2.1⟩ : Wide) qr1) (P_ref01_plus (⟨s.1, s.2.1, s.2.2.1⟩ : Wide) qr1 ∧ qr2 = ref01_plus (⟨s.1, s.2.1, s.2.2.1⟩ : Wide) qr1) [.agg [.b s.1, .i .u64 s.2.1, .i .u64 s.2.2.1], .agg [.b qr1.neg, .i .u64 qr1.hi, .i .u64 qr1.lo]] []) ∧ (((.c (.slc (0, 0) 0 2 x.length (c0)) : AV) = .c (.slc (0, 0) 0 2 x.length (c0)) ∧ (.c (.ptr (2, 1) 0 2 0) : AV) = .c (.ptr (2, 1) 0 2 0) ∧ (.c (.ptr (3, 1) 0 3 0) : AV) = .c (.ptr (3, 1) 0 3 0) ∧ (.c (.i .i64 (IntKind.i64.wrap (s.2.2.2 + 1))) : AV) = .c (.i .i64 (IntKind.i64.wrap (s.2.2.2 + 1))) ∧ True) ∧ ((some ⟨rowsOf rNum x, 2, 0, false, none⟩ : Option Blk) = some ⟨rowsOf rNum x, 2, 0, false, none⟩ ∧ (some ⟨[[.i .i64 0, .b false]], 2, 23, true, some 1⟩ : Option Blk) = some ⟨[[.i .i64 0, .b false]], 2, 23, true, some 1⟩ ∧ (some ⟨[[.b qr2.neg, .i .u64 qr2.hi, .i .u64 qr2.lo]], 3, 130, true, some 1⟩ : Option Blk) = some ⟨[[.b qr2.neg, .i .u64 qr2.hi, .i .u64 qr2.lo]], 3, 130, true, some 1⟩ ∧ True) ∧ 1 = 1 ∧ ((some ⟨rowsOf rNum x, 2, 0, false, none⟩ : Option Blk) = some ⟨rowsOf rNum x, 2, 0, false, none⟩ ∧ True) ∧ closL [(0, .c (.slc (0, 0) 0 2 x.length (c0))), (2, .c (.ptr (2, 1) 0 2 0)), (3, .c (.ptr (3, 1) 0 3 0)), (4, .c (.i .i64 (IntKind.i64.wrap (s.2.2.2 + 1))))] [((0, 0), ⟨rowsOf rNum x, 2, 0, false, none⟩), ((2, 1), ⟨[[.i .i64 0, .b false]], 2, 23, true, some 1⟩), ((3, 1), ⟨[[.b qr2.neg, .i .u64 qr2.hi, .i .u64 qr2.lo]], 3, 130, true, some 1⟩)] 1 1)) (by kernel_rfl) ⟨decide_eq_true qh0, qn0, rows_lt (A := rNum) rfl qn0, rows_nth (A := rNum) (l := x) rfl qn0, ok_ref01_whole (nth x s.2.2.2) qr0, ⟨rfl, rfl, eqr0⟩, ok_ref01_exact qr0.1 qr1, ⟨rfl, rfl, eqr1⟩, ok_ref01_plus (⟨s.1, s.2.1, s.2.2.1⟩ : Wide) qr1 qr2, ⟨rfl, rfl, qn1, eqr2⟩, ⟨⟨rfl, rfl, rfl, rfl, trivial⟩, ⟨rfl, rfl, rfl, trivial⟩, rfl, ⟨rfl, trivial⟩, closL_mk (by kernel_rfl) ⟨⟨rows_okAll (A := rNum) rfl _, by decide⟩, ⟨⟨rows_lit (by kernel_rfl), by decide⟩, ⟨⟨rows_lit (by kernel_rfl), by decide⟩, trivial⟩⟩⟩⟩⟩)
  · skip
    have hs : ref01_Sum_L0_step x s = some (.inr (s.1, s.2.1, s.2.2.1)) := by unfold ref01_Sum_L0_step; exact (if_neg qh0).trans rfl
    exact round_inr hs (e := (.exit 0)) rfl (by intro h; cases h) (stepX (id := 0) (ds := [.br false]) (B := (decide (s.2.2.2 < ((x.length : Nat) : Int)) = false) ∧ (((.c (.slc (0, 0) 0 2 x.length (c0)) : AV) = .c (.slc (0, 0) 0 2 x.length (c0)) ∧ (.c (.ptr (2, 1) 0 2 0) : AV) = .c (.ptr (2, 1) 0 2 0) ∧ (.c (.ptr (3, 1) 0 3 0) : AV) = .c (.ptr (3, 1) 0 3 0) ∧ True) ∧ ((some ⟨rowsOf rNum x, 2, 0, false, none⟩ : Option Blk) = some ⟨rowsOf rNum x, 2, 0, false, none⟩ ∧ (some ⟨[[.i .i64 0, .b false]], 2, 23, true, some 1⟩ : Option Blk) = some ⟨[[.i .i64 0, .b false]], 2, 23, true, some 1⟩ ∧ (some ⟨[[.b s.1, .i .u64 s.2.1, .i .u64 s.2.2.1]], 3, 130, true, some 1⟩ : Option Blk) = some ⟨[[.b s.1, .i .u64 s.2.1, .i .u64 s.2.2.1]], 3, 130, true, some 1⟩ ∧ True) ∧ 1 = 1 ∧ ((some ⟨rowsOf rNum x, 2, 0, false, none⟩ : Option Blk) = some ⟨rowsOf rNum x, 2, 0, false, none⟩ ∧ True) ∧ closL [(0, .c (.slc (0, 0) 0 2 x.length (c0))), (2, .c (.ptr (2, 1) 0 2 0)), (3, .c (.ptr (3, 1) 0 3 0))] [((0, 0), ⟨rowsOf rNum x, 2, 0, false, none⟩), ((2, 1), ⟨[[.i .i64 0, .b false]], 2, 23, true, some 1⟩), ((3, 1), ⟨[[.b s.1, .i .u64 s.2.1, .i .u64 s.2.2.1]], 3, 130, true, some 1⟩)] 1 1)) (by kernel_rfl) ⟨decide_eq_false qh0, ⟨⟨rfl, rfl, rfl, trivial⟩, ⟨rfl, rfl, rfl, trivial⟩, rfl, ⟨rfl, trivial⟩, closL_mk (by kernel_rfl) ⟨⟨rows_okAll (A := rNum) rfl _, by decide⟩, ⟨⟨rows_lit (by kernel_rfl), by decide⟩, ⟨⟨rows_lit (by kernel_rfl), by decide⟩, trivial⟩⟩⟩⟩⟩)

def ta_ref01_Sum (x : (List Num)) (c0 : Option Nat) : List AV := [.c (.slc (0, 0) 0 2 x.length (c0))]

def tb_ref01_Sum (x : (List Num)) : List (Nat × List (List Cell)) := [(2, rowsOf rNum x)]

def o_ref01_Sum (x : (List Num)) (c0 : Option Nat) (r : Num) : POfn := tplO (ta_ref01_Sum x c0) (tb_ref01_Sum x) (P_ref01_Sum x ∧ r = ref01_Sum x) (.agg [.i .i64 r.V, .b r.F]) []

theorem ok_ref01_Sum (x : (List Num)) (c0 : Option Nat) (r : Num) : FOK Try.prog 107 (o_ref01_Sum x c0 r) := by
  unfold o_ref01_Sum
  refine fok_plain (fn := Try.f107) (c := Try.f107.body.getD .skip) tabOK eqOK follows ⟨Try.func107, by kernel_rfl, by kernel_rfl, by kernel_rfl, Nat.le_of_ble_eq_true (by kernel_rfl)⟩ (by kernel_rfl) (by intro q hq; simp only [tb_ref01_Sum, List.mem_cons, List.not_mem_nil, or_false] at hq; rcases hq with rfl <;> exact rowsOf_plain _ _) ?_
  rintro ⟨hp, hr⟩
  have n0 : (iterO (ref01_Sum_L0_step x) NN (false, 0, 0, 0)).isSome = true := by exact (hp).1
  obtain ⟨r0, lr0⟩ := Option.isSome_iff_exists.1 n0
  have er0 : r0 = (iterO (ref01_Sum_L0_step x) NN (false, 0, 0, 0)).getD default := by rw [lr0]; rfl
  obtain ⟨r1, er1⟩ : ∃ q, q = ref01_flagged x := ⟨_, rfl⟩
  have n1 : P_ref01_flagged x := by subst er1 er0; exact ((hp).2).1
  obtain ⟨r2, er2⟩ : ∃ q, q = ref01_fit (⟨r0.1, r0.2.1, r0.2.2⟩ : Wide) r1 := ⟨_, rfl⟩
  rw [show r = r2 from hr.trans (by subst er2 er1 er0; unfold ref01_Sum; exact rfl)]
  exact of_run (ds := [.to [(0, .c (.slc (0, 0) 0 2 x.length (c0))), (2, .c (.ptr (2, 1) 0 2 0)), (3, .c (.ptr (3, 1) 0 3 0)), (4, .c (.i .i64 0))] [((0, 0), ⟨rowsOf rNum x, 2, 0, false, none⟩), ((2, 1), ⟨[[.i .i64 0, .b false]], 2, 23, true, some 1⟩), ((3, 1), ⟨[[.b false, .i .u64 0, .i .u64 0]], 3, 130, true, some 1⟩)] 1 1 (.exit 0) (mkS [(0, .c (.slc (0, 0) 0 2 x.length (c0))), (2, .c (.ptr (2, 1) 0 2 0)), (3, .c (.ptr (3, 1) 0 3 0))] [((0, 0), ⟨rowsOf rNum x, 2, 0, false, none⟩), ((2, 1), ⟨[[.i .i64 0, .b false]], 2, 23, true, some 1⟩), ((3, 1), ⟨[[.b r0.1, .i .u64 r0.2.1, .i .u64 r0.2.2]], 3, 130, true, some 1⟩)] 1 1), .use (o_ref01_flagged x c0 r1), .use (o_ref01_fit (⟨r0.1, r0.2.1, r0.2.2⟩ : Wide) r1 r2)]) (B := ((((.c (.slc (0, 0) 0 2 x.length (c0)) : AV) = .c (.slc (0, 0) 0 2 x.length (c0)) ∧ (.c (.ptr (2, 1) 0 2 0) : AV) = .c (.ptr (2, 1) 0 2 0) ∧ (.c (.ptr (3, 1) 0 3 0) : AV) = .c (.ptr (3, 1) 0 3 0) ∧ (.c (.i .i64 0) : AV) = .c (.i .i64 0) ∧ True) ∧ ((some ⟨rowsOf rNum x, 2, 0, false, none⟩ : Option Blk) = some ⟨rowsOf rNum x, 2, 0, false, none⟩ ∧ (some ⟨[[.i .i64 0, .b false]], 2, 23, true, some 1⟩ : Option Blk) = some ⟨[[.i .i64 0, .b false]], 2, 23, true, some 1⟩ ∧ (some ⟨[[.b false, .i .u64 0, .i .u64 0]], 3, 130, true, some 1⟩ : Option Blk) = some ⟨[[.b false, .i .u64 0, .i .u64 0]], 3, 130, true, some 1⟩ ∧ True) ∧ 1 = 1 ∧ ((some ⟨rowsOf rNum x, 2, 0, false, none⟩ : Option Blk) = some ⟨rowsOf rNum x, 2, 0, false, none⟩ ∧ True) ∧ closL [(0, .c (.slc (0, 0) 0 2 x.length (c0))), (2, .c (.ptr (2, 1) 0 2 0)), (3, .c (.ptr (3, 1) 0 3 0)), (4, .c (.i .i64 0))] [((0, 0), ⟨rowsOf rNum x, 2, 0, false, none⟩), ((2, 1), ⟨[[.i .i64 0, .b false]], 2, 23, true, some 1⟩), ((3, 1), ⟨[[.b false, .i .u64 0, .i .u64 0]], 3, 130, true, some 1⟩)] 1 1)) ∧ (LoopTo tab EQ Try.prog (loopAt Try.f107 0) (mkS [(0, .c (.slc (0, 0) 0 2 x.length (c0))), (2, .c (.ptr (2, 1) 0 2 0)), (3, .c (.ptr (3, 1) 0 3 0)), (4, .c (.i .i64 0))] [((0, 0), ⟨rowsOf rNum x, 2, 0, false, none⟩), ((2, 1), ⟨[[.i .i64 0, .b false]], 2, 23, true, some 1⟩), ((3, 1), ⟨[[.b false, .i .u64 0, .i .u64 0]], 3, 130, true, some 1⟩)] 1 1) (.exit 0) (mkS [(0, .c (.slc (0, 0) 0 2 x.length (c0))), (2, .c (.ptr (2, 1) 0 2 0)), (3, .c (.ptr (3, 1) 0 3 0))] [((0, 0), ⟨rowsOf rNum x, 2, 0, false, none⟩), ((2, 1), ⟨[[.i .i64 0, .b false]], 2, 23, true, some 1⟩), ((3, 1), ⟨[[.b r0.1, .i .u64 r0.2.1, .i .u64 r0.2.2]], 3, 130, true, some 1⟩)] 1 1)) ∧ (FOK Try.prog 148 (o_ref01_flagged x c0 r1)) ∧ (tplP (ta_ref01_flagged x c0) (tb_ref01_flagged x) (P_ref01_flagged x ∧ r1 = ref01_flagged x) [.c (.slc (0, 0) 0 2 x.length (c0))] [⟨rowsOf rNum x, 2, 0, false, none⟩]) ∧ (FOK Try.prog 135 (o_ref01_fit (⟨r0.1, r0.2.1, r0.2.2⟩ : Wide) r1 r2)) ∧ (tplP (ta_ref01_fit (⟨r0.1, r0.2.1, r0.2.2⟩ : Wide) r1) (tb_ref01_fit (⟨r0.1, r0.2.1, r0.2.2⟩ : Wide) r1) (r2 = ref01_fit (⟨r0.1, r0.2.1, r0.2.2⟩ : Wide) r1) [.agg [.b r0.1, .i .u64 r0.2.1, .i .u64 r0.2.2], .c (.b r1)] []) ∧ some (.agg [.i .i64 r2.V, .b r2.F] : AV) = some (.agg [.i .i64 r2.V, .b r2.F])) (by kernel_rfl) ⟨⟨⟨rfl, rfl, rfl, rfl, trivial⟩, ⟨rfl, rfl, rfl, trivial⟩, rfl, ⟨rfl, trivial⟩, closL_mk (by kernel_rfl) ⟨⟨rows_okAll (A := rNum) rfl _, by decide⟩, ⟨⟨rows_lit (by kernel_rfl), by decide⟩, ⟨⟨rows_lit (by kernel_rfl), by decide⟩, trivial⟩⟩⟩⟩, loopTo_x (loopTo_iter (s := (false, 0, 0, 0)) (r := r0) (ref01_Sum_L0_H c0 x) (ref01_Sum_L0_X c0 x) (ref01_Sum_L0_round c0 x) lr0) (rfl), ok_ref01_flagged x c0 r1, ⟨rfl, rfl, n1, er1⟩, ok_ref01_fit (⟨r0.1, r0.2.1, r0.2.2⟩ : Wide) r1 r2, ⟨rfl, rfl, er2⟩, rfl⟩

def ta_slices_ContainsFunc (x : (List Vec)) (c0 : Option Nat) : List AV := [.c (.slc (0, 0) 0 4 x.length (c0)), .fn 109 []]

def tb_slices_ContainsFunc (x : (List Vec)) : List (Nat × List (List Cell)) := [(4, rowsOf rVec x)]

def o_slices_ContainsFunc (x : (List Vec)) (c0 : Option Nat) (r : Bool) : POfn := tplO (ta_slices_ContainsFunc x c0) (tb_slices_ContainsFunc x) (P_slices_ContainsFunc x ∧ r = slices_ContainsFunc x) (.c (.b r)) []

theorem ok_slices_ContainsFunc (x : (List Vec)) (c0 : Option Nat) (r : Bool) : FOK Try.prog 108 (o_slices_ContainsFunc x c0 r) := by
  unfold o_slices_ContainsFunc
  refine fok_plain (fn := Try.f108) (c := Try.f108.body.getD .skip) tabOK eqOK follows ⟨Try.func108, by kernel_rfl, by kernel_rfl, by kernel_rfl, Nat.le_of_ble_eq_true (by kernel_rfl)⟩ (by kernel_rfl) (by intro q hq; simp only [tb_slices_ContainsFunc, List.mem_cons, List.not_mem_nil, or_false] at hq; rcases hq with rfl <;> exact rowsOf_plain _ _) ?_
  rintro ⟨hp, hr⟩
  obtain ⟨r0, er0⟩ : ∃ q, q = slices_IndexFunc x := ⟨_, rfl⟩
  have n0 : P_slices_IndexFunc x := by subst er0; exact (hp).1
  rw [show r = decide (r0 ≥ 0) from hr.trans (by subst er0; unfold slices_ContainsFunc; exact rfl)]
  exact of_run (ds := [.use (o_slices_IndexFunc x c0 r0)]) (B := (FOK Try.prog 149 (o_slices_IndexFunc x c0 r0)) ∧ (tplP (ta_slices_IndexFunc x c0) (tb_slices_IndexFunc x) (P_slices_IndexFunc x ∧ r0 = slices_IndexFunc x) [.c (.slc (0, 0) 0 4 x.length (c0)), .fn 109 []] [⟨rowsOf rVec x, 4, 0, false, none⟩]) ∧ some (.c (.b (decide (r0 ≥ 0))) : AV) = some (.c (.b (decide (r0 ≥ 0))))) (by kernel_rfl) ⟨ok_slices_IndexFunc x c0 r0, ⟨rfl, rfl, n0, er0⟩, rfl⟩

def ta_ref02_flagged (x : Num) : List AV := [.agg [.i .i64 x.V, .b x.F]]

def tb_ref02_flagged (x : Num) : List (Nat × List (List Cell)) := []

def o_ref02_flagged (x : Num) (r : Bool) : POfn := tplO (ta_ref02_flagged x) (tb_ref02_flagged x) (P_ref02_flagged x ∧ r = ref02_flagged x) (.c (.b r)) []

theorem ok_ref02_flagged (x : Num) (r : Bool) : FOK Try.prog 110 (o_ref02_flagged x r) := by
  unfold o_ref02_flagged
  refine fok_plain (fn := Try.f110) (c := Try.f110.body.getD .skip) tabOK eqOK follows ⟨Try.func110, by kernel_rfl, by kernel_rfl, by kernel_rfl, Nat.le_of_ble_eq_true (by kernel_rfl)⟩ (by kernel_rfl) (fun q hq => by cases hq) ?_
  rintro ⟨hp, hr⟩
  obtain ⟨r0, er0⟩ : ∃ q, q = ref01_Sum ([x] : List Num) := ⟨_, rfl⟩
  have n0 : P_ref01_Sum ([x] : List Num) := by subst er0; exact (hp).1
  rw [show r = r0.F from hr.trans (by subst er0; unfold ref02_flagged; exact rfl)]
  exact of_run (ds := [.use (o_ref01_Sum ([x] : List Num) (some 1) r0)]) (B := (FOK Try.prog 107 (o_ref01_Sum ([x] : List Num) (some 1) r0)) ∧ (tplP (ta_ref01_Sum ([x] : List Num) (some 1)) (tb_ref01_Sum ([x] : List Num)) (P_ref01_Sum ([x] : List Num) ∧ r0 = ref01_Sum ([x] : List Num)) [.c (.slc (4, 1) 0 2 1 (some 1))] [⟨[[.i .i64 x.V, .b x.F]], 2, 23, true, some 1⟩]) ∧ some (.c (.b r0.F) : AV) = some (.c (.b r0.F))) (by kernel_rfl) ⟨ok_ref01_Sum ([x] : List Num) (some 1) r0, ⟨rfl, tb_eq1 (rfl : [[.i .i64 x.V, .b x.F]] = rowsOf rNum ([x] : List Num)), n0, er0⟩, rfl⟩

def bits_Div64_L0_H (r0 : Int) (x : Int) (y : Int) (z : Int) (s : Int × Int) : St := mkS [(2, .c (.i .u64 (IntKind.u64.wrap (z * 2 ^ (min (IntKind.u64.wrap r0).toNat 64))))), (6, .c (.i .u64 0)), (7, .c (.i .u64 0)), (8, .c (.i .u64 (IntKind.u64.wrap r0))), (9, .c (.i .u64 ((IntKind.u64.wrap (z * 2 ^ (min (IntKind.u64.wrap r0).toNat 64))).fdiv 4294967296))), (10, .c (.i .u64 (Go.bits .and .u64 (IntKind.u64.wrap (z * 2 ^ (min (IntKind.u64.wrap r0).toNat 64))) 4294967295))), (11, .c (.i .u64 (Go.bits .or .u64 (IntKind.u64.wrap (x * 2 ^ (min (IntKind.u64.wrap r0).toNat 64))) ((y).fdiv (2 ^ (min (IntKind.u64.wrap (64 - IntKind.u64.wrap r0)).toNat 64)))))), (13, .c (.i .u64 ((IntKind.u64.wrap (y * 2 ^ (min (IntKind.u64.wrap r0).toNat 64))).fdiv 4294967296))), (14, .c (.i .u64 (Go.bits .and .u64 (IntKind.u64.wrap (y * 2 ^ (min (IntKind.u64.wrap r0).toNat 64))) 4294967295))), (15, .c (.i .u64 s.1)), (16, .c (.i .u64 s.2))] [] 1 0

def bits_Div64_L0_X (r0 : Int) (x : Int) (y : Int) (z : Int) (v : Int × Int) : Exit × St := ((.exit 0), mkS [(2, .c (.i .u64 (IntKind.u64.wrap (z * 2 ^ (min (IntKind.u64.wrap r0).toNat 64))))), (6, .c (.i .u64 0)), (7, .c (.i .u64 0)), (8, .c (.i .u64 (IntKind.u64.wrap r0))), (9, .c (.i .u64 ((IntKind.u64.wrap (z * 2 ^ (min (IntKind.u64.wrap r0).toNat 64))).fdiv 4294967296))), (10, .c (.i .u64 (Go.bits .and .u64 (IntKind.u64.wrap (z * 2 ^ (min (IntKind.u64.wrap r0).toNat 64))) 4294967295))), (11, .c (.i .u64 (Go.bits .or .u64 (IntKind.u64.wrap (x * 2 ^ (min (IntKind.u64.wrap r0).toNat 64))) ((y).fdiv (2 ^ (min (IntKind.u64.wrap (64 - IntKind.u64.wrap r0)).toNat 64)))))), (13, .c (.i .u64 ((IntKind.u64.wrap (y * 2 ^ (min (IntKind.u64.wrap r0).toNat 64))).fdiv 4294967296))), (14, .c (.i .u64 (Go.bits .and .u64 (IntKind.u64.wrap (y * 2 ^ (min (IntKind.u64.wrap r0).toNat 64))) 4294967295))), (15, .c (.i .u64 v.1)), (16, .c (.i .u64 v.2))] [] 1 0)

theorem bits_Div64_L0_round (r0 : Int) (x : Int) (y : Int) (z : Int) : ∀ s : Int × Int, RoundOK tab EQ Try.prog (loopAt Try.f133 0) (bits_Div64_L0_step r0 y z) (bits_Div64_L0_H r0 x y z) (bits_Div64_L0_X r0 x y z) s := by
  intro s
  by_cases qh0 : s.1 ≥ 4294967296
  · skip
    by_cases qh1 : IntKind.u64.wrap (s.2 + (IntKind.u64.wrap (z * 2 ^ (min (IntKind.u64.wrap r0).toNat 64))).fdiv 4294967296) ≥ 4294967296
    · skip
      have hs : bits_Div64_L0_step r0 y z s = some (.inr ((IntKind.u64.wrap (s.1 - 1)), (IntKind.u64.wrap (s.2 + (IntKind.u64.wrap (z * 2 ^ (min (IntKind.u64.wrap r0).toNat 64))).fdiv 4294967296)))) := by unfold bits_Div64_L0_step; exact (if_pos qh0).trans ((if_pos qh1).trans rfl)
      exact round_inr hs (e := (.exit 0)) rfl (by intro h; cases h) (stepX (id := 0) (ds := [.br true, .br true, .br true, .br true, .br true, .br true, .br true, .br true, .br true, .br true, .br true]) (B := (decide (s.1 ≥ 4294967296) = true) ∧ (decide (s.1 ≥ 4294967296) = true) ∧ (decide (s.1 ≥ 4294967296) = true) ∧ (decide (s.1 ≥ 4294967296) = true) ∧ (decide (s.1 ≥ 4294967296) = true) ∧ (decide (s.1 ≥ 4294967296) = true) ∧ (decide (s.1 ≥ 4294967296) = true) ∧ (decide (s.1 ≥ 4294967296) = true) ∧ (decide (s.1 ≥ 4294967296) = true) ∧ (true = true) ∧ (decide (IntKind.u64.wrap (s.2 + (IntKind.u64.wrap (z * 2 ^ (min (IntKind.u64.wrap r0).toNat 64))).fdiv 4294967296) ≥ 4294967296) = true) ∧ (((.c (.i .u64 (IntKind.u64.wrap (z * 2 ^ (min (IntKind.u64.wrap r0).toNat 64)))) : AV) = .c (.i .u64 (IntKind.u64.wrap (z * 2 ^ (min (IntKind.u64.wrap r0).toNat 64)))) ∧ (.c (.i .u64 0) : AV) = .c (.i .u64 0) ∧ (.c (.i .u64 0) : AV) = .c (.i .u64 0) ∧ (.c (.i .u64 (IntKind.u64.wrap r0)) : AV) = .c (.i .u64 (IntKind.u64.wrap r0)) ∧ (.c (.i .u64 ((IntKind.u64.wrap (z * 2 ^ (min (IntKind.u64.wrap r0).toNat 64))).fdiv 4294967296)) : AV) = .c (.i .u64 ((IntKind.u64.wrap (z * 2 ^ (min (IntKind.u64.wrap r0).toNat 64))).fdiv 4294967296)) ∧ (.c (.i .u64 (Go.bits .and .u64 (IntKind.u64.wrap (z * 2 ^ (min (IntKind.u64.wrap r0).toNat 64))) 4294967295)) : AV) = .c (.i .u64 (Go.bits .and .u64 (IntKind.u64.wrap (z * 2 ^ (min (IntKind.u64.wrap r0).toNat 64))) 4294967295)) ∧ (.c (.i .u64 (Go.bits .or .u64 (IntKind.u64.wrap (x * 2 ^ (min (IntKind.u64.wrap r0).toNat 64))) ((y).fdiv (2 ^ (min (IntKind.u64.wrap (64 - IntKind.u64.wrap r0)).toNat 64))))) : AV) = .c (.i .u64 (Go.bits .or .u64 (IntKind.u64.wrap (x * 2 ^ (min (IntKind.u64.wrap r0).toNat 64))) ((y).fdiv (2 ^ (min (IntKind.u64.wrap (64 - IntKind.u64.wrap r0)).toNat 64))))) ∧ (.c (.i .u64 ((IntKind.u64.wrap (y * 2 ^ (min (IntKind.u64.wrap r0).toNat 64))).fdiv 4294967296)) : AV) = .c (.i .u64 ((IntKind.u64.wrap (y * 2 ^ (min (IntKind.u64.wrap r0).toNat 64))).fdiv 4294967296)) ∧ (.c (.i .u64 (Go.bits .and .u64 (IntKind.u64.wrap (y * 2 ^ (min (IntKind.u64.wrap r0).toNat 64))) 4294967295)) : AV) = .c (.i .u64 (Go.bits .and .u64 (IntKind.u64.wrap (y * 2 ^ (min (IntKind.u64.wrap r0).toNat 64))) 4294967295)) ∧ (.c (.i .u64 (IntKind.u64.wrap (s.1 - 1))) : AV) = .c (.i .u64 (IntKind.u64.wrap (s.1 - 1))) ∧ (.c (.i .u64 (IntKind.u64.wrap (s.2 + (IntKind.u64.wrap (z * 2 ^ (min (IntKind.u64.wrap r0).toNat 64))).fdiv 4294967296))) : AV) = .c (.i .u64 (IntKind.u64.wrap (s.2 + (IntKind.u64.wrap (z * 2 ^ (min (IntKind.u64.wrap r0).toNat 64))).fdiv 4294967296))) ∧ True) ∧ (True) ∧ 0 = 0 ∧ (True) ∧ closL [(2, .c (.i .u64 (IntKind.u64.wrap (z * 2 ^ (min (IntKind.u64.wrap r0).toNat 64))))), (6, .c (.i .u64 0)), (7, .c (.i .u64 0)), (8, .c (.i .u64 (IntKind.u64.wrap r0))), (9, .c (.i .u64 ((IntKind.u64.wrap (z * 2 ^ (min (IntKind.u64.wrap r0).toNat 64))).fdiv 4294967296))), (10, .c (.i .u64 (Go.bits .and .u64 (IntKind.u64.wrap (z * 2 ^ (min (IntKind.u64.wrap r0).toNat 64))) 4294967295))), (11, .c (.i .u64 (Go.bits .or .u64 (IntKind.u64.wrap (x * 2 ^ (min (IntKind.u64.wrap r0).toNat 64))) ((y).fdiv (2 ^ (min (IntKind.u64.wrap (64 - IntKind.u64.wrap r0)).toNat 64)))))), (13, .c (.i .u64 ((IntKind.u64.wrap (y * 2 ^ (min (IntKind.u64.wrap r0).toNat 64))).fdiv 4294967296))), (14, .c (.i .u64 (Go.bits .and .u64 (IntKind.u64.wrap (y * 2 ^ (min (IntKind.u64.wrap r0).toNat 64))) 4294967295))), (15, .c (.i .u64 (IntKind.u64.wrap (s.1 - 1)))), (16, .c (.i .u64 (IntKind.u64.wrap (s.2 + (IntKind.u64.wrap (z * 2 ^ (min (IntKind.u64.wrap r0).toNat 64))).fdiv 4294967296))))] [] 1 0)) (by kernel_rfl) ⟨decide_eq_true qh0, decide_eq_true qh0, decide_eq_true qh0, decide_eq_true qh0, decide_eq_true qh0, decide_eq_true qh0, decide_eq_true qh0, decide_eq_true qh0, decide_eq_true qh0, rfl, decide_eq_true qh1, ⟨⟨rfl, rfl, rfl, rfl, rfl, rfl, rfl, rfl, rfl, rfl, rfl, trivial⟩, trivial, rfl, trivial, closL_mk (by kernel_rfl) trivial⟩⟩)
    · skip
      have hs : bits_Div64_L0_step r0 y z s = some (.inl ((IntKind.u64.wrap (s.1 - 1)), (IntKind.u64.wrap (s.2 + (IntKind.u64.wrap (z * 2 ^ (min (IntKind.u64.wrap r0).toNat 64))).fdiv 4294967296)))) := by unfold bits_Div64_L0_step; exact (if_pos qh0).trans ((if_neg qh1).trans rfl)
      exact round_inl hs (stepN (ds := [.br true, .br true, .br true, .br true, .br true, .br true, .br true, .br true, .br true, .br true, .br false]) (B := (decide (s.1 ≥ 4294967296) = true) ∧ (decide (s.1 ≥ 4294967296) = true) ∧ (decide (s.1 ≥ 4294967296) = true) ∧ (decide (s.1 ≥ 4294967296) = true) ∧ (decide (s.1 ≥ 4294967296) = true) ∧ (decide (s.1 ≥ 4294967296) = true) ∧ (decide (s.1 ≥ 4294967296) = true) ∧ (decide (s.1 ≥ 4294967296) = true) ∧ (decide (s.1 ≥ 4294967296) = true) ∧ (true = true) ∧ (decide (IntKind.u64.wrap (s.2 + (IntKind.u64.wrap (z * 2 ^ (min (IntKind.u64.wrap r0).toNat 64))).fdiv 4294967296) ≥ 4294967296) = false) ∧ (((.c (.i .u64 (IntKind.u64.wrap (z * 2 ^ (min (IntKind.u64.wrap r0).toNat 64)))) : AV) = .c (.i .u64 (IntKind.u64.wrap (z * 2 ^ (min (IntKind.u64.wrap r0).toNat 64)))) ∧ (.c (.i .u64 0) : AV) = .c (.i .u64 0) ∧ (.c (.i .u64 0) : AV) = .c (.i .u64 0) ∧ (.c (.i .u64 (IntKind.u64.wrap r0)) : AV) = .c (.i .u64 (IntKind.u64.wrap r0)) ∧ (.c (.i .u64 ((IntKind.u64.wrap (z * 2 ^ (min (IntKind.u64.wrap r0).toNat 64))).fdiv 4294967296)) : AV) = .c (.i .u64 ((IntKind.u64.wrap (z * 2 ^ (min (IntKind.u64.wrap r0).toNat 64))).fdiv 4294967296)) ∧ (.c (.i .u64 (Go.bits .and .u64 (IntKind.u64.wrap (z * 2 ^ (min (IntKind.u64.wrap r0).toNat 64))) 4294967295)) : AV) = .c (.i .u64 (Go.bits .and .u64 (IntKind.u64.wrap (z * 2 ^ (min (IntKind.u64.wrap r0).toNat 64))) 4294967295)) ∧ (.c (.i .u64 (Go.bits .or .u64 (IntKind.u64.wrap (x * 2 ^ (min (IntKind.u64.wrap r0).toNat 64))) ((y).fdiv (2 ^ (min (IntKind.u64.wrap (64 - IntKind.u64.wrap r0)).toNat 64))))) : AV) = .c (.i .u64 (Go.bits .or .u64 (IntKind.u64.wrap (x * 2 ^ (min (IntKind.u64.wrap r0).toNat 64))) ((y).fdiv (2 ^ (min (IntKind.u64.wrap (64 - IntKind.u64.wrap r0)).toNat 64))))) ∧ (.c (.i .u64 ((IntKind.u64.wrap (y * 2 ^ (min (IntKind.u64.wrap r0).toNat 64))).fdiv 4294967296)) : AV) = .c (.i .u64 ((IntKind.u64.wrap (y * 2 ^ (min (IntKind.u64.wrap r0).toNat 64))).fdiv 4294967296)) ∧ (.c (.i .u64 (Go.bits .and .u64 (IntKind.u64.wrap (y * 2 ^ (min (IntKind.u64.wrap r0).toNat 64))) 4294967295)) : AV) = .c (.i .u64 (Go.bits .and .u64 (IntKind.u64.wrap (y * 2 ^ (min (IntKind.u64.wrap r0).toNat 64))) 4294967295)) ∧ (.c (.i .u64 (IntKind.u64.wrap (s.1 - 1))) : AV) = .c (.i .u64 (IntKind.u64.wrap (s.1 - 1))) ∧ (.c (.i .u64 (IntKind.u64.wrap (s.2 + (IntKind.u64.wrap (z * 2 ^ (min (IntKind.u64.wrap r0).toNat 64))).fdiv 4294967296))) : AV) = .c (.i .u64 (IntKind.u64.wrap (s.2 + (IntKind.u64.wrap (z * 2 ^ (min (IntKind.u64.wrap r0).toNat 64))).fdiv 4294967296))) ∧ True) ∧ (True) ∧ 0 = 0 ∧ (True) ∧ closL [(2, .c (.i .u64 (IntKind.u64.wrap (z * 2 ^ (min (IntKind.u64.wrap r0).toNat 64))))), (6, .c (.i .u64 0)), (7, .c (.i .u64 0)), (8, .c (.i .u64 (IntKind.u64.wrap r0))), (9, .c (.i .u64 ((IntKind.u64.wrap (z * 2 ^ (min (IntKind.u64.wrap r0).toNat 64))).fdiv 4294967296))), (10, .c (.i .u64 (Go.bits .and .u64 (IntKind.u64.wrap (z * 2 ^ (min (IntKind.u64.wrap r0).toNat 64))) 4294967295))), (11, .c (.i .u64 (Go.bits .or .u64 (IntKind.u64.wrap (x * 2 ^ (min (IntKind.u64.wrap r0).toNat 64))) ((y).fdiv (2 ^ (min (IntKind.u64.wrap (64 - IntKind.u64.wrap r0)).toNat 64)))))), (13, .c (.i .u64 ((IntKind.u64.wrap (y * 2 ^ (min (IntKind.u64.wrap r0).toNat 64))).fdiv 4294967296))), (14, .c (.i .u64 (Go.bits .and .u64 (IntKind.u64.wrap (y * 2 ^ (min (IntKind.u64.wrap r0).toNat 64))) 4294967295))), (15, .c (.i .u64 (IntKind.u64.wrap (s.1 - 1)))), (16, .c (.i .u64 (IntKind.u64.wrap (s.2 + (IntKind.u64.wrap (z * 2 ^ (min (IntKind.u64.wrap r0).toNat 64))).fdiv 4294967296))))] [] 1 0)) (by kernel_rfl) ⟨decide_eq_true qh0, decide_eq_true qh0, decide_eq_true qh0, decide_eq_true qh0, decide_eq_true qh0, decide_eq_true qh0, decide_eq_true qh0, decide_eq_true qh0, decide_eq_true qh0, rfl, decide_eq_false qh1, ⟨⟨rfl, rfl, rfl, rfl, rfl, rfl, rfl, rfl, rfl, rfl, rfl, trivial⟩, trivial, rfl, trivial, closL_mk (by kernel_rfl) trivial⟩⟩)
  · skip
    by_cases qh1 : IntKind.u64.wrap (s.1 * Go.bits .and .u64 (IntKind.u64.wrap (z * 2 ^ (min (IntKind.u64.wrap r0).toNat 64))) 4294967295) > IntKind.u64.wrap (IntKind.u64.wrap (4294967296 * s.2) + (IntKind.u64.wrap (y * 2 ^ (min (IntKind.u64.wrap r0).toNat 64))).fdiv 4294967296)
    · skip
      by_cases qh2 : IntKind.u64.wrap (s.2 + (IntKind.u64.wrap (z * 2 ^ (min (IntKind.u64.wrap r0).toNat 64))).fdiv 4294967296) ≥ 4294967296
      · skip
        have hs : bits_Div64_L0_step r0 y z s = some (.inr ((IntKind.u64.wrap (s.1 - 1)), (IntKind.u64.wrap (s.2 + (IntKind.u64.wrap (z * 2 ^ (min (IntKind.u64.wrap r0).toNat 64))).fdiv 4294967296)))) := by unfold bits_Div64_L0_step; exact (if_neg qh0).trans ((if_pos qh1).trans ((if_pos qh2).trans rfl))
        exact round_inr hs (e := (.exit 0)) rfl (by intro h; cases h) (stepX (id := 0) (ds := [.br false, .br false, .br false, .br false, .br false, .br false, .br false, .br false, .br false, .br true, .br true]) (B := (decide (s.1 ≥ 4294967296) = false) ∧ (decide (s.1 ≥ 4294967296) = false) ∧ (decide (s.1 ≥ 4294967296) = false) ∧ (decide (s.1 ≥ 4294967296) = false) ∧ (decide (s.1 ≥ 4294967296) = false) ∧ (decide (s.1 ≥ 4294967296) = false) ∧ (decide (s.1 ≥ 4294967296) = false) ∧ (decide (s.1 ≥ 4294967296) = false) ∧ (decide (s.1 ≥ 4294967296) = false) ∧ (decide (IntKind.u64.wrap (s.1 * Go.bits .and .u64 (IntKind.u64.wrap (z * 2 ^ (min (IntKind.u64.wrap r0).toNat 64))) 4294967295) > IntKind.u64.wrap (IntKind.u64.wrap (4294967296 * s.2) + (IntKind.u64.wrap (y * 2 ^ (min (IntKind.u64.wrap r0).toNat 64))).fdiv 4294967296)) = true) ∧ (decide (IntKind.u64.wrap (s.2 + (IntKind.u64.wrap (z * 2 ^ (min (IntKind.u64.wrap r0).toNat 64))).fdiv 4294967296) ≥ 4294967296) = true) ∧ (((.c (.i .u64 (IntKind.u64.wrap (z * 2 ^ (min (IntKind.u64.wrap r0).toNat 64)))) : AV) = .c (.i .u64 (IntKind.u64.wrap (z * 2 ^ (min (IntKind.u64.wrap r0).toNat 64)))) ∧ (.c (.i .u64 0) : AV) = .c (.i .u64 0) ∧ (.c (.i .u64 0) : AV) = .c (.i .u64 0) ∧ (.c (.i .u64 (IntKind.u64.wrap r0)) : AV) = .c (.i .u64 (IntKind.u64.wrap r0)) ∧ (.c (.i .u64 ((IntKind.u64.wrap (z * 2 ^ (min (IntKind.u64.wrap r0).toNat 64))).fdiv 4294967296)) : AV) = .c (.i .u64 ((IntKind.u64.wrap (z * 2 ^ (min (IntKind.u64.wrap r0).toNat 64))).fdiv 4294967296)) ∧ (.c (.i .u64 (Go.bits .and .u64 (IntKind.u64.wrap (z * 2 ^ (min (IntKind.u64.wrap r0).toNat 64))) 4294967295)) : AV) = .c (.i .u64 (Go.bits .and .u64 (IntKind.u64.wrap (z * 2 ^ (min (IntKind.u64.wrap r0).toNat 64))) 4294967295)) ∧ (.c (.i .u64 (Go.bits .or .u64 (IntKind.u64.wrap (x * 2 ^ (min (IntKind.u64.wrap r0).toNat 64))) ((y).fdiv (2 ^ (min (IntKind.u64.wrap (64 - IntKind.u64.wrap r0)).toNat 64))))) : AV) = .c (.i .u64 (Go.bits .or .u64 (IntKind.u64.wrap (x * 2 ^ (min (IntKind.u64.wrap r0).toNat 64))) ((y).fdiv (2 ^ (min (IntKind.u64.wrap (64 - IntKind.u64.wrap r0)).toNat 64))))) ∧ (.c (.i .u64 ((IntKind.u64.wrap (y * 2 ^ (min (IntKind.u64.wrap r0).toNat 64))).fdiv 4294967296)) : AV) = .c (.i .u64 ((IntKind.u64.wrap (y * 2 ^ (min (IntKind.u64.wrap r0).toNat 64))).fdiv 4294967296)) ∧ (.c (.i .u64 (Go.bits .and .u64 (IntKind.u64.wrap (y * 2 ^ (min (IntKind.u64.wrap r0).toNat 64))) 4294967295)) : AV) = .c (.i .u64 (Go.bits .and .u64 (IntKind.u64.wrap (y * 2 ^ (min (IntKind.u64.wrap r0).toNat 64))) 4294967295)) ∧ (.c (.i .u64 (IntKind.u64.wrap (s.1 - 1))) : AV) = .c (.i .u64 (IntKind.u64.wrap (s.1 - 1))) ∧ (.c (.i .u64 (IntKind.u64.wrap (s.2 + (IntKind.u64.wrap (z * 2 ^ (min (IntKind.u64.wrap r0).toNat 64))).fdiv 4294967296))) : AV) = .c (.i .u64 (IntKind.u64.wrap (s.2 + (IntKind.u64.wrap (z * 2 ^ (min (IntKind.u64.wrap r0).toNat 64))).fdiv 4294967296))) ∧ True) ∧ (True) ∧ 0 = 0 ∧ (True) ∧ closL [(2, .c (.i .u64 (IntKind.u64.wrap (z * 2 ^ (min (IntKind.u64.wrap r0).toNat 64))))), (6, .c (.i .u64 0)), (7, .c (.i .u64 0)), (8, .c (.i .u64 (IntKind.u64.wrap r0))), (9, .c (.i .u64 ((IntKind.u64.wrap (z * 2 ^ (min (IntKind.u64.wrap r0).toNat 64))).fdiv 4294967296))), (10, .c (.i .u64 (Go.bits .and .u64 (IntKind.u64.wrap (z * 2 ^ (min (IntKind.u64.wrap r0).toNat 64))) 4294967295))), (11, .c (.i .u64 (Go.bits .or .u64 (IntKind.u64.wrap (x * 2 ^ (min (IntKind.u64.wrap r0).toNat 64))) ((y).fdiv (2 ^ (min (IntKind.u64.wrap (64 - IntKind.u64.wrap r0)).toNat 64)))))), (13, .c (.i .u64 ((IntKind.u64.wrap (y * 2 ^ (min (IntKind.u64.wrap r0).toNat 64))).fdiv 4294967296))), (14, .c (.i .u64 (Go.bits .and .u64 (IntKind.u64.wrap (y * 2 ^ (min (IntKind.u64.wrap r0).toNat 64))) 4294967295))), (15, .c (.i .u64 (IntKind.u64.wrap (s.1 - 1)))), (16, .c (.i .u64 (IntKind.u64.wrap (s.2 + (IntKind.u64.wrap (z * 2 ^ (min (IntKind.u64.wrap r0).toNat 64))).fdiv 4294967296))))] [] 1 0)) (by kernel_rfl) ⟨decide_eq_false qh0, decide_eq_false qh0, decide_eq_false qh0, decide_eq_false qh0, decide_eq_false qh0, decide_eq_false qh0, decide_eq_false qh0, decide_eq_false qh0, decide_eq_false qh0, decide_eq_true qh1, decide_eq_true qh2, ⟨⟨rfl, rfl, rfl, rfl, rfl, rfl, rfl, rfl, rfl, rfl, rfl, trivial⟩, trivial, rfl, trivial, closL_mk (by kernel_rfl) trivial⟩⟩)
      · skip
        have hs : bits_Div64_L0_step r0 y z s = some (.inl ((IntKind.u64.wrap (s.1 - 1)), (IntKind.u64.wrap (s.2 + (IntKind.u64.wrap (z * 2 ^ (min (IntKind.u64.wrap r0).toNat 64))).fdiv 4294967296)))) := by unfold bits_Div64_L0_step; exact (if_neg qh0).trans ((if_pos qh1).trans ((if_neg qh2).trans rfl))
        exact round_inl hs (stepN (ds := [.br false, .br false, .br false, .br false, .br false, .br false, .br false, .br false, .br false, .br true, .br false]) (B := (decide (s.1 ≥ 4294967296) = false) ∧ (decide (s.1 ≥ 4294967296) = false) ∧ (decide (s.1 ≥ 4294967296) = false) ∧ (decide (s.1 ≥ 4294967296) = false) ∧ (decide (s.1 ≥ 4294967296) = false) ∧ (decide (s.1 ≥ 4294967296) = false) ∧ (decide (s.1 ≥ 4294967296) = false) ∧ (decide (s.1 ≥ 4294967296) = false) ∧ (decide (s.1 ≥ 4294967296) = false) ∧ (decide (IntKind.u64.wrap (s.1 * Go.bits .and .u64 (IntKind.u64.wrap (z * 2 ^ (min (IntKind.u64.wrap r0).toNat 64))) 4294967295) > IntKind.u64.wrap (IntKind.u64.wrap (4294967296 * s.2) + (IntKind.u64.wrap (y * 2 ^ (min (IntKind.u64.wrap r0).toNat 64))).fdiv 4294967296)) = true) ∧ (decide (IntKind.u64.wrap (s.2 + (IntKind.u64.wrap (z * 2 ^ (min (IntKind.u64.wrap r0).toNat 64))).fdiv 4294967296) ≥ 4294967296) = false) ∧ (((.c (.i .u64 (IntKind.u64.wrap (z * 2 ^ (min (IntKind.u64.wrap r0).toNat 64)))) : AV) = .c (.i .u64 (IntKind.u64.wrap (z * 2 ^ (min (IntKind.u64.wrap r0).toNat 64)))) ∧ (.c (.i .u64 0) : AV) = .c (.i .u64 0) ∧ (.c (.i .u64 0) : AV) = .c (.i .u64 0) ∧ (.c (.i .u64 (IntKind.u64.wrap r0)) : AV) = .c (.i .u64 (IntKind.u64.wrap r0)) ∧ (.c (.i .u64 ((IntKind.u64.wrap (z * 2 ^ (min (IntKind.u64.wrap r0).toNat 64))).fdiv 4294967296)) : AV) = .c (.i .u64 ((IntKind.u64.wrap (z * 2 ^ (min (IntKind.u64.wrap r0).toNat 64))).fdiv 4294967296)) ∧ (.c (.i .u64 (Go.bits .and .u64 (IntKind.u64.wrap (z * 2 ^ (min (IntKind.u64.wrap r0).toNat 64))) 4294967295)) : AV) = .c (.i .u64 (Go.bits .and .u64 (IntKind.u64.wrap (z * 2 ^ (min (IntKind.u64.wrap r0).toNat 64))) 4294967295)) ∧ (.c (.i .u64 (Go.bits .or .u64 (IntKind.u64.wrap (x * 2 ^ (min (IntKind.u64.wrap r0).toNat 64))) ((y).fdiv (2 ^ (min (IntKind.u64.wrap (64 - IntKind.u64.wrap r0)).toNat 64))))) : AV) = .c (.i .u64 (Go.bits .or .u64 (IntKind.u64.wrap (x * 2 ^ (min (IntKind.u64.wrap r0).toNat 64))) ((y).fdiv (2 ^ (min (IntKind.u64.wrap (64 - IntKind.u64.wrap r0)).toNat 64))))) ∧ (.c (.i .u64 ((IntKind.u64.wrap (y * 2 ^ (min (IntKind.u64.wrap r0).toNat 64))).fdiv 4294967296)) : AV) = .c (.i .u64 ((IntKind.u64.wrap (y * 2 ^ (min (IntKind.u64.wrap r0).toNat 64))).fdiv 4294967296)) ∧ (.c (.i .u64 (Go.bits .and .u64 (IntKind.u64.wrap (y * 2 ^ (min (IntKind.u64.wrap r0).toNat 64))) 4294967295)) : AV) = .c (.i .u64 (Go.bits .and .u64 (IntKind.u64.wrap (y * 2 ^ (min (IntKind.u64.wrap r0).toNat 64))) 4294967295)) ∧ (.c (.i .u64 (IntKind.u64.wrap (s.1 - 1))) : AV) = .c (.i .u64 (IntKind.u64.wrap (s.1 - 1))) ∧ (.c (.i .u64 (IntKind.u64.wrap (s.2 + (IntKind.u64.wrap (z * 2 ^ (min (IntKind.u64.wrap r0).toNat 64))).fdiv 4294967296))) : AV) = .c (.i .u64 (IntKind.u64.wrap (s.2 + (IntKind.u64.wrap (z * 2 ^ (min (IntKind.u64.wrap r0).toNat 64))).fdiv 4294967296))) ∧ True) ∧ (True) ∧ 0 = 0 ∧ (True) ∧ closL [(2, .c (.i .u64 (IntKind.u64.wrap (z * 2 ^ (min (IntKind.u64.wrap r0).toNat 64))))), (6, .c (.i .u64 0)), (7, .c (.i .u64 0)), (8, .c (.i .u64 (IntKind.u64.wrap r0))), (9, .c (.i .u64 ((IntKind.u64.wrap (z * 2 ^ (min (IntKind.u64.wrap r0).toNat 64))).fdiv 4294967296))), (10, .c (.i .u64 (Go.bits .and .u64 (IntKind.u64.wrap (z * 2 ^ (min (IntKind.u64.wrap r0).toNat 64))) 4294967295))), (11, .c (.i .u64 (Go.bits .or .u64 (IntKind.u64.wrap (x * 2 ^ (min (IntKind.u64.wrap r0).toNat 64))) ((y).fdiv (2 ^ (min (IntKind.u64.wrap (64 - IntKind.u64.wrap r0)).toNat 64)))))), (13, .c (.i .u64 ((IntKind.u64.wrap (y * 2 ^ (min (IntKind.u64.wrap r0).toNat 64))).fdiv 4294967296))), (14, .c (.i .u64 (Go.bits .and .u64 (IntKind.u64.wrap (y * 2 ^ (min (IntKind.u64.wrap r0).toNat 64))) 4294967295))), (15, .c (.i .u64 (IntKind.u64.wrap (s.1 - 1)))), (16, .c (.i .u64 (IntKind.u64.wrap (s.2 + (IntKind.u64.wrap (z * 2 ^ (min (IntKind.u64.wrap r0).toNat 64))).fdiv 4294967296))))] [] 1 0)) (by kernel_rfl) ⟨decide_eq_false qh0, decide_eq_false qh0, decide_eq_false qh0, decide_eq_false qh0, decide_eq_false qh0, decide_eq_false qh0, decide_eq_false qh0, decide_eq_false qh0, decide_eq_false qh0, decide_eq_true qh1, decide_eq_false qh2, ⟨⟨rfl, rfl, rfl, rfl, rfl, rfl, rfl, rfl, rfl, rfl, rfl, trivial⟩, trivial, rfl, trivial, closL_mk (by kernel_rfl) trivial⟩⟩)
    · skip
      have hs : bits_Div64_L0_step r0 y z s = some (.inr (s.1, s.2)) := by unfold bits_Div64_L0_step; exact (if_neg qh0).trans ((if_neg qh1).trans rfl)
      exact round_inr hs (e := (.exit 0)) rfl (by intro h; cases h) (stepX (id := 0) (ds := [.br false, .br false, .br false, .br false, .br false, .br false, .br false, .br false, .br false, .br false]) (B := (decide (s.1 ≥ 4294967296) = false) ∧ (decide (s.1 ≥ 4294967296) = false) ∧ (decide (s.1 ≥ 4294967296) = false) ∧ (decide (s.1 ≥ 4294967296) = false) ∧ (decide (s.1 ≥ 4294967296) = false) ∧ (decide (s.1 ≥ 4294967296) = false) ∧ (decide (s.1 ≥ 4294967296) = false) ∧ (decide (s.1 ≥ 4294967296) = false) ∧ (decide (s.1 ≥ 4294967296) = false) ∧ (decide (IntKind.u64.wrap (s.1 * Go.bits .and .u64 (IntKind.u64.wrap (z * 2 ^ (min (IntKind.u64.wrap r0).toNat 64))) 4294967295) > IntKind.u64.wrap (IntKind.u64.wrap (4294967296 * s.2) + (IntKind.u64.wrap (y * 2 ^ (min (IntKind.u64.wrap r0).toNat 64))).fdiv 4294967296)) = false) ∧ (((.c (.i .u64 (IntKind.u64.wrap (z * 2 ^ (min (IntKind.u64.wrap r0).toNat 64)))) : AV) = .c (.i .u64 (IntKind.u64.wrap (z * 2 ^ (min (IntKind.u64.wrap r0).toNat 64)))) ∧ (.c (.i .u64 0) : AV) = .c (.i .u64 0) ∧ (.c (.i .u64 0) : AV) = .c (.i .u64 0) ∧ (.c (.i .u64 (IntKind.u64.wrap r0)) : AV) = .c (.i .u64 (IntKind.u64.wrap r0)) ∧ (.c (.i .u64 ((IntKind.u64.wrap (z * 2 ^ (min (IntKind.u64.wrap r0).toNat 64))).fdiv 4294967296)) : AV) = .c (.i .u64 ((IntKind.u64.wrap (z * 2 ^ (min (IntKind.u64.wrap r0).toNat 64))).fdiv 4294967296)) ∧ (.c (.i .u64 (Go.bits .and .u64 (IntKind.u64.wrap (z * 2 ^ (min (IntKind.u64.wrap r0).toNat 64))) 4294967295)) : AV) = .c (.i .u64 (Go.bits .and .u64 (IntKind.u64.wrap (z * 2 ^ (min (IntKind.u64.wrap r0).toNat 64))) 4294967295)) ∧ (.c (.i .u64 (Go.bits .or .u64 (IntKind.u64.wrap (x * 2 ^ (min (IntKind.u64.wrap r0).toNat 64))) ((y).fdiv (2 ^ (min (IntKind.u64.wrap (64 - IntKind.u64.wrap r0)).toNat 64))))) : AV) = .c (.i .u64 (Go.bits .or .u64 (IntKind.u64.wrap (x * 2 ^ (min (IntKind.u64.wrap r0).toNat 64))) ((y).fdiv (2 ^ (min (IntKind.u64.wrap (64 - IntKind.u64.wrap r0)).toNat 64))))) ∧ (.c (.i .u64 ((IntKind.u64.wrap (y * 2 ^ (min (IntKind.u64.wrap r0).toNat 64))).fdiv 4294967296)) : AV) = .c (.i .u64 ((IntKind.u64.wrap (y * 2 ^ (min (IntKind.u64.wrap r0).toNat 64))).fdiv 4294967296)) ∧ (.c (.i .u64 (Go.bits .and .u64 (IntKind.u64.wrap (y * 2 ^ (min (IntKind.u64.wrap r0).toNat 64))) 4294967295)) : AV) = .c (.i .u64 (Go.bits .and .u64 (IntKind.u64.wrap (y * 2 ^ (min (IntKind.u64.wrap r0).toNat 64))) 4294967295)) ∧ (.c (.i .u64 s.1) : AV) = .c (.i .u64 s.1) ∧ (.c (.i .u64 s.2) : AV) = .c (.i .u64 s.2) ∧ True) ∧ (True) ∧ 0 = 0 ∧ (True) ∧ closL [(2, .c (.i .u64 (IntKind.u64.wrap (z * 2 ^ (min (IntKind.u64.wrap r0).toNat 64))))), (6, .c (.i .u64 0)), (7, .c (.i .u64 0)), (8, .c (.i .u64 (IntKind.u64.wrap r0))), (9, .c (.i .u64 ((IntKind.u64.wrap (z * 2 ^ (min (IntKind.u64.wrap r0).toNat 64))).fdiv 4294967296))), (10, .c (.i .u64 (Go.bits .and .u64 (IntKind.u64.wrap (z * 2 ^ (min (IntKind.u64.wrap r0).toNat 64))) 4294967295))), (11, .c (.i .u64 (Go.bits .or .u64 (IntKind.u64.wrap (x * 2 ^ (min (IntKind.u64.wrap r0).toNat 64))) ((y).fdiv (2 ^ (min (IntKind.u64.wrap (64 - IntKind.u64.wrap r0)).toNat 64)))))), (13, .c (.i .u64 ((IntKind.u64.wrap (y * 2 ^ (min (IntKind.u64.wrap r0).toNat 64))).fdiv 4294967296))), (14, .c (.i .u64 (Go.bits .and .u64 (IntKind.u64.wrap (y * 2 ^ (min (IntKind.u64.wrap r0).toNat 64))) 4294967295))), (15, .c (.i .u64 s.1)), (16, .c (.i .u64 s.2))] [] 1 0)) (by kernel_rfl) ⟨decide_eq_false qh0, decide_eq_false qh0, decide_eq_false qh0, decide_eq_false qh0, decide_eq_false qh0, decide_eq_false qh0, decide_eq_false qh0, decide_eq_false qh0, decide_eq_false qh0, decide_eq_false qh1, ⟨⟨rfl, rfl, rfl, rfl, rfl, rfl, rfl, rfl, rfl, rfl, rfl, trivial⟩, trivial, rfl, trivial, closL_mk (by kernel_rfl) trivial⟩⟩)

def bits_Div64_L1_H (r0 : Int) (r1 : Int × Int) (x : Int) (y : Int) (z : Int) (s : Int × Int) : St := mkS [(2, .c (.i .u64 (IntKind.u64.wrap (z * 2 ^ (min (IntKind.u64.wrap r0).toNat 64))))), (6, .c (.i .u64 0)), (7, .c (.i .u64 0)), (8, .c (.i .u64 (IntKind.u64.wrap r0))), (9, .c (.i .u64 ((IntKind.u64.wrap (z * 2 ^ (min (IntKind.u64.wrap r0).toNat 64))).fdiv 4294967296))), (10, .c (.i .u64 (Go.bits .and .u64 (IntKind.u64.wrap (z * 2 ^ (min (IntKind.u64.wrap r0).toNat 64))) 4294967295))), (14, .c (.i .u64 (Go.bits .and .u64 (IntKind.u64.wrap (y * 2 ^ (min (IntKind.u64.wrap r0).toNat 64))) 4294967295))), (15, .c (.i .u64 r1.1)), (16, .c (.i .u64 s.1)), (17, .c (.i .u64 (IntKind.u64.wrap (IntKind.u64.wrap (IntKind.u64.wrap (Go.bits .or .u64 (IntKind.u64.wrap (x * 2 ^ (min (IntKind.u64.wrap r0).toNat 64))) ((y).fdiv (2 ^ (min (IntKind.u64.wrap (64 - IntKind.u64.wrap r0)).toNat 64))) * 4294967296) + (IntKind.u64.wrap (y * 2 ^ (min (IntKind.u64.wrap r0).toNat 64))).fdiv 4294967296) - IntKind.u64.wrap (r1.1 * IntKind.u64.wrap (z * 2 ^ (min (IntKind.u64.wrap r0).toNat 64))))))), (18, .c (.i .u64 s.2))] [] 1 0

def bits_Div64_L1_X (r0 : Int) (r1 : Int × Int) (x : Int) (y : Int) (z : Int) (v : Int) : Exit × St := ((.exit 2), mkS [(2, .c (.i .u64 (IntKind.u64.wrap (z * 2 ^ (min (IntKind.u64.wrap r0).toNat 64))))), (6, .c (.i .u64 0)), (7, .c (.i .u64 0)), (8, .c (.i .u64 (IntKind.u64.wrap r0))), (14, .c (.i .u64 (Go.bits .and .u64 (IntKind.u64.wrap (y * 2 ^ (min (IntKind.u64.wrap r0).toNat 64))) 4294967295))), (15, .c (.i .u64 r1.1)), (17, .c (.i .u64 (IntKind.u64.wrap (IntKind.u64.wrap (IntKind.u64.wrap (Go.bits .or .u64 (IntKind.u64.wrap (x * 2 ^ (min (IntKind.u64.wrap r0).toNat 64))) ((y).fdiv (2 ^ (min (IntKind.u64.wrap (64 - IntKind.u64.wrap r0)).toNat 64))) * 4294967296) + (IntKind.u64.wrap (y * 2 ^ (min (IntKind.u64.wrap r0).toNat 64))).fdiv 4294967296) - IntKind.u64.wrap (r1.1 * IntKind.u64.wrap (z * 2 ^ (min (IntKind.u64.wrap r0).toNat 64))))))), (18, .c (.i .u64 v))] [] 1 0)

theorem bits_Div64_L1_round (r0 : Int) (r1 : Int × Int) (x : Int) (y : Int) (z : Int) : ∀ s : Int × Int, RoundOK tab EQ Try.prog (loopAt Try.f133 1) (bits_Div64_L1_step r0 y z) (bits_Div64_L1_H r0 r1 x y z) (bits_Div64_L1_X r0 r1 x y z) s := by
  intro s
  by_cases qh0 : s.2 ≥ 4294967296
  · skip
    by_cases qh1 : IntKind.u64.wrap (s.1 + (IntKind.u64.wrap (z * 2 ^ (min (IntKind.u64.wrap r0).toNat 64))).fdiv 4294967296) ≥ 4294967296
    · skip
      have hs : bits_Div64_L1_step r0 y z s = some (.inr (IntKind.u64.wrap (s.2 - 1))) := by unfold bits_Div64_L1_step; exact (if_pos qh0).trans ((if_pos qh1).trans rfl)
      exact round_inr hs (e := (.exit 2)) rfl (by intro h; cases h) (stepX (id := 2) (ds := [.br true, .br true, .br true, .br true, .br true, .br true, .br true, .br true, .br true, .br true, .br true]) (B := (decide (s.2 ≥ 4294967296) = true) ∧ (decide (s.2 ≥ 4294967296) = true) ∧ (decide (s.2 ≥ 4294967296) = true) ∧ (decide (s.2 ≥ 4294967296) = true) ∧ (decide (s.2 ≥ 4294967296) = true) ∧ (decide (s.2 ≥ 4294967296) = true) ∧ (decide (s.2 ≥ 4294967296) = true) ∧ (decide (s.2 ≥ 4294967296) = true) ∧ (decide (s.2 ≥ 4294967296) = true) ∧ (true = true) ∧ (decide (IntKind.u64.wrap (s.1 + (IntKind.u64.wrap (z * 2 ^ (min (IntKind.u64.wrap r0).toNat 64))).fdiv 4294967296) ≥ 4294967296) = true) ∧ (((.c (.i .u64 (IntKind.u64.wrap (z * 2 ^ (min (IntKind.u64.wrap r0).toNat 64)))) : AV) = .c (.i .u64 (IntKind.u64.wrap (z * 2 ^ (min (IntKind.u64.wrap r0).toNat 64)))) ∧ (.c (.i .u64 0) : AV) = .c (.i .u64 0) ∧ (.c (.i .u64 0) : AV) = .c (.i .u64 0) ∧ (.c (.i .u64 (IntKind.u64.wrap r0)) : AV) = .c (.i .u64 (IntKind.u64.wrap r0)) ∧ (.c (.i .u64 (Go.bits .and .u64 (IntKind.u64.wrap (y * 2 ^ (min (IntKind.u64.wrap r0).toNat 64))) 4294967295)) : AV) = .c (.i .u64 (Go.bits .and .u64 (IntKind.u64.wrap (y * 2 ^ (min (IntKind.u64.wrap r0).toNat 64))) 4294967295)) ∧ (.c (.i .u64 r1.1) : AV) = .c (.i .u64 r1.1) ∧ (.c (.i .u64 (IntKind.u64.wrap (IntKind.u64.wrap (IntKind.u64.wrap (Go.bits .or .u64 (IntKind.u64.wrap (x * 2 ^ (min (IntKind.u64.wrap r0).toNat 64))) ((y).fdiv (2 ^ (min (IntKind.u64.wrap (64 - IntKind.u64.wrap r0)).toNat 64))) * 4294967296) + (IntKind.u64.wrap (y * 2 ^ (min (IntKind.u64.wrap r0).toNat 64))).fdiv 4294967296) - IntKind.u64.wrap (r1.1 * IntKind.u64.wrap (z * 2 ^ (min (IntKind.u64.wrap r0).toNat 64)))))) : AV) = .c (.i .u64 (IntKind.u64.wrap (IntKind.u64.wrap (IntKind.u64.wrap (Go.bits .or .u64 (IntKind.u64.wrap (x * 2 ^ (min (IntKind.u64.wrap r0).toNat 64))) ((y).fdiv (2 ^ (min (IntKind.u64.wrap (64 - IntKind.u64.wrap r0)).toNat 64))) * 4294967296) + (IntKind.u64.wrap (y * 2 ^ (min (IntKind.u64.wrap r0).toNat 64))).fdiv 4294967296) - IntKind.u64.wrap (r1.1 * IntKind.u64.wrap (z * 2 ^ (min (IntKind.u64.wrap r0).toNat 64)))))) ∧ (.c (.i .u64 (IntKind.u64.wrap (s.2 - 1))) : AV) = .c (.i .u64 (IntKind.u64.wrap (s.2 - 1))) ∧ True) ∧ (True) ∧ 0 = 0 ∧ (True) ∧ closL [(2, .c (.i .u64 (IntKind.u64.wrap (z * 2 ^ (min (IntKind.u64.wrap r0).toNat 64))))), (6, .c (.i .u64 0)), (7, .c (.i .u64 0)), (8, .c (.i .u64 (IntKind.u64.wrap r0))), (14, .c (.i .u64 (Go.bits .and .u64 (IntKind.u64.wrap (y * 2 ^ (min (IntKind.u64.wrap r0).toNat 64))) 4294967295))), (15, .c (.i .u64 r1.1)), (17, .c (.i .u64 (IntKind.u64.wrap (IntKind.u64.wrap (IntKind.u64.wrap (Go.bits .or .u64 (IntKind.u64.wrap (x * 2 ^ (min (IntKind.u64.wrap r0).toNat 64))) ((y).fdiv (2 ^ (min (IntKind.u64.wrap (64 - IntKind.u64.wrap r0)).toNat 64))) * 4294967296) + (IntKind.u64.wrap (y * 2 ^ (min (IntKind.u64.wrap r0).toNat 64))).fdiv 4294967296) - IntKind.u64.wrap (r1.1 * IntKind.u64.wrap (z * 2 ^ (min (IntKind.u64.wrap r0).toNat 64))))))), (18, .c (.i .u64 (IntKind.u64.wrap (s.2 - 1))))] [] 1 0)) (by kernel_rfl) ⟨decide_eq_true qh0, decide_eq_true qh0, decide_eq_true qh0, decide_eq_true qh0, decide_eq_true qh0, decide_eq_true qh0, decide_eq_true qh0, decide_eq_true qh0, decide_eq_true qh0, rfl, decide_eq_true qh1, ⟨⟨rfl, rfl, rfl, rfl, rfl, rfl, rfl, rfl, trivial⟩, trivial, rfl, trivial, closL_mk (by kernel_rfl) trivial⟩⟩)
    · skip
      have hs : bits_Div64_L1_step r0 y z s = some (.inl ((IntKind.u64.wrap (s.1 + (IntKind.u64.wrap (z * 2 ^ (min (IntKind.u64.wrap r0).toNat 64))).fdiv 4294967296)), (IntKind.u64.wrap (s.2 - 1)))) := by unfold bits_Div64_L1_step; exact (if_pos qh0).trans ((if_neg qh1).trans rfl)
      exact round_inl hs (stepN (ds := [.br true, .br true, .br true, .br true, .br true, .br true, .br true, .br true, .br true, .br true, .br false]) (B := (decide (s.2 ≥ 4294967296) = true) ∧ (decide (s.2 ≥ 4294967296) = true) ∧ (decide (s.2 ≥ 4294967296) = true) ∧ (decide (s.2 ≥ 4294967296) = true) ∧ (decide (s.2 ≥ 4294967296) = true) ∧ (decide (s.2 ≥ 4294967296) = true) ∧ (decide (s.2 ≥ 4294967296) = true) ∧ (decide (s.2 ≥ 4294967296) = true) ∧ (decide (s.2 ≥ 4294967296) = true) ∧ (true = true) ∧ (decide (IntKind.u64.wrap (s.1 + (IntKind.u64.wrap (z * 2 ^ (min (IntKind.u64.wrap r0).toNat 64))).fdiv 4294967296) ≥ 4294967296) = false) ∧ (((.c (.i .u64 (IntKind.u64.wrap (z * 2 ^ (min (IntKind.u64.wrap r0).toNat 64)))) : AV) = .c (.i .u64 (IntKind.u64.wrap (z * 2 ^ (min (IntKind.u64.wrap r0).toNat 64)))) ∧ (.c (.i .u64 0) : AV) = .c (.i .u64 0) ∧ (.c (.i .u64 0) : AV) = .c (.i .u64 0) ∧ (.c (.i .u64 (IntKind.u64.wrap r0)) : AV) = .c (.i .u64 (IntKind.u64.wrap r0)) ∧ (.c (.i .u64 ((IntKind.u64.wrap (z * 2 ^ (min (IntKind.u64.wrap r0).toNat 64))).fdiv 4294967296)) : AV) = .c (.i .u64 ((IntKind.u64.wrap (z * 2 ^ (min (IntKind.u64.wrap r0).toNat 64))).fdiv 4294967296)) ∧ (.c (.i .u64 (Go.bits .and .u64 (IntKind.u64.wrap (z * 2 ^ (min (IntKind.u64.wrap r0).toNat 64))) 4294967295)) : AV) = .c (.i .u64 (Go.bits .and .u64 (IntKind.u64.wrap (z * 2 ^ (min (IntKind.u64.wrap r0).toNat 64))) 4294967295)) ∧ (.c (.i .u64 (Go.bits .and .u64 (IntKind.u64.wrap (y * 2 ^ (min (IntKind.u64.wrap r0).toNat 64))) 4294967295)) : AV) = .c (.i .u64 (Go.bits .and .u64 (IntKind.u64.wrap (y * 2 ^ (min (IntKind.u64.wrap r0).toNat 64))) 4294967295)) ∧ (.c (.i .u64 r1.1) : AV) = .c (.i .u64 r1.1) ∧ (.c (.i .u64 (IntKind.u64.wrap (s.1 + (IntKind.u64.wrap (z * 2 ^ (min (IntKind.u64.wrap r0).toNat 64))).fdiv 4294967296))) : AV) = .c (.i .u64 (IntKind.u64.wrap (s.1 + (IntKind.u64.wrap (z * 2 ^ (min (IntKind.u64.wrap r0).toNat 64))).fdiv 4294967296))) ∧ (.c (.i .u64 (IntKind.u64.wrap (IntKind.u64.wrap (IntKind.u64.wrap (Go.bits .or .u64 (IntKind.u64.wrap (x * 2 ^ (min (IntKind.u64.wrap r0).toNat 64))) ((y).fdiv (2 ^ (min (IntKind.u64.wrap (64 - IntKind.u64.wrap r0)).toNat 64))) * 4294967296) + (IntKind.u64.wrap (y * 2 ^ (min (IntKind.u64.wrap r0).toNat 64))).fdiv 4294967296) - IntKind.u64.wrap (r1.1 * IntKind.u64.wrap (z * 2 ^ (min (IntKind.u64.wrap r0).toNat 64)))))) : AV) = .c (.i .u64 (IntKind.u64.wrap (IntKind.u64.wrap (IntKind.u64.wrap (Go.bits .or .u64 (IntKind.u64.wrap (x * 2 ^ (min (IntKind.u64.wrap r0).toNat 64))) ((y).fdiv (2 ^ (min (IntKind.u64.wrap (64 - IntKind.u64.wrap r0)).toNat 64))) * 4294967296) + (IntKind.u64.wrap (y * 2 ^ (min (IntKind.u64.wrap r0).toNat 64))).fdiv 4294967296) - IntKind.u64.wrap (r1.1 * IntKind.u64.wrap (z * 2 ^ (min (IntKind.u64.wrap r0).toNat 64)))))) ∧ (.c (.i .u64 (IntKind.u64.wrap (s.2 - 1))) : AV) = .c (.i .u64 (IntKind.u64.wrap (s.2 - 1))) ∧ True) ∧ (True) ∧ 0 = 0 ∧ (True) ∧ closL [(2, .c (.i .u64 (IntKind.u64.wrap (z * 2 ^ (min (IntKind.u64.wrap r0).toNat 64))))), (6, .c (.i .u64 0)), (7, .c (.i .u64 0)), (8, .c (.i .u64 (IntKind.u64.wrap r0))), (9, .c (.i .u64 ((IntKind.u64.wrap (z * 2 ^ (min (IntKind.u64.wrap r0).toNat 64))).fdiv 4294967296))), (10, .c (.i .u64 (Go.bits .and .u64 (IntKind.u64.wrap (z * 2 ^ (min (IntKind.u64.wrap r0).toNat 64))) 4294967295))), (14, .c (.i .u64 (Go.bits .and .u64 (IntKind.u64.wrap (y * 2 ^ (min (IntKind.u64.wrap r0).toNat 64))) 4294967295))), (15, .c (.i .u64 r1.1)), (16, .c (.i .u64 (IntKind.u64.wrap (s.1 + (IntKind.u64.wrap (z * 2 ^ (min (IntKind.u64.wrap r0).toNat 64))).fdiv 4294967296)))), (17, .c (.i .u64 (IntKind.u64.wrap (IntKind.u64.wrap (IntKind.u64.wrap (Go.bits .or .u64 (IntKind.u64.wrap (x * 2 ^ (min (IntKind.u64.wrap r0).toNat 64))) ((y).fdiv (2 ^ (min (IntKind.u64.wrap (64 - IntKind.u64.wrap r0)).toNat 64))) * 4294967296) + (IntKind.u64.wrap (y * 2 ^ (min (IntKind.u64.wrap r0).toNat 64))).fdiv 4294967296) - IntKind.u64.wrap (r1.1 * IntKind.u64.wrap (z * 2 ^ (min (IntKind.u64.wrap r0).toNat 64))))))), (18, .c (.i .u64 (IntKind.u64.wrap (s.2 - 1))))] [] 1 0)) (by kernel_rfl) ⟨decide_eq_true qh0, decide_eq_true qh0, decide_eq_true qh0, decide_eq_true qh0, decide_eq_true qh0, decide_eq_true qh0, decide_eq_true qh0, decide_eq_true qh0, decide_eq_true qh0, rfl, decide_eq_false qh1, ⟨⟨rfl, rfl, rfl, rfl, rfl, rfl, rfl, rfl, rfl, rfl, rfl, trivial⟩, trivial, rfl, trivial, closL_mk (by kernel_rfl) trivial⟩⟩)
  · skip
    by_cases qh1 : IntKind.u64.wrap (s.2 * Go.bits .and .u64 (IntKind.u64.wrap (z * 2 ^ (min (IntKind.u64.wrap r0).toNat 64))) 4294967295) > IntKind.u64.wrap (IntKind.u64.wrap (4294967296 * s.1) + Go.bits .and .u64 (IntKind.u64.wrap (y * 2 ^ (min (IntKind.u64.wrap r0).toNat 64))) 4294967295)
    · skip
      by_cases qh2 : IntKind.u64.wrap (s.1 + (IntKind.u64.wrap (z * 2 ^ (min (IntKind.u64.wrap r0).toNat 64))).fdiv 4294967296) ≥ 4294967296
      · skip
        have hs : bits_Div64_L1_step r0 y z s = some (.inr (IntKind.u64.wrap (s.2 - 1))) := by unfold bits_Div64_L1_step; exact (if_neg qh0).trans ((if_pos qh1).trans ((if_pos qh2).trans rfl))
        exact round_inr hs (e := (.exit 2)) rfl (by intro h; cases h) (stepX (id := 2) (ds := [.br false, .br false, .br false, .br false, .br false, .br false, .br false, .br false, .br false, .br true, .br true]) (B := (decide (s.2 ≥ 4294967296) = false) ∧ (decide (s.2 ≥ 4294967296) = false) ∧ (decide (s.2 ≥ 4294967296) = false) ∧ (decide (s.2 ≥ 4294967296) = false) ∧ (decide (s.2 ≥ 4294967296) = false) ∧ (decide (s.2 ≥ 4294967296) = false) ∧ (decide (s.2 ≥ 4294967296) = false) ∧ (decide (s.2 ≥ 4294967296) = false) ∧ (decide (s.2 ≥ 4294967296) = false) ∧ (decide (IntKind.u64.wrap (s.2 * Go.bits .and .u64 (IntKind.u64.wrap (z * 2 ^ (min (IntKind.u64.wrap r0).toNat 64))) 4294967295) > IntKind.u64.wrap (IntKind.u64.wrap (4294967296 * s.1) + Go.bits .and .u64 (IntKind.u64.wrap (y * 2 ^ (min (IntKind.u64.wrap r0).toNat 64))) 4294967295)) = true) ∧ (decide (IntKind.u64.wrap (s.1 + (IntKind.u64.wrap (z * 2 ^ (min (IntKind.u64.wrap r0).toNat 64))).fdiv 4294967296) ≥ 4294967296) = true) ∧ (((.c (.i .u64 (IntKind.u64.wrap (z * 2 ^ (min (IntKind.u64.wrap r0).toNat 64)))) : AV) = .c (.i .u64 (IntKind.u64.wrap (z * 2 ^ (min (IntKind.u64.wrap r0).toNat 64)))) ∧ (.c (.i .u64 0) : AV) = .c (.i .u64 0) ∧ (.c (.i .u64 0) : AV) = .c (.i .u64 0) ∧ (.c (.i .u64 (IntKind.u64.wrap r0)) : AV) = .c (.i .u64 (IntKind.u64.wrap r0)) ∧ (.c (.i .u64 (Go.bits .and .u64 (IntKind.u64.wrap (y * 2 ^ (min (IntKind.u64.wrap r0).toNat 64))) 4294967295)) : AV) = .c (.i .u64 (Go.bits .and .u64 (IntKind.u64.wrap (y * 2 ^ (min (IntKind.u64.wrap r0).toNat 64))) 4294967295)) ∧ (.c (.i .u64 r1.1) : AV) = .c (.i .u64 r1.1) ∧ (.c (.i .u64 (IntKind.u64.wrap (IntKind.u64.wrap (IntKind.u64.wrap (Go.bits .or .u64 (IntKind.u64.wrap (x * 2 ^ (min (IntKind.u64.wrap r0).toNat 64))) ((y).fdiv (2 ^ (min (IntKind.u64.wrap (64 - IntKind.u64.wrap r0)).toNat 64))) * 4294967296) + (IntKind.u64.wrap (y * 2 ^ (min (IntKind.u64.wrap r0).toNat 64))).fdiv 4294967296) - IntKind.u64.wrap (r1.1 * IntKind.u64.wrap (z * 2 ^ (min (IntKind.u64.wrap r0).toNat 64)))))) : AV) = .c (.i .u64 (IntKind.u64.wrap (IntKind.u64.wrap (IntKind.u64.wrap (Go.bits .or .u64 (IntKind.u64.wrap (x * 2 ^ (min (IntKind.u64.wrap r0).toNat 64))) ((y).fdiv (2 ^ (min (IntKind.u64.wrap (64 - IntKind.u64.wrap r0)).toNat 64))) * 4294967296) + (IntKind.u64.wrap (y * 2 ^ (min (IntKind.u64.wrap r0).toNat 64))).fdiv 4294967296) - IntKind.u64.wrap (r1.1 * IntKind.u64.wrap (z * 2 ^ (min (IntKind.u64.wrap r0).toNat 64)))))) ∧ (.c (.i .u64 (IntKind.u64.wrap (s.2 - 1))) : AV) = .c (.i .u64 (IntKind.u64.wrap (s.2 - 1))) ∧ True) ∧ (True) ∧ 0 = 0 ∧ (True) ∧ closL [(2, .c (.i .u64 (IntKind.u64.wrap (z * 2 ^ (min (IntKind.u64.wrap r0).toNat 64))))), (6, .c (.i .u64 0)), (7, .c (.i .u64 0)), (8, .c (.i .u64 (IntKind.u64.wrap r0))), (14, .c (.i .u64 (Go.bits .and .u64 (IntKind.u64.wrap (y * 2 ^ (min (IntKind.u64.wrap r0).toNat 64))) 4294967295))), (15, .c (.i .u64 r1.1)), (17, .c (.i .u64 (IntKind.u64.wrap (IntKind.u64.wrap (IntKind.u64.wrap (Go.bits .or .u64 (IntKind.u64.wrap (x * 2 ^ (min (IntKind.u64.wrap r0).toNat 64))) ((y).fdiv (2 ^ (min (IntKind.u64.wrap (64 - IntKind.u64.wrap r0)).toNat 64))) * 4294967296) + (IntKind.u64.wrap (y * 2 ^ (min (IntKind.u64.wrap r0).toNat 64))).fdiv 4294967296) - IntKind.u64.wrap (r1.1 * IntKind.u64.wrap (z * 2 ^ (min (IntKind.u64.wrap r0).toNat 64))))))), (18, .c (.i .u64 (IntKind.u64.wrap (s.2 - 1))))] [] 1 0)) (by kernel_rfl) ⟨decide_eq_false qh0, decide_eq_false qh0, decide_eq_false qh0, decide_eq_false qh0, decide_eq_false qh0, decide_eq_false qh0, decide_eq_false qh0, decide_eq_false qh0, decide_eq_false qh0, decide_eq_true qh1, decide_eq_true qh2, ⟨⟨rfl, rfl, rfl, rfl, rfl, rfl, rfl, rfl, trivial⟩, trivial, rfl, trivial, closL_mk (by kernel_rfl) trivial⟩⟩)
      · skip
        have hs : bits_Div64_L1_step r0 y z s = some (.inl ((IntKind.u64.wrap (s.1 + (IntKind.u64.wrap (z * 2 ^ (min (IntKind.u64.wrap r0).toNat 64))).fdiv 4294967296)), (IntKind.u64.wrap (s.2 - 1)))) := by unfold bits_Div64_L1_step; exact (if_neg qh0).trans ((if_pos qh1).trans ((if_neg qh2).trans rfl))
        exact round_inl hs (stepN (ds := [.br false, .br false, .br false, .br false, .br false, .br false, .br false, .br false, .br false, .br true, .br false]) (B := (decide (s.2 ≥ 4294967296) = false) ∧ (decide (s.2 ≥ 4294967296) = false) ∧ (decide (s.2 ≥ 4294967296) = false) ∧ (decide (s.2 ≥ 4294967296) = false) ∧ (decide (s.2 ≥ 4294967296) = false) ∧ (decide (s.2 ≥ 4294967296) = false) ∧ (decide (s.2 ≥ 4294967296) = false) ∧ (decide (s.2 ≥ 4294967296) = false) ∧ (decide (s.2 ≥ 4294967296) = false) ∧ (decide (IntKind.u64.wrap (s.2 * Go.bits .and .u64 (IntKind.u64.wrap (z * 2 ^ (min (IntKind.u64.wrap r0).toNat 64))) 4294967295) > IntKind.u64.wrap (IntKind.u64.wrap (4294967296 * s.1) + Go.bits .and .u64 (IntKind.u64.wrap (y * 2 ^ (min (IntKind.u64.wrap r0).toNat 64))) 4294967295)) = true) ∧ (decide (IntKind.u64.wrap (s.1 + (IntKind.u64.wrap (z * 2 ^ (min (IntKind.u64.wrap r0).toNat 64))).fdiv 4294967296) ≥ 4294967296) = false) ∧ (((.c (.i .u64 (IntKind.u64.wrap (z * 2 ^ (min (IntKind.u64.wrap r0).toNat 64)))) : AV) = .c (.i .u64 (IntKind.u64.wrap (z * 2 ^ (min (IntKind.u64.wrap r0).toNat 64)))) ∧ (.c (.i .u64 0) : AV) = .c (.i .u64 0) ∧ (.c (.i .u64 0) : AV) = .c (.i .u64 0) ∧ (.c (.i .u64 (IntKind.u64.wrap r0)) : AV) = .c (.i .u64 (IntKind.u64.wrap r0)) ∧ (.c (.i .u64 ((IntKind.u64.wrap (z * 2 ^ (min (IntKind.u64.wrap r0).toNat 64))).fdiv 4294967296)) : AV) = .c (.i .u64 ((IntKind.u64.wrap (z * 2 ^ (min (IntKind.u64.wrap r0).toNat 64))).fdiv 4294967296)) ∧ (.c (.i .u64 (Go.bits .and .u64 (IntKind.u64.wrap (z * 2 ^ (min (IntKind.u64.wrap r0).toNat 64))) 4294967295)) : AV) = .c (.i .u64 (Go.bits .and .u64 (IntKind.u64.wrap (z * 2 ^ (min (IntKind.u64.wrap r0).toNat 64))) 4294967295)) ∧ (.c (.i .u64 (Go.bits .and .u64 (IntKind.u64.wrap (y * 2 ^ (min (IntKind.u64.wrap r0).toNat 64))) 4294967295)) : AV) = .c (.i .u64 (Go.bits .and .u64 (IntKind.u64.wrap (y * 2 ^ (min (IntKind.u64.wrap r0).toNat 64))) 4294967295)) ∧ (.c (.i .u64 r1.1) : AV) = .c (.i .u64 r1.1) ∧ (.c (.i .u64 (IntKind.u64.wrap (s.1 + (IntKind.u64.wrap (z * 2 ^ (min (IntKind.u64.wrap r0).toNat 64))).fdiv 4294967296))) : AV) = .c (.i .u64 (IntKind.u64.wrap (s.1 + (IntKind.u64.wrap (z * 2 ^ (min (IntKind.u64.wrap r0).toNat 64))).fdiv 4294967296))) ∧ (.c (.i .u64 (IntKind.u64.wrap (IntKind.u64.wrap (IntKind.u64.wrap (Go.bits .or .u64 (IntKind.u64.wrap (x * 2 ^ (min (IntKind.u64.wrap r0).toNat 64))) ((y).fdiv (2 ^ (min (IntKind.u64.wrap (64 - IntKind.u64.wrap r0)).toNat 64))) * 4294967296) + (IntKind.u64.wrap (y * 2 ^ (min (IntKind.u64.wrap r0).toNat 64))).fdiv 4294967296) - IntKind.u64.wrap (r1.1 * IntKind.u64.wrap (z * 2 ^ (min (IntKind.u64.wrap r0).toNat 64)))))) : AV) = .c (.i .u64 (IntKind.u64.wrap (IntKind.u64.wrap (IntKind.u64.wrap (Go.bits .or .u64 (IntKind.u64.wrap (x * 2 ^ (min (IntKind.u64.wrap r0).toNat 64))) ((y).fdiv (2 ^ (min (IntKind.u64.wrap (64 - IntKind.u64.wrap r0)).toNat 64))) * 4294967296) + (IntKind.u64.wrap (y * 2 ^ (min (IntKind.u64.wrap r0).toNat 64))).fdiv 4294967296) - IntKind.u64.wrap (r1.1 * IntKind.u64.wrap (z * 2 ^ (min (IntKind.u64.wrap r0).toNat 64)))))) ∧ (.c (.i .u64 (IntKind.u64.wrap (s.2 - 1))) : AV) = .c (.i .u64 (IntKind.u64.wrap (s.2 - 1))) ∧ True) ∧ (True) ∧ 0 = 0 ∧ (True) ∧ closL [(2, .c (.i .u64 (IntKind.u64.wrap (z * 2 ^ (min (IntKind.u64.wrap r0).toNat 64))))), (6, .c (.i .u64 0)), (7, .c (.i .u64 0)), (8, .c (.i .u64 (IntKind.u64.wrap r0))), (9, .c (.i .u64 ((IntKind.u64.wrap (z * 2 ^ (min (IntKind.u64.wrap r0).toNat 64))).fdiv 4294967296))), (10, .c (.i .u64 (Go.bits .and .u64 (IntKind.u64.wrap (z * 2 ^ (min (IntKind.u64.wrap r0).toNat 64))) 4294967295))), (14, .c (.i .u64 (Go.bits .and .u64 (IntKind.u64.wrap (y * 2 ^ (min (IntKind.u64.wrap r0).toNat 64))) 4294967295))), (15, .c (.i .u64 r1.1)), (16, .c (.i .u64 (IntKind.u64.wrap (s.1 + (IntKind.u64.wrap (z * 2 ^ (min (IntKind.u64.wrap r0).toNat 64))).fdiv 4294967296)))), (17, .c (.i .u64 (IntKind.u64.wrap (IntKind.u64.wrap (IntKind.u64.wrap (Go.bits .or .u64 (IntKind.u64.wrap (x * 2 ^ (min (IntKind.u64.wrap r0).toNat 64))) ((y).fdiv (2 ^ (min (IntKind.u64.wrap (64 - IntKind.u64.wrap r0)).toNat 64))) * 4294967296) + (IntKind.u64.wrap (y * 2 ^ (min (IntKind.u64.wrap r0).toNat 64))).fdiv 4294967296) - IntKind.u64.wrap (r1.1 * IntKind.u64.wrap (z * 2 ^ (min (IntKind.u64.wrap r0).toNat 64))))))), (18, .c (.i .u64 (IntKind.u64.wrap (s.2 - 1))))] [] 1 0)) (by kernel_rfl) ⟨decide_eq_false qh0, decide_eq_false qh0, decide_eq_false qh0, decide_eq_false qh0, decide_eq_false qh0, decide_eq_false qh0, decide_eq_false qh0, decide_eq_false qh0, decide_eq_false qh0, decide_eq_true qh1, decide_eq_false qh2, ⟨⟨rfl, rfl, rfl, rfl, rfl, rfl, rfl, rfl, rfl, rfl, rfl, trivial⟩, trivial, rfl, trivial, closL_mk (by kernel_rfl) trivial⟩⟩)
    · skip
      have hs : bits_Div64_L1_step r0 y z s = some (.inr s.2) := by unfold bits_Div64_L1_step; exact (if_neg qh0).trans ((if_neg qh1).trans rfl)
      exact round_inr hs (e := (.exit 2)) rfl (by intro h; cases h) (stepX (id := 2) (ds := [.br false, .br false, .br false, .br false, .br false, .br false, .br false, .br false, .br false, .br false]) (B := (decide (s.2 ≥ 4294967296) = false) ∧ (decide (s.2 ≥ 4294967296) = false) ∧ (decide (s.2 ≥ 4294967296) = false) ∧ (decide (s.2 ≥ 4294967296) = false) ∧ (decide (s.2 ≥ 4294967296) = false) ∧ (decide (s.2 ≥ 4294967296) = false) ∧ (decide (s.2 ≥ 4294967296) = false) ∧ (decide (s.2 ≥ 4294967296) = false) ∧ (decide (s.2 ≥ 4294967296) = false) ∧ (decide (IntKind.u64.wrap (s.2 * Go.bits .and .u64 (IntKind.u64.wrap (z * 2 ^ (min (IntKind.u64.wrap r0).toNat 64))) 4294967295) > IntKind.u64.wrap (IntKind.u64.wrap (4294967296 * s.1) + Go.bits .and .u64 (IntKind.u64.wrap (y * 2 ^ (min (IntKind.u64.wrap r0).toNat 64))) 4294967295)) = false) ∧ (((.c (.i .u64 (IntKind.u64.wrap (z * 2 ^ (min (IntKind.u64.wrap r0).toNat 64)))) : AV) = .c (.i .u64 (IntKind.u64.wrap (z * 2 ^ (min (IntKind.u64.wrap r0).toNat 64)))) ∧ (.c (.i .u64 0) : AV) = .c (.i .u64 0) ∧ (.c (.i .u64 0) : AV) = .c (.i .u64 0) ∧ (.c (.i .u64 (IntKind.u64.wrap r0)) : AV) = .c (.i .u64 (IntKind.u64.wrap r0)) ∧ (.c (.i .u64 (Go.bits .and .u64 (IntKind.u64.wrap (y * 2 ^ (min (IntKind.u64.wrap r0).toNat 64))) 4294967295)) : AV) = .c (.i .u64 (Go.bits .and .u64 (IntKind.u64.wrap (y * 2 ^ (min (IntKind.u64.wrap r0).toNat 64))) 4294967295)) ∧ (.c (.i .u64 r1.1) : AV) = .c (.i .u64 r1.1) ∧ (.c (.i .u64 (IntKind.u64.wrap (IntKind.u64.wrap (IntKind.u64.wrap (Go.bits .or .u64 (IntKind.u64.wrap (x * 2 ^ (min (IntKind.u64.wrap r0).toNat 64))) ((y).fdiv (2 ^ (min (IntKind.u64.wrap (64 - IntKind.u64.wrap r0)).toNat 64))) * 4294967296) + (IntKind.u64.wrap (y * 2 ^ (min (IntKind.u64.wrap r0).toNat 64))).fdiv 4294967296) - IntKind.u64.wrap (r1.1 * IntKind.u64.wrap (z * 2 ^ (min (IntKind.u64.wrap r0).toNat 64)))))) : AV) = .c (.i .u64 (IntKind.u64.wrap (IntKind.u64.wrap (IntKind.u64.wrap (Go.bits .or .u64 (IntKind.u64.wrap (x * 2 ^ (min (IntKind.u64.wrap r0).toNat 64))) ((y).fdiv (2 ^ (min (IntKind.u64.wrap (64 - IntKind.u64.wrap r0)).toNat 64))) * 4294967296) + (IntKind.u64.wrap (y * 2 ^ (min (IntKind.u64.wrap r0).toNat 64))).fdiv 4294967296) - IntKind.u64.wrap (r1.1 * IntKind.u64.wrap (z * 2 ^ (min (IntKind.u64.wrap r0).toNat 64)))))) ∧ (.c (.i .u64 s.2) : AV) = .c (.i .u64 s.2) ∧ True) ∧ (True) ∧ 0 = 0 ∧ (True) ∧ closL [(2, .c (.i .u64 (IntKind.u64.wrap (z * 2 ^ (min (IntKind.u64.wrap r0).toNat 64))))), (6, .c (.i .u64 0)), (7, .c (.i .u64 0)), (8, .c (.i .u64 (IntKind.u64.wrap r0))), (14, .c (.i .u64 (Go.bits .and .u64 (IntKind.u64.wrap (y * 2 ^ (min (IntKind.u64.wrap r0).toNat 64))) 4294967295))), (15, .c (.i .u64 r1.1)), (17, .c (.i .u64 (IntKind.u64.wrap (IntKind.u64.wrap (IntKind.u64.wrap (Go.bits .or .u64 (IntKind.u64.wrap (x * 2 ^ (min (IntKind.u64.wrap r0).toNat 64))) ((y).fdiv (2 ^ (min (IntKind.u64.wrap (64 - IntKind.u64.wrap r0)).toNat 64))) * 4294967296) + (IntKind.u64.wrap (y * 2 ^ (min (IntKind.u64.wrap r0).toNat 64))).fdiv 4294967296) - IntKind.u64.wrap (r1.1 * IntKind.u64.wrap (z * 2 ^ (min (IntKind.u64.wrap r0).toNat 64))))))), (18, .c (.i .u64 s.2))] [] 1 0)) (by kernel_rfl) ⟨decide_eq_false qh0, decide_eq_false qh0, decide_eq_false qh0, decide_eq_false qh0, decide_eq_false qh0, decide_eq_false qh0, decide_eq_false qh0, decide_eq_false qh0, decide_eq_false qh0, decide_eq_false qh1, ⟨⟨rfl, rfl, rfl, rfl, rfl, rfl, rfl, rfl, trivial⟩, trivial, rfl, trivial, closL_mk (by kernel_rfl) trivial⟩⟩)

def ta_bits_Div64 (x : Int) (y : Int) (z : Int) : List AV := [.c (.i .u64 x), .c (.i .u64 y), .c (.i .u64 z)]

def tb_bits_Div64 (x : Int) (y : Int) (z : Int) : List (Nat × List (List Cell)) := []

def o_bits_Div64 (x : Int) (y : Int) (z : Int) (r : (Int × Int)) : POfn := tplO (ta_bits_Div64 x y z) (tb_bits_Div64 x y z) (P_bits_Div64 x y z ∧ r = bits_Div64 x y z) (.t2 (.c (.i .u64 r.1)) (.c (.i .u64 r.2))) []

end Go.Proofs.Ytcbgfjidamoilaa
