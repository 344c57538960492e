/- What the functions compute. -/
import Derived.Test.YtcbgfjidamoilaaGreatQroAbsL
set_option linter.unusedVariables false
namespace Go.Bag
open Go Go.AbsK

structure Spot where
  X : Int
  Y : Int
  deriving DecidableEq, Inhabited
structure Shape where
  Kind : Int
  R : Int
  W : Int
  H : Int
  Pts : (List Spot)
  deriving DecidableEq, Inhabited
structure Num where
  V : Int
  F : Bool
  deriving DecidableEq, Inhabited
structure Words where
  w0 : Int
  w1 : Int
  deriving DecidableEq, Inhabited
structure Exact where
  neg : Bool
  w : Words
  deriving DecidableEq, Inhabited
structure Vec where
  X : Num
  Y : Num
  deriving DecidableEq, Inhabited
structure Rot where
  C : Num
  S : Num
  deriving DecidableEq, Inhabited
structure Weight where
  M : Num
  I : Num
  deriving DecidableEq, Inhabited
structure Wide where
  neg : Bool
  hi : Int
  lo : Int
  deriving DecidableEq, Inhabited
def decSpot : AV → Option Spot
  | .agg [.i .i64 a1, .i .i64 a2] => some ⟨a1, a2⟩
  | _ => none
def cSpot : Cod Spot where
  enc x := .agg [.i .i64 x.X, .i .i64 x.Y]
  dec := decSpot
  ok v x h := by
    unfold decSpot at h
    split at h
    · injection h with h; subst h; rfl
    · cases h
  pl x := rfl
def rdSpot : List Cell → Spot
  | [.i .i64 a1, .i .i64 a2] => ⟨a1, a2⟩
  | _ => ⟨0, 0⟩
def isSpot : List Cell → Bool
  | [.i .i64 _, .i .i64 _] => true
  | _ => false
def rSpot : Row Spot where
  toCod := cSpot
  w := 2
  rd := rdSpot
  rd_ok x := rfl
  row_len x := rfl
  row_pl x := by
    intro c hc
    have h : plainL (rowOf (cSpot.enc x)) = true := rfl
    exact List.all_eq_true.1 h c hc
  isRow := isSpot
  isRow_ok l h := by
    unfold isSpot at h
    split at h
    · rfl
    · cases h
def decNum : AV → Option Num
  | .agg [.i .i64 a1, .b a2] => some ⟨a1, a2⟩
  | _ => none
def cNum : Cod Num where
  enc x := .agg [.i .i64 x.V, .b x.F]
  dec := decNum
  ok v x h := by
    unfold decNum at h
    split at h
    · injection h with h; subst h; rfl
    · cases h
  pl x := rfl
def rdNum : List Cell → Num
  | [.i .i64 a1, .b a2] => ⟨a1, a2⟩
  | _ => ⟨0, false⟩
def isNum : List Cell → Bool
  | [.i .i64 _, .b _] => true
  | _ => false
def rNum : Row Num where
  toCod := cNum
  w := 2
  rd := rdNum
  rd_ok x := rfl
  row_len x := rfl
  row_pl x := by
    intro c hc
    have h : plainL (rowOf (cNum.enc x)) = true := rfl
    exact List.all_eq_true.1 h c hc
  isRow := isNum
  isRow_ok l h := by
    unfold isNum at h
    split at h
    · rfl
    · cases h
def decVec : AV → Option Vec
  | .agg [.i .i64 a1, .b a2, .i .i64 a3, .b a4] => some ⟨⟨a1, a2⟩, ⟨a3, a4⟩⟩
  | _ => none
def cVec : Cod Vec where
  enc x := .agg [.i .i64 x.X.V, .b x.X.F, .i .i64 x.Y.V, .b x.Y.F]
  dec := decVec
  ok v x h := by
    unfold decVec at h
    split at h
    · injection h with h; subst h; rfl
    · cases h
  pl x := rfl
def rdVec : List Cell → Vec
  | [.i .i64 a1, .b a2, .i .i64 a3, .b a4] => ⟨⟨a1, a2⟩, ⟨a3, a4⟩⟩
  | _ => ⟨⟨0, false⟩, ⟨0, false⟩⟩
def isVec : List Cell → Bool
  | [.i .i64 _, .b _, .i .i64 _, .b _] => true
  | _ => false
def rVec : Row Vec where
  toCod := cVec
  w := 4
  rd := rdVec
  rd_ok x := rfl
  row_len x := rfl
  row_pl x := by
    intro c hc
    have h : plainL (rowOf (cVec.enc x)) = true := rfl
    exact List.all_eq_true.1 h c hc
  isRow := isVec
  isRow_ok l h := by
    unfold isVec at h
    split at h
    · rfl
    · cases h
/-- The rounds that a loop is given at the most. -/
def NN : Nat := 1000000
def bits_Add64 (x y c : Int) : Int × Int := ((((x.toNat + y.toNat + c.toNat) % 18446744073709551616 : Nat) : Int), (((x.toNat + y.toNat + c.toNat) / 18446744073709551616 : Nat) : Int))
def bits_Sub64 (x y c : Int) : Int × Int := ((((x.toNat + 18446744073709551616 - y.toNat - c.toNat) % 18446744073709551616 : Nat) : Int), ((if x.toNat < y.toNat + c.toNat then 1 else 0 : Nat) : Int))
@[reducible] def iteDec {c A B : Prop} [Decidable c] (a : Decidable A) (b : Decidable B) : Decidable (if c then A else B) :=
  if h : c then (if_pos h).symm ▸ a else (if_neg h).symm ▸ b
def P_carry (x y c : Int) : Prop := c.toNat ≤ 1
instance (x y c : Int) : Decidable (P_carry x y c) := inferInstanceAs (Decidable (c.toNat ≤ 1))
/-- The number of bits of a byte. -/
def len8 (v : Int) : Int := if v = 0 then 0 else ((v.toNat.log2 + 1 : Nat) : Int)
theorem borrow_le (x y c : Int) : (bits_Sub64 x y c).2.toNat ≤ 1 := by
  simp only [bits_Sub64, Int.toNat_natCast]
  split <;> omega
theorem borrow_le' {x y c : Int} {r : Int × Int} (h : r = bits_Sub64 x y c) : r.2.toNat ≤ 1 := by rw [h]; exact borrow_le x y c
theorem u64_nn (n : Int) : (0 : Int) ≤ IntKind.u64.wrap n := by
  rw [IntKind.wrap_u64]
  exact Int.emod_nonneg _ (by decide)
def fixed_of (x : Int) : Exact :=
  if x < 0 then
    ⟨true, ⟨IntKind.u64.wrap (0 - IntKind.u64.wrap x), 0⟩⟩
  else
    ⟨false, ⟨IntKind.u64.wrap x, 0⟩⟩
def fixed_exact_up (x : Exact) : Exact :=
  ⟨x.neg, ⟨IntKind.u64.wrap (x.w.w0 * 4294967296), Go.bits .or .u64 (IntKind.u64.wrap (x.w.w1 * 4294967296)) ((x.w.w0).fdiv 4294967296)⟩⟩
def fixed_exact_fit (x : Exact) (y : Bool) : Num :=
  if x.w.w1 = 0 then
    if x.w.w0 ≤ 9223372036854775807 then
      if x.neg = true then
        ⟨IntKind.i64.wrap (0 - IntKind.i64.wrap x.w.w0), y⟩
      else
        ⟨IntKind.i64.wrap x.w.w0, y⟩
    else
      if x.neg = true then
        ⟨(-9223372036854775807), true⟩
      else
        ⟨9223372036854775807, true⟩
  else
    if x.neg = true then
      ⟨(-9223372036854775807), true⟩
    else
      ⟨9223372036854775807, true⟩
def fixed_sound (x : Num) : Num :=
  if x.V = (-9223372036854775808) then
    ⟨(-9223372036854775807), true⟩
  else
    x
def fixed_exact_down (x : Exact) : Exact :=
  ⟨x.neg, ⟨Go.bits .or .u64 (IntKind.u64.wrap (x.w.w1 * 4294967296)) ((x.w.w0).fdiv 4294967296), (x.w.w1).fdiv 4294967296⟩⟩
def fixed_flags_L0_step (x : (List Num)) (s : Int) : Option ((Int) ⊕ (Nat × (Unit) × (Unit))) :=
  if s < ((x.length : Nat) : Int) then
    if ((0 : Int) ≤ s ∧ s < ((x.length : Nat) : Int)) then
    if (nth x s).F = true then
      some (.inr (0, (), default))
    else
      some (.inl (IntKind.i64.wrap (s + 1)))
    else none
  else
    some (.inr (1, default, ()))
def fixed_flags (x : (List Num)) : Bool :=
  let r0 : Nat × (Unit) × (Unit) := (iterO (fixed_flags_L0_step x) NN 0).getD default
  if r0.1 = 0 then
    true
  else
    false
def P_fixed_flags (x : (List Num)) : Prop :=
  ((iterO (fixed_flags_L0_step x) NN 0).isSome = true) ∧ True
instance (x : (List Num)) : Decidable (P_fixed_flags x) :=
  @instDecidableAnd _ _ (inferInstanceAs (Decidable ((iterO (fixed_flags_L0_step x) NN 0).isSome = true))) (instDecidableTrue)
def plane_size (x : Int) : Bool :=
  if x ≥ 16 then
    decide (x ≤ 4096)
  else
    false
def plane_spot_dot (x : Spot) (y : Spot) : Int :=
  IntKind.i64.wrap (IntKind.i64.wrap (x.X * y.X) + IntKind.i64.wrap (x.Y * y.Y))
def fixed_Neg (x : Num) : Num :=
  let r0 : Num := fixed_sound x
  ⟨IntKind.i64.wrap (0 - r0.V), r0.F⟩
def law02_num (x : Int) : Num :=
  ⟨IntKind.i64.wrap (x * 4294967296), false⟩
def cmp_isNaN_int64 (x : Int) : Bool :=
  (!(x == x))
def fixed_values_L0_step (x : (List Num)) (s : List Int × Bool × Int) : Option ((List Int × Bool × Int) ⊕ (List Int × Bool)) :=
  if s.2.2 < ((x.length : Nat) : Int) then
    if ((0 : Int) ≤ s.2.2 ∧ s.2.2 < ((x.length : Nat) : Int)) then
    let qr0 : Num := fixed_sound (nth x s.2.2)
    if s.2.1 = true then
      if ((0 : Int) ≤ s.2.2 ∧ s.2.2 < ((s.1.length : Nat) : Int)) then
      some (.inl (((s.1).set (s.2.2).toNat qr0.V), true, (IntKind.i64.wrap (s.2.2 + 1))))
      else none
    else
      if ((0 : Int) ≤ s.2.2 ∧ s.2.2 < ((s.1.length : Nat) : Int)) then
      some (.inl (((s.1).set (s.2.2).toNat qr0.V), qr0.F, (IntKind.i64.wrap (s.2.2 + 1))))
      else none
    else none
  else
    some (.inr (s.1, s.2.1))
def fixed_values (x : (List Num)) : ((List Int) × Bool) :=
  let r0 : List Int × Bool := (iterO (fixed_values_L0_step x) NN ((List.replicate x.length (0 : Int)), false, 0)).getD default
  (r0.1, r0.2)
def P_fixed_values (x : (List Num)) : Prop :=
  (x.length * 8 ≤ 281474976710656) ∧ (((iterO (fixed_values_L0_step x) NN ((List.replicate x.length (0 : Int)), false, 0)).isSome = true) ∧ True)
instance (x : (List Num)) : Decidable (P_fixed_values x) :=
  @instDecidableAnd _ _ (inferInstanceAs (Decidable (x.length * 8 ≤ 281474976710656))) (@instDecidableAnd _ _ (inferInstanceAs (Decidable ((iterO (fixed_values_L0_step x) NN ((List.replicate x.length (0 : Int)), false, 0)).isSome = true))) (instDecidableTrue))
def bits_Mul64 (x : Int) (y : Int) : (Int × Int) :=
  ((IntKind.u64.wrap (IntKind.u64.wrap (IntKind.u64.wrap ((x).fdiv 4294967296 * (y).fdiv 4294967296) + (IntKind.u64.wrap (IntKind.u64.wrap ((x).fdiv 4294967296 * Go.bits .and .u64 y 4294967295) + (IntKind.u64.wrap (Go.bits .and .u64 x 4294967295 * Go.bits .and .u64 y 4294967295)).fdiv 4294967296)).fdiv 4294967296) + (IntKind.u64.wrap (Go.bits .and .u64 (IntKind.u64.wrap (IntKind.u64.wrap ((x).fdiv 4294967296 * Go.bits .and .u64 y 4294967295) + (IntKind.u64.wrap (Go.bits .and .u64 x 4294967295 * Go.bits .and .u64 y 4294967295)).fdiv 4294967296)) 4294967295 + IntKind.u64.wrap (Go.bits .and .u64 x 4294967295 * (y).fdiv 4294967296))).fdiv 4294967296)), (IntKind.u64.wrap (x * y)))
def plane_spot_minus (x : Spot) (y : Spot) : Spot :=
  ⟨IntKind.i64.wrap (x.X - y.X), IntKind.i64.wrap (x.Y - y.Y)⟩
def plane_spot_cross (x : Spot) (y : Spot) : Int :=
  IntKind.i64.wrap (IntKind.i64.wrap (x.X * y.Y) - IntKind.i64.wrap (x.Y * y.X))
def plane_spot_span (x : Spot) : Int :=
  IntKind.i64.wrap (max x.X (IntKind.i64.wrap (0 - x.X)) + max x.Y (IntKind.i64.wrap (0 - x.Y)))
def fixed_Wrap (x : Num) : Num :=
  let r0 : Num := fixed_sound x
  if (r0.V).tmod 26986075409 > 13493037704 then
    ⟨IntKind.i64.wrap ((r0.V).tmod 26986075409 - 26986075409), r0.F⟩
  else
    if (r0.V).tmod 26986075409 < (-13493037704) then
      ⟨IntKind.i64.wrap ((r0.V).tmod 26986075409 + 26986075409), r0.F⟩
    else
      ⟨(r0.V).tmod 26986075409, r0.F⟩
def fixed_Of (x : Int) : Num :=
  let r0 : Num := fixed_sound (⟨x, false⟩ : Num)
  r0
def plane_Fault_in1 (x : Vec) : Bool :=
  let r0 : Num := fixed_Neg x.X
  if r0.F = true then
    true
  else
    let r1 : Num := fixed_Neg x.Y
    r1.F
def ref01_whole (x : Num) : (Int × Bool) :=
  if x.V = (-9223372036854775808) then
    ((-9223372036854775807), true)
  else
    (x.V, x.F)
def ref01_fit (x : Wide) (y : Bool) : Num :=
  if x.hi = 0 then
    if x.lo > 9223372036854775807 then
      if x.neg = true then
        ⟨(-9223372036854775807), true⟩
      else
        ⟨9223372036854775807, true⟩
    else
      if x.neg = true then
        ⟨IntKind.i64.wrap (0 - IntKind.i64.wrap x.lo), y⟩
      else
        ⟨IntKind.i64.wrap x.lo, y⟩
  else
    if x.neg = true then
      ⟨(-9223372036854775807), true⟩
    else
      ⟨9223372036854775807, true⟩
def ref01_down (x : Wide) : Wide :=
  ⟨x.neg, (x.hi).fdiv 4294967296, Go.bits .or .u64 (IntKind.u64.wrap (x.hi * 4294967296)) ((x.lo).fdiv 4294967296)⟩
def ref01_none (x : Int) : Num :=
  if x > 0 then
    ⟨9223372036854775807, true⟩
  else
    if x < 0 then
      ⟨(-9223372036854775807), true⟩
    else
      ⟨0, true⟩
def bits_Len64 (x : Int) : Int :=
  if x ≥ 4294967296 then
    if (x).fdiv 4294967296 ≥ 65536 then
      if ((x).fdiv 4294967296).fdiv 65536 ≥ 256 then
        IntKind.i64.wrap (56 + IntKind.i64.wrap (len8 (IntKind.u8.wrap ((((x).fdiv 4294967296).fdiv 65536).fdiv 256))))
      else
        IntKind.i64.wrap (48 + IntKind.i64.wrap (len8 (IntKind.u8.wrap (((x).fdiv 4294967296).fdiv 65536))))
    else
      if (x).fdiv 4294967296 ≥ 256 then
        IntKind.i64.wrap (40 + IntKind.i64.wrap (len8 (IntKind.u8.wrap (((x).fdiv 4294967296).fdiv 256))))
      else
        IntKind.i64.wrap (32 + IntKind.i64.wrap (len8 (IntKind.u8.wrap ((x).fdiv 4294967296))))
  else
    if x ≥ 65536 then
      if (x).fdiv 65536 ≥ 256 then
        IntKind.i64.wrap (24 + IntKind.i64.wrap (len8 (IntKind.u8.wrap (((x).fdiv 65536).fdiv 256))))
      else
        IntKind.i64.wrap (16 + IntKind.i64.wrap (len8 (IntKind.u8.wrap ((x).fdiv 65536))))
    else
      if x ≥ 256 then
        IntKind.i64.wrap (8 + IntKind.i64.wrap (len8 (IntKind.u8.wrap ((x).fdiv 256))))
      else
        IntKind.i64.wrap (0 + IntKind.i64.wrap (len8 (IntKind.u8.wrap x)))
def ref01_up (x : Wide) : Wide :=
  ⟨x.neg, Go.bits .or .u64 (IntKind.u64.wrap (x.hi * 4294967296)) ((x.lo).fdiv 4294967296), IntKind.u64.wrap (x.lo * 4294967296)⟩
def slices_IndexFunc_L0_step (x : (List Vec)) (s : Int) : Option ((Int) ⊕ (Nat × (Int) × (Unit))) :=
  if s < ((x.length : Nat) : Int) then
    if ((0 : Int) ≤ s ∧ s < ((x.length : Nat) : Int)) then
    let qr0 : Bool := plane_Fault_in1 (nth x s)
    if qr0 = true then
      some (.inr (0, s, default))
    else
      some (.inl (IntKind.i64.wrap (s + 1)))
    else none
  else
    some (.inr (1, default, ()))
def slices_IndexFunc (x : (List Vec)) : Int :=
  let r0 : Nat × (Int) × (Unit) := (iterO (slices_IndexFunc_L0_step x) NN 0).getD default
  if r0.1 = 0 then
    r0.2.1
  else
    (-1)
def P_slices_IndexFunc (x : (List Vec)) : Prop :=
  ((iterO (slices_IndexFunc_L0_step x) NN 0).isSome = true) ∧ True
instance (x : (List Vec)) : Decidable (P_slices_IndexFunc x) :=
  @instDecidableAnd _ _ (inferInstanceAs (Decidable ((iterO (slices_IndexFunc_L0_step x) NN 0).isSome = true))) (instDecidableTrue)
def ref01_less (x : Wide) (y : Wide) : Bool :=
  if x.hi < y.hi then
    true
  else
    if x.hi = y.hi then
      decide (x.lo < y.lo)
    else
      false
def ref01_size (x : Int) : Int :=
  if x < 0 then
    IntKind.u64.wrap (IntKind.i64.wrap (0 - x))
  else
    IntKind.u64.wrap x
def ref01_flagged_L0_step (x : (List Num)) (s : Int) : Option ((Int) ⊕ (Nat × (Unit) × (Unit))) :=
  if s < ((x.length : Nat) : Int) then
    if ((0 : Int) ≤ s ∧ s < ((x.length : Nat) : Int)) then
    let qr0 : (Int × Bool) := ref01_whole (nth x s)
    if qr0.2 = true then
      some (.inr (0, (), default))
    else
      some (.inl (IntKind.i64.wrap (s + 1)))
    else none
  else
    some (.inr (1, default, ()))
def ref01_flagged (x : (List Num)) : Bool :=
  let r0 : Nat × (Unit) × (Unit) := (iterO (ref01_flagged_L0_step x) NN 0).getD default
  if r0.1 = 0 then
    true
  else
    false
def P_ref01_flagged (x : (List Num)) : Prop :=
  ((iterO (ref01_flagged_L0_step x) NN 0).isSome = true) ∧ True
instance (x : (List Num)) : Decidable (P_ref01_flagged x) :=
  @instDecidableAnd _ _ (inferInstanceAs (Decidable ((iterO (ref01_flagged_L0_step x) NN 0).isSome = true))) (instDecidableTrue)
def ref01_over_L0_step (x : Wide) (y : Int) (s : Int × Int × Int × Int) : Option ((Int × Int × Int × Int) ⊕ (Int × Int)) :=
  if s.2.2.2 ≥ 0 then
    if s.2.2.2 ≥ 64 then
      if Go.bits .or .u64 (IntKind.u64.wrap (s.2.2.1 * 2)) (Go.bits .and .u64 ((x.hi).fdiv (2 ^ (min (IntKind.u64.wrap (IntKind.i64.wrap (s.2.2.2 - 64))).toNat 64))) 1) ≥ y then
        some (.inl ((Go.bits .or .u64 (IntKind.u64.wrap (s.1 * 2)) ((s.2.1).fdiv 9223372036854775808)), (Go.bits .or .u64 (IntKind.u64.wrap (s.2.1 * 2)) 1), (IntKind.u64.wrap (Go.bits .or .u64 (IntKind.u64.wrap (s.2.2.1 * 2)) (Go.bits .and .u64 ((x.hi).fdiv (2 ^ (min (IntKind.u64.wrap (IntKind.i64.wrap (s.2.2.2 - 64))).toNat 64))) 1) - y)), (IntKind.i64.wrap (s.2.2.2 - 1))))
      else
        some (.inl ((Go.bits .or .u64 (IntKind.u64.wrap (s.1 * 2)) ((s.2.1).fdiv 9223372036854775808)), (IntKind.u64.wrap (s.2.1 * 2)), (Go.bits .or .u64 (IntKind.u64.wrap (s.2.2.1 * 2)) (Go.bits .and .u64 ((x.hi).fdiv (2 ^ (min (IntKind.u64.wrap (IntKind.i64.wrap (s.2.2.2 - 64))).toNat 64))) 1)), (IntKind.i64.wrap (s.2.2.2 - 1))))
    else
      if Go.bits .or .u64 (IntKind.u64.wrap (s.2.2.1 * 2)) (Go.bits .and .u64 ((x.lo).fdiv (2 ^ (min (IntKind.u64.wrap s.2.2.2).toNat 64))) 1) ≥ y then
        some (.inl ((Go.bits .or .u64 (IntKind.u64.wrap (s.1 * 2)) ((s.2.1).fdiv 9223372036854775808)), (Go.bits .or .u64 (IntKind.u64.wrap (s.2.1 * 2)) 1), (IntKind.u64.wrap (Go.bits .or .u64 (IntKind.u64.wrap (s.2.2.1 * 2)) (Go.bits .and .u64 ((x.lo).fdiv (2 ^ (min (IntKind.u64.wrap s.2.2.2).toNat 64))) 1) - y)), (IntKind.i64.wrap (s.2.2.2 - 1))))
      else
        some (.inl ((Go.bits .or .u64 (IntKind.u64.wrap (s.1 * 2)) ((s.2.1).fdiv 9223372036854775808)), (IntKind.u64.wrap (s.2.1 * 2)), (Go.bits .or .u64 (IntKind.u64.wrap (s.2.2.1 * 2)) (Go.bits .and .u64 ((x.lo).fdiv (2 ^ (min (IntKind.u64.wrap s.2.2.2).toNat 64))) 1)), (IntKind.i64.wrap (s.2.2.2 - 1))))
  else
    some (.inr (s.1, s.2.1))
def ref01_over (x : Wide) (y : Int) : Wide :=
  let r0 : Int × Int := (iterO (ref01_over_L0_step x y) NN (0, 0, 0, 127)).getD default
  ⟨x.neg, r0.1, r0.2⟩
def P_ref01_over (x : Wide) (y : Int) : Prop :=
  ((iterO (ref01_over_L0_step x y) NN (0, 0, 0, 127)).isSome = true) ∧ True
instance (x : Wide) (y : Int) : Decidable (P_ref01_over x y) :=
  @instDecidableAnd _ _ (inferInstanceAs (Decidable ((iterO (ref01_over_L0_step x y) NN (0, 0, 0, 127)).isSome = true))) (instDecidableTrue)
def cmp_Or_int_L0_step (x : (List Int)) (s : Int) : Option ((Int) ⊕ (Nat × (Int) × (Unit))) :=
  if s < ((x.length : Nat) : Int) then
    if ((0 : Int) ≤ s ∧ s < ((x.length : Nat) : Int)) then
    if nth x s = 0 then
      some (.inl (IntKind.i64.wrap (s + 1)))
    else
      some (.inr (0, nth x s, default))
    else none
  else
    some (.inr (1, default, ()))
def cmp_Or_int (x : (List Int)) : Int :=
  let r0 : Nat × (Int) × (Unit) := (iterO (cmp_Or_int_L0_step x) NN 0).getD default
  if r0.1 = 0 then
    r0.2.1
  else
    0
def P_cmp_Or_int (x : (List Int)) : Prop :=
  ((iterO (cmp_Or_int_L0_step x) NN 0).isSome = true) ∧ True
instance (x : (List Int)) : Decidable (P_cmp_Or_int x) :=
  @instDecidableAnd _ _ (inferInstanceAs (Decidable ((iterO (cmp_Or_int_L0_step x) NN 0).isSome = true))) (instDecidableTrue)
def cmp_isNaN_uint64 (x : Int) : Bool :=
  (!(x == x))
def fixed_Int (x : Int) : Num :=
  let r0 : Exact := fixed_of x
  let r1 : Exact := fixed_exact_up r0
  let r2 : Num := fixed_exact_fit r1 false
  r2
def cmp_Compare_int64 (x : Int) (y : Int) : Int :=
  let r0 : Bool := cmp_isNaN_int64 x
  let r1 : Bool := cmp_isNaN_int64 y
  if r0 = true then
    if r1 = true then
      0
    else
      (-1)
  else
    if r1 = true then
      1
    else
      if x < y then
        (-1)
      else
        if x > y then
          1
        else
          0
def fixed_product (x : Int) (y : Int) : Exact :=
  let r0 : Exact := fixed_of x
  let r1 : Exact := fixed_of y
  let r2 : (Int × Int) := bits_Mul64 r0.w.w0 r1.w.w0
  ⟨(!(r0.neg == r1.neg)), ⟨r2.2, r2.1⟩⟩
def ref01_Neg (x : Num) : Num :=
  let r0 : (Int × Bool) := ref01_whole x
  ⟨IntKind.i64.wrap (0 - r0.1), r0.2⟩
def law02_vec (x : Int) (y : Int) : Vec :=
  let r0 : Num := law02_num x
  let r1 : Num := law02_num y
  ⟨r0, r1⟩
def bits_LeadingZeros64 (x : Int) : Int :=
  let r0 : Int := bits_Len64 x
  IntKind.i64.wrap (64 - r0)
def ref01_Wrap (x : Num) : Num :=
  let r0 : (Int × Bool) := ref01_whole x
  if (r0.1).tmod 26986075409 > 13493037704 then
    if IntKind.i64.wrap ((r0.1).tmod 26986075409 - 26986075409) < (-13493037704) then
      ⟨IntKind.i64.wrap (IntKind.i64.wrap ((r0.1).tmod 26986075409 - 26986075409) + 26986075409), r0.2⟩
    else
      ⟨IntKind.i64.wrap ((r0.1).tmod 26986075409 - 26986075409), r0.2⟩
  else
    if (r0.1).tmod 26986075409 < (-13493037704) then
      ⟨IntKind.i64.wrap ((r0.1).tmod 26986075409 + 26986075409), r0.2⟩
    else
      ⟨(r0.1).tmod 26986075409, r0.2⟩
def slices_ContainsFunc (x : (List Vec)) : Bool :=
  let r0 : Int := slices_IndexFunc x
  decide (r0 ≥ 0)
def P_slices_ContainsFunc (x : (List Vec)) : Prop :=
  (P_slices_IndexFunc x) ∧ True
instance (x : (List Vec)) : Decidable (P_slices_ContainsFunc x) :=
  @instDecidableAnd _ _ (inferInstanceAs (Decidable (P_slices_IndexFunc x))) (instDecidableTrue)
def ref01_plus (x : Wide) (y : Wide) : Wide :=
  if x.neg = y.neg then
    let r0 : (Int × Int) := bits_Add64 x.lo y.lo 0
    let r1 : (Int × Int) := bits_Add64 x.hi y.hi r0.2
    ⟨x.neg, r1.1, r0.1⟩
  else
    let r0 : Bool := ref01_less x y
    if r0 = true then
      let r1 : (Int × Int) := bits_Sub64 y.lo x.lo 0
      let r2 : (Int × Int) := bits_Sub64 y.hi x.hi r1.2
      if y.neg = true then
        if r2.1 = 0 then
          ⟨(!(r1.1 == 0)), r2.1, r1.1⟩
        else
          ⟨true, r2.1, r1.1⟩
      else
        ⟨false, r2.1, r1.1⟩
    else
      let r1 : (Int × Int) := bits_Sub64 x.lo y.lo 0
      let r2 : (Int × Int) := bits_Sub64 x.hi y.hi r1.2
      if x.neg = true then
        if r2.1 = 0 then
          ⟨(!(r1.1 == 0)), r2.1, r1.1⟩
        else
          ⟨true, r2.1, r1.1⟩
      else
        ⟨false, r2.1, r1.1⟩
def P_ref01_plus (x : Wide) (y : Wide) : Prop :=
  if x.neg = y.neg then
    let r0 : (Int × Int) := bits_Add64 x.lo y.lo 0
    (P_carry x.hi y.hi r0.2) ∧ True
  else
    True
instance (x : Wide) (y : Wide) : Decidable (P_ref01_plus x y) :=
  iteDec (c := x.neg = y.neg) (let r0 : (Int × Int) := bits_Add64 x.lo y.lo 0
    @instDecidableAnd _ _ (inferInstanceAs (Decidable (P_carry x.hi y.hi r0.2))) (instDecidableTrue)) (instDecidableTrue)
def ref01_times (x : Int) (y : Int) : Wide :=
  let r0 : Int := ref01_size x
  let r1 : Int := ref01_size y
  let r2 : (Int × Int) := bits_Mul64 r0 r1
  if decide (x < 0) = decide (y < 0) then
    ⟨false, r2.1, r2.2⟩
  else
    if x = 0 then
      ⟨false, r2.1, r2.2⟩
    else
      ⟨(!(y == 0)), r2.1, r2.2⟩
def ref01_root_L0_step (x : Wide) (s : Int × Int) : Option ((Int × Int) ⊕ (Int)) :=
  if s.1 ≥ 0 then
    let qr0 : (Int × Int) := bits_Mul64 (Go.bits .or .u64 s.2 (IntKind.u64.wrap (1 * 2 ^ (min (IntKind.u64.wrap s.1).toNat 64)))) (Go.bits .or .u64 s.2 (IntKind.u64.wrap (1 * 2 ^ (min (IntKind.u64.wrap s.1).toNat 64))))
    let qr1 : Bool := ref01_less x (⟨false, qr0.1, qr0.2⟩ : Wide)
    if qr1 = true then
      some (.inl ((IntKind.i64.wrap (s.1 - 1)), s.2))
    else
      some (.inl ((IntKind.i64.wrap (s.1 - 1)), (Go.bits .or .u64 s.2 (IntKind.u64.wrap (1 * 2 ^ (min (IntKind.u64.wrap s.1).toNat 64))))))
  else
    some (.inr s.2)
def ref01_root (x : Wide) : Wide :=
  let r0 : Int := (iterO (ref01_root_L0_step x) NN (63, 0)).getD default
  ⟨false, 0, r0⟩
def P_ref01_root (x : Wide) : Prop :=
  ((iterO (ref01_root_L0_step x) NN (63, 0)).isSome = true) ∧ True
instance (x : Wide) : Decidable (P_ref01_root x) :=
  @instDecidableAnd _ _ (inferInstanceAs (Decidable ((iterO (ref01_root_L0_step x) NN (63, 0)).isSome = true))) (instDecidableTrue)
def ref01_exact (x : Int) : Wide :=
  let r0 : Int := ref01_size x
  ⟨decide (x < 0), 0, r0⟩
def ref01_Max_L0_step (x : (List Num)) (s : Int × Int) : Option ((Int × Int) ⊕ (Int)) :=
  if s.2 < ((x.length : Nat) : Int) then
    if ((0 : Int) ≤ s.2 ∧ s.2 < ((x.length : Nat) : Int)) then
    let qr0 : (Int × Bool) := ref01_whole (nth x s.2)
    if qr0.1 > s.1 then
      some (.inl (qr0.1, (IntKind.i64.wrap (s.2 + 1))))
    else
      some (.inl (s.1, (IntKind.i64.wrap (s.2 + 1))))
    else none
  else
    some (.inr s.1)
def ref01_Max (x : (List Num)) : Num :=
  if ((x.length : Nat) : Int) = 0 then
    ⟨0, false⟩
  else
    let r0 : (Int × Bool) := ref01_whole (nth x 0)
    let r1 : Int := (iterO (ref01_Max_L0_step x) NN (r0.1, 1)).getD default
    let r2 : Bool := ref01_flagged x
    ⟨r1, r2⟩
def P_ref01_Max (x : (List Num)) : Prop :=
  if ((x.length : Nat) : Int) = 0 then
    True
  else
    (((0 : Int) ≤ 0 ∧ 0 < ((x.length : Nat) : Int))) ∧ (let r0 : (Int × Bool) := ref01_whole (nth x 0)
    ((iterO (ref01_Max_L0_step x) NN (r0.1, 1)).isSome = true) ∧ ((P_ref01_flagged x) ∧ True))
instance (x : (List Num)) : Decidable (P_ref01_Max x) :=
  iteDec (c := ((x.length : Nat) : Int) = 0) (instDecidableTrue) (@instDecidableAnd _ _ (inferInstanceAs (Decidable (((0 : Int) ≤ 0 ∧ 0 < ((x.length : Nat) : Int))))) (let r0 : (Int × Bool) := ref01_whole (nth x 0)
    @instDecidableAnd _ _ (inferInstanceAs (Decidable ((iterO (ref01_Max_L0_step x) NN (r0.1, 1)).isSome = true))) (@instDecidableAnd _ _ (inferInstanceAs (Decidable (P_ref01_flagged x))) (instDecidableTrue))))
def ref01_Min_L0_step (x : (List Num)) (s : Int × Int) : Option ((Int × Int) ⊕ (Int)) :=
  if s.2 < ((x.length : Nat) : Int) then
    if ((0 : Int) ≤ s.2 ∧ s.2 < ((x.length : Nat) : Int)) then
    let qr0 : (Int × Bool) := ref01_whole (nth x s.2)
    if qr0.1 < s.1 then
      some (.inl (qr0.1, (IntKind.i64.wrap (s.2 + 1))))
    else
      some (.inl (s.1, (IntKind.i64.wrap (s.2 + 1))))
    else none
  else
    some (.inr s.1)
def ref01_Min (x : (List Num)) : Num :=
  if ((x.length : Nat) : Int) = 0 then
    ⟨0, false⟩
  else
    let r0 : (Int × Bool) := ref01_whole (nth x 0)
    let r1 : Int := (iterO (ref01_Min_L0_step x) NN (r0.1, 1)).getD default
    let r2 : Bool := ref01_flagged x
    ⟨r1, r2⟩
def P_ref01_Min (x : (List Num)) : Prop :=
  if ((x.length : Nat) : Int) = 0 then
    True
  else
    (((0 : Int) ≤ 0 ∧ 0 < ((x.length : Nat) : Int))) ∧ (let r0 : (Int × Bool) := ref01_whole (nth x 0)
    ((iterO (ref01_Min_L0_step x) NN (r0.1, 1)).isSome = true) ∧ ((P_ref01_flagged x) ∧ True))
instance (x : (List Num)) : Decidable (P_ref01_Min x) :=
  iteDec (c := ((x.length : Nat) : Int) = 0) (instDecidableTrue) (@instDecidableAnd _ _ (inferInstanceAs (Decidable (((0 : Int) ≤ 0 ∧ 0 < ((x.length : Nat) : Int))))) (let r0 : (Int × Bool) := ref01_whole (nth x 0)
    @instDecidableAnd _ _ (inferInstanceAs (Decidable ((iterO (ref01_Min_L0_step x) NN (r0.1, 1)).isSome = true))) (@instDecidableAnd _ _ (inferInstanceAs (Decidable (P_ref01_flagged x))) (instDecidableTrue))))
def cmp_Compare_uint64 (x : Int) (y : Int) : Int :=
  let r0 : Bool := cmp_isNaN_uint64 x
  let r1 : Bool := cmp_isNaN_uint64 y
  if r0 = true then
    if r1 = true then
      0
    else
      (-1)
  else
    if r1 = true then
      1
    else
      if x < y then
        (-1)
      else
        if x > y then
          1
        else
          0
def fixed_extreme_int64_L0_step (x : Int) (z : (List Int)) (zn : Nat) (zo : Nat) (s : Int × Int) : Option ((Int × Int) ⊕ (Int)) :=
  if s.2 < ((zn : Nat) : Int) then
    if ((0 : Int) ≤ s.2 ∧ s.2 < ((zn : Nat) : Int)) then
    if zo + (s.2).toNat < z.length then
    let qr0 : Int := cmp_Compare_int64 (nth z (((zo : Nat) : Int) + s.2)) s.1
    if IntKind.i64.wrap (qr0 * x) < 0 then
      some (.inl ((nth z (((zo : Nat) : Int) + s.2)), (IntKind.i64.wrap (s.2 + 1))))
    else
      some (.inl (s.1, (IntKind.i64.wrap (s.2 + 1))))
    else none
    else none
  else
    some (.inr s.1)
def fixed_extreme_int64 (x : Int) (y : Int) (z : (List Int)) (zo : Nat) (zn : Nat) : Int :=
  let r0 : Int := (iterO (fixed_extreme_int64_L0_step x z zn zo) NN (y, 0)).getD default
  r0
def P_fixed_extreme_int64 (x : Int) (y : Int) (z : (List Int)) (zo : Nat) (zn : Nat) : Prop :=
  ((iterO (fixed_extreme_int64_L0_step x z zn zo) NN (y, 0)).isSome = true) ∧ True
instance (x : Int) (y : Int) (z : (List Int)) (zo : Nat) (zn : Nat) : Decidable (P_fixed_extreme_int64 x y z zo zn) :=
  @instDecidableAnd _ _ (inferInstanceAs (Decidable ((iterO (fixed_extreme_int64_L0_step x z zn zo) NN (y, 0)).isSome = true))) (instDecidableTrue)
def plane_Of (x : Int) (y : Int) : Vec :=
  let r0 : Num := fixed_Int x
  let r1 : Num := fixed_Int y
  ⟨r0, r1⟩
def fixed_Mul (x : Num) (y : Num) : Num :=
  let r0 : Num := fixed_sound x
  let r1 : Num := fixed_sound y
  let r2 : Exact := fixed_product r0.V r1.V
  let r3 : Exact := fixed_exact_down r2
  let r4 : Bool := fixed_flags ([r0, r1] : List Num)
  let r5 : Num := fixed_exact_fit r3 r4
  r5
def P_fixed_Mul (x : Num) (y : Num) : Prop :=
  let r0 : Num := fixed_sound x
  let r1 : Num := fixed_sound y
  (P_fixed_flags ([r0, r1] : List Num)) ∧ True
instance (x : Num) (y : Num) : Decidable (P_fixed_Mul x y) :=
  let r0 : Num := fixed_sound x
  let r1 : Num := fixed_sound y
  @instDecidableAnd _ _ (inferInstanceAs (Decidable (P_fixed_flags ([r0, r1] : List Num)))) (instDecidableTrue)
def bits_Div64_L0_step (r0 : Int) (y : Int) (z : Int) (s : Int × Int) : Option ((Int × Int) ⊕ (Int × Int)) :=
  if s.1 ≥ 4294967296 then
    if IntKind.u64.wrap (s.2 + (IntKind.u64.wrap (z * 2 ^ (min (IntKind.u64.wrap r0).toNat 64))).fdiv 4294967296) ≥ 4294967296 then
      some (.inr ((IntKind.u64.wrap (s.1 - 1)), (IntKind.u64.wrap (s.2 + (IntKind.u64.wrap (z * 2 ^ (min (IntKind.u64.wrap r0).toNat 64))).fdiv 4294967296))))
    else
      some (.inl ((IntKind.u64.wrap (s.1 - 1)), (IntKind.u64.wrap (s.2 + (IntKind.u64.wrap (z * 2 ^ (min (IntKind.u64.wrap r0).toNat 64))).fdiv 4294967296))))
  else
    if IntKind.u64.wrap (s.1 * Go.bits .and .u64 (IntKind.u64.wrap (z * 2 ^ (min (IntKind.u64.wrap r0).toNat 64))) 4294967295) > IntKind.u64.wrap (IntKind.u64.wrap (4294967296 * s.2) + (IntKind.u64.wrap (y * 2 ^ (min (IntKind.u64.wrap r0).toNat 64))).fdiv 4294967296) then
      if IntKind.u64.wrap (s.2 + (IntKind.u64.wrap (z * 2 ^ (min (IntKind.u64.wrap r0).toNat 64))).fdiv 4294967296) ≥ 4294967296 then
        some (.inr ((IntKind.u64.wrap (s.1 - 1)), (IntKind.u64.wrap (s.2 + (IntKind.u64.wrap (z * 2 ^ (min (IntKind.u64.wrap r0).toNat 64))).fdiv 4294967296))))
      else
        some (.inl ((IntKind.u64.wrap (s.1 - 1)), (IntKind.u64.wrap (s.2 + (IntKind.u64.wrap (z * 2 ^ (min (IntKind.u64.wrap r0).toNat 64))).fdiv 4294967296))))
    else
      some (.inr (s.1, s.2))
def bits_Div64_L1_step (r0 : Int) (y : Int) (z : Int) (s : Int × Int) : Option ((Int × Int) ⊕ (Int)) :=
  if s.2 ≥ 4294967296 then
    if IntKind.u64.wrap (s.1 + (IntKind.u64.wrap (z * 2 ^ (min (IntKind.u64.wrap r0).toNat 64))).fdiv 4294967296) ≥ 4294967296 then
      some (.inr (IntKind.u64.wrap (s.2 - 1)))
    else
      some (.inl ((IntKind.u64.wrap (s.1 + (IntKind.u64.wrap (z * 2 ^ (min (IntKind.u64.wrap r0).toNat 64))).fdiv 4294967296)), (IntKind.u64.wrap (s.2 - 1))))
  else
    if IntKind.u64.wrap (s.2 * Go.bits .and .u64 (IntKind.u64.wrap (z * 2 ^ (min (IntKind.u64.wrap r0).toNat 64))) 4294967295) > IntKind.u64.wrap (IntKind.u64.wrap (4294967296 * s.1) + Go.bits .and .u64 (IntKind.u64.wrap (y * 2 ^ (min (IntKind.u64.wrap r0).toNat 64))) 4294967295) then
      if IntKind.u64.wrap (s.1 + (IntKind.u64.wrap (z * 2 ^ (min (IntKind.u64.wrap r0).toNat 64))).fdiv 4294967296) ≥ 4294967296 then
        some (.inr (IntKind.u64.wrap (s.2 - 1)))
      else
        some (.inl ((IntKind.u64.wrap (s.1 + (IntKind.u64.wrap (z * 2 ^ (min (IntKind.u64.wrap r0).toNat 64))).fdiv 4294967296)), (IntKind.u64.wrap (s.2 - 1))))
    else
      some (.inr s.2)
def bits_Div64 (x : Int) (y : Int) (z : Int) : (Int × Int) :=
  if x = 0 then
    ((IntKind.u64.wrap ((y).tdiv z)), ((y).tmod z))
  else
    let r0 : Int := bits_LeadingZeros64 z
    let r1 : Int × Int := (iterO (bits_Div64_L0_step r0 y z) NN ((IntKind.u64.wrap ((Go.bits .or .u64 (IntKind.u64.wrap (x * 2 ^ (min (IntKind.u64.wrap r0).toNat 64))) ((y).fdiv (2 ^ (min (IntKind.u64.wrap (64 - IntKind.u64.wrap r0)).toNat 64)))).tdiv ((IntKind.u64.wrap (z * 2 ^ (min (IntKind.u64.wrap r0).toNat 64))).fdiv 4294967296))), (IntKind.u64.wrap (Go.bits .or .u64 (IntKind.u64.wrap (x * 2 ^ (min (IntKind.u64.wrap r0).toNat 64))) ((y).fdiv (2 ^ (min (IntKind.u64.wrap (64 - IntKind.u64.wrap r0)).toNat 64))) - IntKind.u64.wrap (IntKind.u64.wrap ((Go.bits .or .u64 (IntKind.u64.wrap (x * 2 ^ (min (IntKind.u64.wrap r0).toNat 64))) ((y).fdiv (2 ^ (min (IntKind.u64.wrap (64 - IntKind.u64.wrap r0)).toNat 64)))).tdiv ((IntKind.u64.wrap (z * 2 ^ (min (IntKind.u64.wrap r0).toNat 64))).fdiv 4294967296)) * (IntKind.u64.wrap (z * 2 ^ (min (IntKind.u64.wrap r0).toNat 64))).fdiv 4294967296))))).getD default
    let r2 : Int := (iterO (bits_Div64_L1_step r0 y z) NN ((IntKind.u64.wrap (IntKind.u64.wrap (IntKind.u64.wrap (IntKind.u64.wrap (Go.bits .or .u64 (IntKind.u64.wrap (x * 2 ^ (min (IntKind.u64.wrap r0).toNat 64))) ((y).fdiv (2 ^ (min (IntKind.u64.wrap (64 - IntKind.u64.wrap r0)).toNat 64))) * 4294967296) + (IntKind.u64.wrap (y * 2 ^ (min (IntKind.u64.wrap r0).toNat 64))).fdiv 4294967296) - IntKind.u64.wrap (r1.1 * IntKind.u64.wrap (z * 2 ^ (min (IntKind.u64.wrap r0).toNat 64)))) - IntKind.u64.wrap (IntKind.u64.wrap ((IntKind.u64.wrap (IntKind.u64.wrap (IntKind.u64.wrap (Go.bits .or .u64 (IntKind.u64.wrap (x * 2 ^ (min (IntKind.u64.wrap r0).toNat 64))) ((y).fdiv (2 ^ (min (IntKind.u64.wrap (64 - IntKind.u64.wrap r0)).toNat 64))) * 4294967296) + (IntKind.u64.wrap (y * 2 ^ (min (IntKind.u64.wrap r0).toNat 64))).fdiv 4294967296) - IntKind.u64.wrap (r1.1 * IntKind.u64.wrap (z * 2 ^ (min (IntKind.u64.wrap r0).toNat 64))))).tdiv ((IntKind.u64.wrap (z * 2 ^ (min (IntKind.u64.wrap r0).toNat 64))).fdiv 4294967296)) * (IntKind.u64.wrap (z * 2 ^ (min (IntKind.u64.wrap r0).toNat 64))).fdiv 4294967296))), (IntKind.u64.wrap ((IntKind.u64.wrap (IntKind.u64.wrap (IntKind.u64.wrap (Go.bits .or .u64 (IntKind.u64.wrap (x * 2 ^ (min (IntKind.u64.wrap r0).toNat 64))) ((y).fdiv (2 ^ (min (IntKind.u64.wrap (64 - IntKind.u64.wrap r0)).toNat 64))) * 4294967296) + (IntKind.u64.wrap (y * 2 ^ (min (IntKind.u64.wrap r0).toNat 64))).fdiv 4294967296) - IntKind.u64.wrap (r1.1 * IntKind.u64.wrap (z * 2 ^ (min (IntKind.u64.wrap r0).toNat 64))))).tdiv ((IntKind.u64.wrap (z * 2 ^ (min (IntKind.u64.wrap r0).toNat 64))).fdiv 4294967296))))).getD default
    ((IntKind.u64.wrap (IntKind.u64.wrap (r1.1 * 4294967296) + r2)), ((IntKind.u64.wrap (IntKind.u64.wrap (IntKind.u64.wrap (IntKind.u64.wrap (IntKind.u64.wrap (IntKind.u64.wrap (Go.bits .or .u64 (IntKind.u64.wrap (x * 2 ^ (min (IntKind.u64.wrap r0).toNat 64))) ((y).fdiv (2 ^ (min (IntKind.u64.wrap (64 - IntKind.u64.wrap r0)).toNat 64))) * 4294967296) + (IntKind.u64.wrap (y * 2 ^ (min (IntKind.u64.wrap r0).toNat 64))).fdiv 4294967296) - IntKind.u64.wrap (r1.1 * IntKind.u64.wrap (z * 2 ^ (min (IntKind.u64.wrap r0).toNat 64)))) * 4294967296) + Go.bits .and .u64 (IntKind.u64.wrap (y * 2 ^ (min (IntKind.u64.wrap r0).toNat 64))) 4294967295) - IntKind.u64.wrap (r2 * IntKind.u64.wrap (z * 2 ^ (min (IntKind.u64.wrap r0).toNat 64))))).fdiv (2 ^ (min (IntKind.u64.wrap r0).toNat 64))))
def P_bits_Div64 (x : Int) (y : Int) (z : Int) : Prop :=
  (¬ (z = 0)) ∧ ((¬ (z ≤ x)) ∧ (if x = 0 then
    (z ≠ (0 : Int)) ∧ True
  else
    let r0 : Int := bits_LeadingZeros64 z
    ((IntKind.u64.wrap (z * 2 ^ (min (IntKind.u64.wrap r0).toNat 64))).fdiv 4294967296 ≠ (0 : Int)) ∧ (((iterO (bits_Div64_L0_step r0 y z) NN ((IntKind.u64.wrap ((Go.bits .or .u64 (IntKind.u64.wrap (x * 2 ^ (min (IntKind.u64.wrap r0).toNat 64))) ((y).fdiv (2 ^ (min (IntKind.u64.wrap (64 - IntKind.u64.wrap r0)).toNat 64)))).tdiv ((IntKind.u64.wrap (z * 2 ^ (min (IntKind.u64.wrap r0).toNat 64))).fdiv 4294967296))), (IntKind.u64.wrap (Go.bits .or .u64 (IntKind.u64.wrap (x * 2 ^ (min (IntKind.u64.wrap r0).toNat 64))) ((y).fdiv (2 ^ (min (IntKind.u64.wrap (64 - IntKind.u64.wrap r0)).toNat 64))) - IntKind.u64.wrap (IntKind.u64.wrap ((Go.bits .or .u64 (IntKind.u64.wrap (x * 2 ^ (min (IntKind.u64.wrap r0).toNat 64))) ((y).fdiv (2 ^ (min (IntKind.u64.wrap (64 - IntKind.u64.wrap r0)).toNat 64)))).tdiv ((IntKind.u64.wrap (z * 2 ^ (min (IntKind.u64.wrap r0).toNat 64))).fdiv 4294967296)) * (IntKind.u64.wrap (z * 2 ^ (min (IntKind.u64.wrap r0).toNat 64))).fdiv 4294967296))))).isSome = true) ∧ (let r1 : Int × Int := (iterO (bits_Div64_L0_step r0 y z) NN ((IntKind.u64.wrap ((Go.bits .or .u64 (IntKind.u64.wrap (x * 2 ^ (min (IntKind.u64.wrap r0).toNat 64))) ((y).fdiv (2 ^ (min (IntKind.u64.wrap (64 - IntKind.u64.wrap r0)).toNat 64)))).tdiv ((IntKind.u64.wrap (z * 2 ^ (min (IntKind.u64.wrap r0).toNat 64))).fdiv 4294967296))), (IntKind.u64.wrap (Go.bits .or .u64 (IntKind.u64.wrap (x * 2 ^ (min (IntKind.u64.wrap r0).toNat 64))) ((y).fdiv (2 ^ (min (IntKind.u64.wrap (64 - IntKind.u64.wrap r0)).toNat 64))) - IntKind.u64.wrap (IntKind.u64.wrap ((Go.bits .or .u64 (IntKind.u64.wrap (x * 2 ^ (min (IntKind.u64.wrap r0).toNat 64))) ((y).fdiv (2 ^ (min (IntKind.u64.wrap (64 - IntKind.u64.wrap r0)).toNat 64)))).tdiv ((IntKind.u64.wrap (z * 2 ^ (min (IntKind.u64.wrap r0).toNat 64))).fdiv 4294967296)) * (IntKind.u64.wrap (z * 2 ^ (min (IntKind.u64.wrap r0).toNat 64))).fdiv 4294967296))))).getD default
    ((iterO (bits_Div64_L1_step r0 y z) NN ((IntKind.u64.wrap (IntKind.u64.wrap (IntKind.u64.wrap (IntKind.u64.wrap (Go.bits .or .u64 (IntKind.u64.wrap (x * 2 ^ (min (IntKind.u64.wrap r0).toNat 64))) ((y).fdiv (2 ^ (min (IntKind.u64.wrap (64 - IntKind.u64.wrap r0)).toNat 64))) * 4294967296) + (IntKind.u64.wrap (y * 2 ^ (min (IntKind.u64.wrap r0).toNat 64))).fdiv 4294967296) - IntKind.u64.wrap (r1.1 * IntKind.u64.wrap (z * 2 ^ (min (IntKind.u64.wrap r0).toNat 64)))) - IntKind.u64.wrap (IntKind.u64.wrap ((IntKind.u64.wrap (IntKind.u64.wrap (IntKind.u64.wrap (Go.bits .or .u64 (IntKind.u64.wrap (x * 2 ^ (min (IntKind.u64.wrap r0).toNat 64))) ((y).fdiv (2 ^ (min (IntKind.u64.wrap (64 - IntKind.u64.wrap r0)).toNat 64))) * 4294967296) + (IntKind.u64.wrap (y * 2 ^ (min (IntKind.u64.wrap r0).toNat 64))).fdiv 4294967296) - IntKind.u64.wrap (r1.1 * IntKind.u64.wrap (z * 2 ^ (min (IntKind.u64.wrap r0).toNat 64))))).tdiv ((IntKind.u64.wrap (z * 2 ^ (min (IntKind.u64.wrap r0).toNat 64))).fdiv 4294967296)) * (IntKind.u64.wrap (z * 2 ^ (min (IntKind.u64.wrap r0).toNat 64))).fdiv 4294967296))), (IntKind.u64.wrap ((IntKind.u64.wrap (IntKind.u64.wrap (IntKind.u64.wrap (Go.bits .or .u64 (IntKind.u64.wrap (x * 2 ^ (min (IntKind.u64.wrap r0).toNat 64))) ((y).fdiv (2 ^ (min (IntKind.u64.wrap (64 - IntKind.u64.wrap r0)).toNat 64))) * 4294967296) + (IntKind.u64.wrap (y * 2 ^ (min (IntKind.u64.wrap r0).toNat 64))).fdiv 4294967296) - IntKind.u64.wrap (r1.1 * IntKind.u64.wrap (z * 2 ^ (min (IntKind.u64.wrap r0).toNat 64))))).tdiv ((IntKind.u64.wrap (z * 2 ^ (min (IntKind.u64.wrap r0).toNat 64))).fdiv 4294967296))))).isSome = true) ∧ True))))
instance (x : Int) (y : Int) (z : Int) : Decidable (P_bits_Div64 x y z) :=
  @instDecidableAnd _ _ (inferInstanceAs (Decidable (¬ (z = 0)))) (@instDecidableAnd _ _ (inferInstanceAs (Decidable (¬ (z ≤ x)))) (iteDec (c := x = 0) (@instDecidableAnd _ _ (inferInstanceAs (Decidable (z ≠ (0 : Int)))) (instDecidableTrue)) (let r0 : Int := bits_LeadingZeros64 z
    @instDecidableAnd _ _ (inferInstanceAs (Decidable ((IntKind.u64.wrap (z * 2 ^ (min (IntKind.u64.wrap r0).toNat 64))).fdiv 4294967296 ≠ (0 : Int)))) (@instDecidableAnd _ _ (inferInstanceAs (Decidable ((iterO (bits_Div64_L0_step r0 y z) NN ((IntKind.u64.wrap ((Go.bits .or .u64 (IntKind.u64.wrap (x * 2 ^ (min (IntKind.u64.wrap r0).toNat 64))) ((y).fdiv (2 ^ (min (IntKind.u64.wrap (64 - IntKind.u64.wrap r0)).toNat 64)))).tdiv ((IntKind.u64.wrap (z * 2 ^ (min (IntKind.u64.wrap r0).toNat 64))).fdiv 4294967296))), (IntKind.u64.wrap (Go.bits .or .u64 (IntKind.u64.wrap (x * 2 ^ (min (IntKind.u64.wrap r0).toNat 64))) ((y).fdiv (2 ^ (min (IntKind.u64.wrap (64 - IntKind.u64.wrap r0)).toNat 64))) - IntKind.u64.wrap (IntKind.u64.wrap ((Go.bits .or .u64 (IntKind.u64.wrap (x * 2 ^ (min (IntKind.u64.wrap r0).toNat 64))) ((y).fdiv (2 ^ (min (IntKind.u64.wrap (64 - IntKind.u64.wrap r0)).toNat 64)))).tdiv ((IntKind.u64.wrap (z * 2 ^ (min (IntKind.u64.wrap r0).toNat 64))).fdiv 4294967296)) * (IntKind.u64.wrap (z * 2 ^ (min (IntKind.u64.wrap r0).toNat 64))).fdiv 4294967296))))).isSome = true))) (let r1 : Int × Int := (iterO (bits_Div64_L0_step r0 y z) NN ((IntKind.u64.wrap ((Go.bits .or .u64 (IntKind.u64.wrap (x * 2 ^ (min (IntKind.u64.wrap r0).toNat 64))) ((y).fdiv (2 ^ (min (IntKind.u64.wrap (64 - IntKind.u64.wrap r0)).toNat 64)))).tdiv ((IntKind.u64.wrap (z * 2 ^ (min (IntKind.u64.wrap r0).toNat 64))).fdiv 4294967296))), (IntKind.u64.wrap (Go.bits .or .u64 (IntKind.u64.wrap (x * 2 ^ (min (IntKind.u64.wrap r0).toNat 64))) ((y).fdiv (2 ^ (min (IntKind.u64.wrap (64 - IntKind.u64.wrap r0)).toNat 64))) - IntKind.u64.wrap (IntKind.u64.wrap ((Go.bits .or .u64 (IntKind.u64.wrap (x * 2 ^ (min (IntKind.u64.wrap r0).toNat 64))) ((y).fdiv (2 ^ (min (IntKind.u64.wrap (64 - IntKind.u64.wrap r0)).toNat 64)))).tdiv ((IntKind.u64.wrap (z * 2 ^ (min (IntKind.u64.wrap r0).toNat 64))).fdiv 4294967296)) * (IntKind.u64.wrap (z * 2 ^ (min (IntKind.u64.wrap r0).toNat 64))).fdiv 4294967296))))).getD default
    @instDecidableAnd _ _ (inferInstanceAs (Decidable ((iterO (bits_Div64_L1_step r0 y z) NN ((IntKind.u64.wrap (IntKind.u64.wrap (IntKind.u64.wrap (IntKind.u64.wrap (Go.bits .or .u64 (IntKind.u64.wrap (x * 2 ^ (min (IntKind.u64.wrap r0).toNat 64))) ((y).fdiv (2 ^ (min (IntKind.u64.wrap (64 - IntKind.u64.wrap r0)).toNat 64))) * 4294967296) + (IntKind.u64.wrap (y * 2 ^ (min (IntKind.u64.wrap r0).toNat 64))).fdiv 4294967296) - IntKind.u64.wrap (r1.1 * IntKind.u64.wrap (z * 2 ^ (min (IntKind.u64.wrap r0).toNat 64)))) - IntKind.u64.wrap (IntKind.u64.wrap ((IntKind.u64.wrap (IntKind.u64.wrap (IntKind.u64.wrap (Go.bits .or .u64 (IntKind.u64.wrap (x * 2 ^ (min (IntKind.u64.wrap r0).toNat 64))) ((y).fdiv (2 ^ (min (IntKind.u64.wrap (64 - IntKind.u64.wrap r0)).toNat 64))) * 4294967296) + (IntKind.u64.wrap (y * 2 ^ (min (IntKind.u64.wrap r0).toNat 64))).fdiv 4294967296) - IntKind.u64.wrap (r1.1 * IntKind.u64.wrap (z * 2 ^ (min (IntKind.u64.wrap r0).toNat 64))))).tdiv ((IntKind.u64.wrap (z * 2 ^ (min (IntKind.u64.wrap r0).toNat 64))).fdiv 4294967296)) * (IntKind.u64.wrap (z * 2 ^ (min (IntKind.u64.wrap r0).toNat 64))).fdiv 4294967296))), (IntKind.u64.wrap ((IntKind.u64.wrap (IntKind.u64.wrap (IntKind.u64.wrap (Go.bits .or .u64 (IntKind.u64.wrap (x * 2 ^ (min (IntKind.u64.wrap r0).toNat 64))) ((y).fdiv (2 ^ (min (IntKind.u64.wrap (64 - IntKind.u64.wrap r0)).toNat 64))) * 4294967296) + (IntKind.u64.wrap (y * 2 ^ (min (IntKind.u64.wrap r0).toNat 64))).fdiv 4294967296) - IntKind.u64.wrap (r1.1 * IntKind.u64.wrap (z * 2 ^ (min (IntKind.u64.wrap r0).toNat 64))))).tdiv ((IntKind.u64.wrap (z * 2 ^ (min (IntKind.u64.wrap r0).toNat 64))).fdiv 4294967296))))).isSome = true))) (instDecidableTrue))))))
def plane_Fault (x : (List Vec)) : Bool :=
  let r0 : Bool := slices_ContainsFunc x
  r0
def P_plane_Fault (x : (List Vec)) : Prop :=
  (P_slices_ContainsFunc x) ∧ True
instance (x : (List Vec)) : Decidable (P_plane_Fault x) :=
  @instDecidableAnd _ _ (inferInstanceAs (Decidable (P_slices_ContainsFunc x))) (instDecidableTrue)
def ref01_Dot (x : Num) (y : Num) (z : Num) (u : Num) : Num :=
  let r0 : (Int × Bool) := ref01_whole x
  let r1 : (Int × Bool) := ref01_whole y
  let r2 : (Int × Bool) := ref01_whole z
  let r3 : (Int × Bool) := ref01_whole u
  let r4 : Wide := ref01_times r0.1 r1.1
  let r5 : Wide := ref01_times r2.1 r3.1
  let r6 : Wide := ref01_plus r4 r5
  let r7 : Wide := ref01_down r6
  if r0.2 = true then
    let r8 : Num := ref01_fit r7 true
    r8
  else
    if r1.2 = true then
      let r8 : Num := ref01_fit r7 true
      r8
    else
      if r2.2 = true then
        let r8 : Num := ref01_fit r7 true
        r8
      else
        let r8 : Num := ref01_fit r7 r3.2
        r8
def P_ref01_Dot (x : Num) (y : Num) (z : Num) (u : Num) : Prop :=
  let r0 : (Int × Bool) := ref01_whole x
  let r1 : (Int × Bool) := ref01_whole y
  let r2 : (Int × Bool) := ref01_whole z
  let r3 : (Int × Bool) := ref01_whole u
  let r4 : Wide := ref01_times r0.1 r1.1
  let r5 : Wide := ref01_times r2.1 r3.1
  (P_ref01_plus r4 r5) ∧ True
instance (x : Num) (y : Num) (z : Num) (u : Num) : Decidable (P_ref01_Dot x y z u) :=
  let r0 : (Int × Bool) := ref01_whole x
  let r1 : (Int × Bool) := ref01_whole y
  let r2 : (Int × Bool) := ref01_whole z
  let r3 : (Int × Bool) := ref01_whole u
  let r4 : Wide := ref01_times r0.1 r1.1
  let r5 : Wide := ref01_times r2.1 r3.1
  @instDecidableAnd _ _ (inferInstanceAs (Decidable (P_ref01_plus r4 r5))) (instDecidableTrue)
def ref01_Hypot (x : Num) (y : Num) : Num :=
  let r0 : (Int × Bool) := ref01_whole x
  let r1 : (Int × Bool) := ref01_whole y
  let r2 : Wide := ref01_times r0.1 r0.1
  let r3 : Wide := ref01_times r1.1 r1.1
  let r4 : Wide := ref01_plus r2 r3
  let r5 : Wide := ref01_root r4
  if r0.2 = true then
    let r6 : Num := ref01_fit r5 true
    r6
  else
    let r6 : Num := ref01_fit r5 r1.2
    r6
def P_ref01_Hypot (x : Num) (y : Num) : Prop :=
  let r0 : (Int × Bool) := ref01_whole x
  let r1 : (Int × Bool) := ref01_whole y
  let r2 : Wide := ref01_times r0.1 r0.1
  let r3 : Wide := ref01_times r1.1 r1.1
  let r4 : Wide := ref01_plus r2 r3
  (P_ref01_plus r2 r3) ∧ ((P_ref01_root r4) ∧ True)
instance (x : Num) (y : Num) : Decidable (P_ref01_Hypot x y) :=
  let r0 : (Int × Bool) := ref01_whole x
  let r1 : (Int × Bool) := ref01_whole y
  let r2 : Wide := ref01_times r0.1 r0.1
  let r3 : Wide := ref01_times r1.1 r1.1
  let r4 : Wide := ref01_plus r2 r3
  @instDecidableAnd _ _ (inferInstanceAs (Decidable (P_ref01_plus r2 r3))) (@instDecidableAnd _ _ (inferInstanceAs (Decidable (P_ref01_root r4))) (instDecidableTrue))
def fixed_words_root_L0_step (x : Words) (s : Int) : Option ((Int) ⊕ (Int)) :=
  if x.w1 ≥ s then
    some (.inr s)
  else
    let qr0 : (Int × Int) := bits_Div64 x.w1 x.w0 s
    if P_bits_Div64 x.w1 x.w0 s then
    if qr0.1 ≥ s then
      some (.inr s)
    else
      let qr1 : (Int × Int) := bits_Add64 s qr0.1 0
      some (.inl (Go.bits .or .u64 ((qr1.1).fdiv 2) (IntKind.u64.wrap (qr1.2 * 9223372036854775808))))
    else none
def fixed_words_root (x : Words) : Int :=
  if x.w1 = 0 then
    if x.w0 = 0 then
      0
    else
      let r0 : Int := bits_Len64 x.w0
      if IntKind.i64.wrap ((IntKind.i64.wrap (r0 + 1)).tdiv 2) < 64 then
        let r1 : Int := (iterO (fixed_words_root_L0_step x) NN (IntKind.u64.wrap (1 * 2 ^ (min (IntKind.i64.wrap ((IntKind.i64.wrap (r0 + 1)).tdiv 2)).toNat 64)))).getD default
        r1
      else
        let r1 : Int := (iterO (fixed_words_root_L0_step x) NN 18446744073709551615).getD default
        r1
  else
    let r1 : Int := bits_Len64 x.w1
    if IntKind.i64.wrap ((IntKind.i64.wrap (IntKind.i64.wrap (64 + r1) + 1)).tdiv 2) < 64 then
      let r2 : Int := (iterO (fixed_words_root_L0_step x) NN (IntKind.u64.wrap (1 * 2 ^ (min (IntKind.i64.wrap ((IntKind.i64.wrap (IntKind.i64.wrap (64 + r1) + 1)).tdiv 2)).toNat 64)))).getD default
      r2
    else
      let r2 : Int := (iterO (fixed_words_root_L0_step x) NN 18446744073709551615).getD default
      r2
def P_fixed_words_root (x : Words) : Prop :=
  if x.w1 = 0 then
    if x.w0 = 0 then
      True
    else
      let r0 : Int := bits_Len64 x.w0
      if IntKind.i64.wrap ((IntKind.i64.wrap (r0 + 1)).tdiv 2) < 64 then
        ((0 : Int) ≤ IntKind.i64.wrap ((IntKind.i64.wrap (r0 + 1)).tdiv 2)) ∧ (((iterO (fixed_words_root_L0_step x) NN (IntKind.u64.wrap (1 * 2 ^ (min (IntKind.i64.wrap ((IntKind.i64.wrap (r0 + 1)).tdiv 2)).toNat 64)))).isSome = true) ∧ True)
      else
        ((iterO (fixed_words_root_L0_step x) NN 18446744073709551615).isSome = true) ∧ True
  else
    let r1 : Int := bits_Len64 x.w1
    if IntKind.i64.wrap ((IntKind.i64.wrap (IntKind.i64.wrap (64 + r1) + 1)).tdiv 2) < 64 then
      ((0 : Int) ≤ IntKind.i64.wrap ((IntKind.i64.wrap (IntKind.i64.wrap (64 + r1) + 1)).tdiv 2)) ∧ (((iterO (fixed_words_root_L0_step x) NN (IntKind.u64.wrap (1 * 2 ^ (min (IntKind.i64.wrap ((IntKind.i64.wrap (IntKind.i64.wrap (64 + r1) + 1)).tdiv 2)).toNat 64)))).isSome = true) ∧ True)
    else
      ((iterO (fixed_words_root_L0_step x) NN 18446744073709551615).isSome = true) ∧ True
instance (x : Words) : Decidable (P_fixed_words_root x) :=
  iteDec (c := x.w1 = 0) (iteDec (c := x.w0 = 0) (instDecidableTrue) (let r0 : Int := bits_Len64 x.w0
      iteDec (c := IntKind.i64.wrap ((IntKind.i64.wrap (r0 + 1)).tdiv 2) < 64) (@instDecidableAnd _ _ (inferInstanceAs (Decidable ((0 : Int) ≤ IntKind.i64.wrap ((IntKind.i64.wrap (r0 + 1)).tdiv 2)))) (@instDecidableAnd _ _ (inferInstanceAs (Decidable ((iterO (fixed_words_root_L0_step x) NN (IntKind.u64.wrap (1 * 2 ^ (min (IntKind.i64.wrap ((IntKind.i64.wrap (r0 + 1)).tdiv 2)).toNat 64)))).isSome = true))) (instDecidableTrue))) (@instDecidableAnd _ _ (inferInstanceAs (Decidable ((iterO (fixed_words_root_L0_step x) NN 18446744073709551615).isSome = true))) (instDecidableTrue)))) (let r1 : Int := bits_Len64 x.w1
    iteDec (c := IntKind.i64.wrap ((IntKind.i64.wrap (IntKind.i64.wrap (64 + r1) + 1)).tdiv 2) < 64) (@instDecidableAnd _ _ (inferInstanceAs (Decidable ((0 : Int) ≤ IntKind.i64.wrap ((IntKind.i64.wrap (IntKind.i64.wrap (64 + r1) + 1)).tdiv 2)))) (@instDecidableAnd _ _ (inferInstanceAs (Decidable ((iterO (fixed_words_root_L0_step x) NN (IntKind.u64.wrap (1 * 2 ^ (min (IntKind.i64.wrap ((IntKind.i64.wrap (IntKind.i64.wrap (64 + r1) + 1)).tdiv 2)).toNat 64)))).isSome = true))) (instDecidableTrue))) (@instDecidableAnd _ _ (inferInstanceAs (Decidable ((iterO (fixed_words_root_L0_step x) NN 18446744073709551615).isSome = true))) (instDecidableTrue)))
def ref01_Mul (x : Num) (y : Num) : Num :=
  let r0 : (Int × Bool) := ref01_whole x
  let r1 : (Int × Bool) := ref01_whole y
  let r2 : Wide := ref01_times r0.1 r1.1
  let r3 : Wide := ref01_down r2
  if r0.2 = true then
    let r4 : Num := ref01_fit r3 true
    r4
  else
    let r4 : Num := ref01_fit r3 r1.2
    r4
def ref01_Int (x : Int) : Num :=
  let r0 : Wide := ref01_exact x
  let r1 : Wide := ref01_up r0
  let r2 : Num := ref01_fit r1 false
  r2
def ref01_Clamp (x : Num) (y : Num) (z : Num) : Num :=
  let r0 : Num := ref01_Min ([x, z] : List Num)
  let r1 : Num := ref01_Max ([y, r0] : List Num)
  r1
def P_ref01_Clamp (x : Num) (y : Num) (z : Num) : Prop :=
  let r0 : Num := ref01_Min ([x, z] : List Num)
  (P_ref01_Min ([x, z] : List Num)) ∧ ((P_ref01_Max ([y, r0] : List Num)) ∧ True)
instance (x : Num) (y : Num) (z : Num) : Decidable (P_ref01_Clamp x y z) :=
  let r0 : Num := ref01_Min ([x, z] : List Num)
  @instDecidableAnd _ _ (inferInstanceAs (Decidable (P_ref01_Min ([x, z] : List Num)))) (@instDecidableAnd _ _ (inferInstanceAs (Decidable (P_ref01_Max ([y, r0] : List Num)))) (instDecidableTrue))
def ref01_Sum_L0_step (x : (List Num)) (s : Bool × Int × Int × Int) : Option ((Bool × Int × Int × Int) ⊕ (Bool × Int × Int)) :=
  if s.2.2.2 < ((x.length : Nat) : Int) then
    if ((0 : Int) ≤ s.2.2.2 ∧ s.2.2.2 < ((x.length : Nat) : Int)) then
    let qr0 : (Int × Bool) := ref01_whole (nth x s.2.2.2)
    let qr1 : Wide := ref01_exact qr0.1
    let qr2 : Wide := ref01_plus (⟨s.1, s.2.1, s.2.2.1⟩ : Wide) qr1
    if P_ref01_plus (⟨s.1, s.2.1, s.2.2.1⟩ : Wide) qr1 then
    some (.inl (qr2.neg, qr2.hi, qr2.lo, (IntKind.i64.wrap (s.2.2.2 + 1))))
    else none
    else none
  else
    some (.inr (s.1, s.2.1, s.2.2.1))
def ref01_Sum (x : (List Num)) : Num :=
  let r0 : Bool × Int × Int := (iterO (ref01_Sum_L0_step x) NN (false, 0, 0, 0)).getD default
  let r1 : Bool := ref01_flagged x
  let r2 : Num := ref01_fit (⟨r0.1, r0.2.1, r0.2.2⟩ : Wide) r1
  r2
def P_ref01_Sum (x : (List Num)) : Prop :=
  ((iterO (ref01_Sum_L0_step x) NN (false, 0, 0, 0)).isSome = true) ∧ ((P_ref01_flagged x) ∧ True)
instance (x : (List Num)) : Decidable (P_ref01_Sum x) :=
  @instDecidableAnd _ _ (inferInstanceAs (Decidable ((iterO (ref01_Sum_L0_step x) NN (false, 0, 0, 0)).isSome = true))) (@instDecidableAnd _ _ (inferInstanceAs (Decidable (P_ref01_flagged x))) (instDecidableTrue))
def ref01_Ratio (x : Int) (y : Int) : Num :=
  if y = 0 then
    let r0 : Num := ref01_none x
    ⟨r0.V, r0.F⟩
  else
    let r0 : Wide := ref01_exact x
    let r1 : Wide := ref01_up r0
    let r2 : Int := ref01_size y
    let r3 : Wide := ref01_over r1 r2
    let r4 : Num := ref01_fit (⟨(!(decide (x < 0) == decide (y < 0))), r3.hi, r3.lo⟩ : Wide) false
    r4
def P_ref01_Ratio (x : Int) (y : Int) : Prop :=
  if y = 0 then
    True
  else
    let r0 : Wide := ref01_exact x
    let r1 : Wide := ref01_up r0
    let r2 : Int := ref01_size y
    (P_ref01_over r1 r2) ∧ True
instance (x : Int) (y : Int) : Decidable (P_ref01_Ratio x y) :=
  iteDec (c := y = 0) (instDecidableTrue) (let r0 : Wide := ref01_exact x
    let r1 : Wide := ref01_up r0
    let r2 : Int := ref01_size y
    @instDecidableAnd _ _ (inferInstanceAs (Decidable (P_ref01_over r1 r2))) (instDecidableTrue))
def fixed_words_compare (x : Words) (y : Words) : Int :=
  let r0 : Int := cmp_Compare_uint64 x.w1 y.w1
  let r1 : Int := cmp_Compare_uint64 x.w0 y.w0
  let r2 : Int := cmp_Or_int ([r0, r1] : List Int)
  r2
def P_fixed_words_compare (x : Words) (y : Words) : Prop :=
  let r0 : Int := cmp_Compare_uint64 x.w1 y.w1
  let r1 : Int := cmp_Compare_uint64 x.w0 y.w0
  (P_cmp_Or_int ([r0, r1] : List Int)) ∧ True
instance (x : Words) (y : Words) : Decidable (P_fixed_words_compare x y) :=
  let r0 : Int := cmp_Compare_uint64 x.w1 y.w1
  let r1 : Int := cmp_Compare_uint64 x.w0 y.w0
  @instDecidableAnd _ _ (inferInstanceAs (Decidable (P_cmp_Or_int ([r0, r1] : List Int)))) (instDecidableTrue)
def fixed_most (x : Int) (y : (List Num)) : Num :=
  if ((y.length : Nat) : Int) = 0 then
    ⟨0, false⟩
  else
    let r0 : ((List Int) × Bool) := fixed_values y
    let r1 : Int := fixed_extreme_int64 x (nth r0.1 0) r0.1 ((if y.length = 1 then 0 else 0 + 1)) ((r0.1.length - 1))
    ⟨r1, r0.2⟩
def P_fixed_most (x : Int) (y : (List Num)) : Prop :=
  if ((y.length : Nat) : Int) = 0 then
    True
  else
    let r0 : ((List Int) × Bool) := fixed_values y
    (P_fixed_values y) ∧ ((((0 : Int) ≤ 0 ∧ 0 < ((r0.1.length : Nat) : Int))) ∧ ((((0 : Int) ≤ 1 ∧ (1 : Int) ≤ ((r0.1.length : Nat) : Int))) ∧ ((P_fixed_extreme_int64 x (nth r0.1 0) r0.1 ((if y.length = 1 then 0 else 0 + 1)) ((r0.1.length - 1))) ∧ True)))
instance (x : Int) (y : (List Num)) : Decidable (P_fixed_most x y) :=
  iteDec (c := ((y.length : Nat) : Int) = 0) (instDecidableTrue) (let r0 : ((List Int) × Bool) := fixed_values y
    @instDecidableAnd _ _ (inferInstanceAs (Decidable (P_fixed_values y))) (@instDecidableAnd _ _ (inferInstanceAs (Decidable (((0 : Int) ≤ 0 ∧ 0 < ((r0.1.length : Nat) : Int))))) (@instDecidableAnd _ _ (inferInstanceAs (Decidable (((0 : Int) ≤ 1 ∧ (1 : Int) ≤ ((r0.1.length : Nat) : Int))))) (@instDecidableAnd _ _ (inferInstanceAs (Decidable (P_fixed_extreme_int64 x (nth r0.1 0) r0.1 ((if y.length = 1 then 0 else 0 + 1)) ((r0.1.length - 1))))) (instDecidableTrue)))))
def fixed_Ratio (x : Int) (y : Int) : Num :=
  if y = 0 then
    let r0 : Int := cmp_Compare_int64 x 0
    ⟨IntKind.i64.wrap (r0 * 9223372036854775807), true⟩
  else
    let r0 : Exact := fixed_of x
    let r1 : Exact := fixed_exact_up r0
    let r2 : Exact := fixed_of y
    let r3 : (Int × Int) := bits_Div64 ((r1.w.w1).tmod r2.w.w0) r1.w.w0 r2.w.w0
    let r4 : Num := fixed_exact_fit (⟨(!(r1.neg == r2.neg)), ⟨r3.1, IntKind.u64.wrap ((r1.w.w1).tdiv r2.w.w0)⟩⟩ : Exact) false
    r4
def P_fixed_Ratio (x : Int) (y : Int) : Prop :=
  if y = 0 then
    True
  else
    let r0 : Exact := fixed_of x
    let r1 : Exact := fixed_exact_up r0
    let r2 : Exact := fixed_of y
    (r2.w.w0 ≠ (0 : Int)) ∧ ((P_bits_Div64 ((r1.w.w1).tmod r2.w.w0) r1.w.w0 r2.w.w0) ∧ True)
instance (x : Int) (y : Int) : Decidable (P_fixed_Ratio x y) :=
  iteDec (c := y = 0) (instDecidableTrue) (let r0 : Exact := fixed_of x
    let r1 : Exact := fixed_exact_up r0
    let r2 : Exact := fixed_of y
    @instDecidableAnd _ _ (inferInstanceAs (Decidable (r2.w.w0 ≠ (0 : Int)))) (@instDecidableAnd _ _ (inferInstanceAs (Decidable (P_bits_Div64 ((r1.w.w1).tmod r2.w.w0) r1.w.w0 r2.w.w0))) (instDecidableTrue)))
def ref02_Apply (x : Rot) (y : Vec) : Vec :=
  let r0 : Num := ref01_Neg x.S
  let r1 : Num := ref01_Dot x.C y.X r0 y.Y
  let r2 : Num := ref01_Dot x.S y.X x.C y.Y
  ⟨r1, r2⟩
def P_ref02_Apply (x : Rot) (y : Vec) : Prop :=
  let r0 : Num := ref01_Neg x.S
  (P_ref01_Dot x.C y.X r0 y.Y) ∧ ((P_ref01_Dot x.S y.X x.C y.Y) ∧ True)
instance (x : Rot) (y : Vec) : Decidable (P_ref02_Apply x y) :=
  let r0 : Num := ref01_Neg x.S
  @instDecidableAnd _ _ (inferInstanceAs (Decidable (P_ref01_Dot x.C y.X r0 y.Y))) (@instDecidableAnd _ _ (inferInstanceAs (Decidable (P_ref01_Dot x.S y.X x.C y.Y))) (instDecidableTrue))
def ref02_Back (x : Rot) (y : Vec) : Vec :=
  let r0 : Num := ref01_Dot x.C y.X x.S y.Y
  let r1 : Num := ref01_Neg x.S
  let r2 : Num := ref01_Dot r1 y.X x.C y.Y
  ⟨r0, r2⟩
def P_ref02_Back (x : Rot) (y : Vec) : Prop :=
  (P_ref01_Dot x.C y.X x.S y.Y) ∧ (let r1 : Num := ref01_Neg x.S
  (P_ref01_Dot r1 y.X x.C y.Y) ∧ True)
instance (x : Rot) (y : Vec) : Decidable (P_ref02_Back x y) :=
  @instDecidableAnd _ _ (inferInstanceAs (Decidable (P_ref01_Dot x.C y.X x.S y.Y))) (let r1 : Num := ref01_Neg x.S
  @instDecidableAnd _ _ (inferInstanceAs (Decidable (P_ref01_Dot r1 y.X x.C y.Y))) (instDecidableTrue))
def ref02_flagged (x : Num) : Bool :=
  let r0 : Num := ref01_Sum ([x] : List Num)
  r0.F
def P_ref02_flagged (x : Num) : Prop :=
  (P_ref01_Sum ([x] : List Num)) ∧ True
instance (x : Num) : Decidable (P_ref02_flagged x) :=
  @instDecidableAnd _ _ (inferInstanceAs (Decidable (P_ref01_Sum ([x] : List Num)))) (instDecidableTrue)
def fixed_Div (x : Num) (y : Num) : Num :=
  let r0 : Num := fixed_sound x
  let r1 : Num := fixed_sound y
  let r2 : Num := fixed_Ratio r0.V r1.V
  if r2.F = true then
    ⟨r2.V, true⟩
  else
    let r3 : Bool := fixed_flags ([r0, r1] : List Num)
    ⟨r2.V, r3⟩
def P_fixed_Div (x : Num) (y : Num) : Prop :=
  let r0 : Num := fixed_sound x
  let r1 : Num := fixed_sound y
  let r2 : Num := fixed_Ratio r0.V r1.V
  (P_fixed_Ratio r0.V r1.V) ∧ (if r2.F = true then
    True
  else
    (P_fixed_flags ([r0, r1] : List Num)) ∧ True)
instance (x : Num) (y : Num) : Decidable (P_fixed_Div x y) :=
  let r0 : Num := fixed_sound x
  let r1 : Num := fixed_sound y
  let r2 : Num := fixed_Ratio r0.V r1.V
  @instDecidableAnd _ _ (inferInstanceAs (Decidable (P_fixed_Ratio r0.V r1.V))) (iteDec (c := r2.F = true) (instDecidableTrue) (@instDecidableAnd _ _ (inferInstanceAs (Decidable (P_fixed_flags ([r0, r1] : List Num)))) (instDecidableTrue)))
def ref01_Div (x : Num) (y : Num) : Num :=
  let r0 : (Int × Bool) := ref01_whole x
  let r1 : (Int × Bool) := ref01_whole y
  if r1.1 = 0 then
    let r2 : Num := ref01_none r0.1
    r2
  else
    let r2 : Num := ref01_Ratio r0.1 r1.1
    if r2.F = true then
      ⟨r2.V, true⟩
    else
      if r0.2 = true then
        ⟨r2.V, true⟩
      else
        ⟨r2.V, r1.2⟩
def P_ref01_Div (x : Num) (y : Num) : Prop :=
  let r0 : (Int × Bool) := ref01_whole x
  let r1 : (Int × Bool) := ref01_whole y
  if r1.1 = 0 then
    True
  else
    (P_ref01_Ratio r0.1 r1.1) ∧ True
instance (x : Num) (y : Num) : Decidable (P_ref01_Div x y) :=
  let r0 : (Int × Bool) := ref01_whole x
  let r1 : (Int × Bool) := ref01_whole y
  iteDec (c := r1.1 = 0) (instDecidableTrue) (@instDecidableAnd _ _ (inferInstanceAs (Decidable (P_ref01_Ratio r0.1 r1.1))) (instDecidableTrue))
def fixed_exact_plus (x : Exact) (y : Exact) : Exact :=
  if x.neg = y.neg then
    let r0 : (Int × Int) := bits_Add64 x.w.w0 y.w.w0 0
    let r1 : (Int × Int) := bits_Add64 x.w.w1 y.w.w1 r0.2
    ⟨x.neg, ⟨r0.1, r1.1⟩⟩
  else
    let r0 : Int := fixed_words_compare x.w y.w
    if r0 < 0 then
      let r1 : (Int × Int) := bits_Sub64 y.w.w0 x.w.w0 0
      let r2 : (Int × Int) := bits_Sub64 y.w.w1 x.w.w1 r1.2
      ⟨y.neg, ⟨r1.1, r2.1⟩⟩
    else
      let r1 : (Int × Int) := bits_Sub64 x.w.w0 y.w.w0 0
      let r2 : (Int × Int) := bits_Sub64 x.w.w1 y.w.w1 r1.2
      ⟨x.neg, ⟨r1.1, r2.1⟩⟩
def P_fixed_exact_plus (x : Exact) (y : Exact) : Prop :=
  if x.neg = y.neg then
    let r0 : (Int × Int) := bits_Add64 x.w.w0 y.w.w0 0
    (P_carry x.w.w1 y.w.w1 r0.2) ∧ True
  else
    (P_fixed_words_compare x.w y.w) ∧ True
instance (x : Exact) (y : Exact) : Decidable (P_fixed_exact_plus x y) :=
  iteDec (c := x.neg = y.neg) (let r0 : (Int × Int) := bits_Add64 x.w.w0 y.w.w0 0
    @instDecidableAnd _ _ (inferInstanceAs (Decidable (P_carry x.w.w1 y.w.w1 r0.2))) (instDecidableTrue)) (@instDecidableAnd _ _ (inferInstanceAs (Decidable (P_fixed_words_compare x.w y.w))) (instDecidableTrue))
def ref01_Add (x : Num) (y : Num) : Num :=
  let r0 : Num := ref01_Sum ([x, y] : List Num)
  r0
def P_ref01_Add (x : Num) (y : Num) : Prop :=
  (P_ref01_Sum ([x, y] : List Num)) ∧ True
instance (x : Num) (y : Num) : Decidable (P_ref01_Add x y) :=
  @instDecidableAnd _ _ (inferInstanceAs (Decidable (P_ref01_Sum ([x, y] : List Num)))) (instDecidableTrue)
def fixed_Max (x : (List Num)) : Num :=
  let r0 : Num := fixed_most (-1) x
  r0
def P_fixed_Max (x : (List Num)) : Prop :=
  (P_fixed_most (-1) x) ∧ True
instance (x : (List Num)) : Decidable (P_fixed_Max x) :=
  @instDecidableAnd _ _ (inferInstanceAs (Decidable (P_fixed_most (-1) x))) (instDecidableTrue)
def fixed_Min (x : (List Num)) : Num :=
  let r0 : Num := fixed_most 1 x
  r0
def P_fixed_Min (x : (List Num)) : Prop :=
  (P_fixed_most 1 x) ∧ True
instance (x : (List Num)) : Decidable (P_fixed_Min x) :=
  @instDecidableAnd _ _ (inferInstanceAs (Decidable (P_fixed_most 1 x))) (instDecidableTrue)
def ref02_CheckRot (x : Rot) : Int :=
  let r0 : Num := ref01_Dot x.C x.C x.S x.S
  let r1 : Bool := ref02_flagged x.C
  if r1 = true then
    3
  else
    let r2 : Bool := ref02_flagged x.S
    if r2 = true then
      3
    else
      if IntKind.i64.wrap (r0.V - 4294967296) > 65536 then
        3
      else
        if IntKind.i64.wrap (4294967296 - r0.V) > 65536 then
          3
        else
          0
def P_ref02_CheckRot (x : Rot) : Prop :=
  (P_ref01_Dot x.C x.C x.S x.S) ∧ (let r1 : Bool := ref02_flagged x.C
  (P_ref02_flagged x.C) ∧ (if r1 = true then
    True
  else
    (P_ref02_flagged x.S) ∧ True))
instance (x : Rot) : Decidable (P_ref02_CheckRot x) :=
  @instDecidableAnd _ _ (inferInstanceAs (Decidable (P_ref01_Dot x.C x.C x.S x.S))) (let r1 : Bool := ref02_flagged x.C
  @instDecidableAnd _ _ (inferInstanceAs (Decidable (P_ref02_flagged x.C))) (iteDec (c := r1 = true) (instDecidableTrue) (@instDecidableAnd _ _ (inferInstanceAs (Decidable (P_ref02_flagged x.S))) (instDecidableTrue))))
def ref02_Compose (x : Rot) (y : Rot) : Rot :=
  let r0 : Num := ref01_Neg x.S
  let r1 : Num := ref01_Dot x.C y.C r0 y.S
  let r2 : Num := ref01_Dot x.S y.C x.C y.S
  let r3 : Num := ref01_Hypot r1 r2
  if r3.V = 0 then
    ⟨r1, r2⟩
  else
    let r4 : Num := ref01_Div r1 r3
    let r5 : Num := ref01_Div r2 r3
    ⟨r4, r5⟩
def P_ref02_Compose (x : Rot) (y : Rot) : Prop :=
  let r0 : Num := ref01_Neg x.S
  let r1 : Num := ref01_Dot x.C y.C r0 y.S
  (P_ref01_Dot x.C y.C r0 y.S) ∧ (let r2 : Num := ref01_Dot x.S y.C x.C y.S
  (P_ref01_Dot x.S y.C x.C y.S) ∧ (let r3 : Num := ref01_Hypot r1 r2
  (P_ref01_Hypot r1 r2) ∧ (if r3.V = 0 then
    True
  else
    (P_ref01_Div r1 r3) ∧ ((P_ref01_Div r2 r3) ∧ True))))
instance (x : Rot) (y : Rot) : Decidable (P_ref02_Compose x y) :=
  let r0 : Num := ref01_Neg x.S
  let r1 : Num := ref01_Dot x.C y.C r0 y.S
  @instDecidableAnd _ _ (inferInstanceAs (Decidable (P_ref01_Dot x.C y.C r0 y.S))) (let r2 : Num := ref01_Dot x.S y.C x.C y.S
  @instDecidableAnd _ _ (inferInstanceAs (Decidable (P_ref01_Dot x.S y.C x.C y.S))) (let r3 : Num := ref01_Hypot r1 r2
  @instDecidableAnd _ _ (inferInstanceAs (Decidable (P_ref01_Hypot r1 r2))) (iteDec (c := r3.V = 0) (instDecidableTrue) (@instDecidableAnd _ _ (inferInstanceAs (Decidable (P_ref01_Div r1 r3))) (@instDecidableAnd _ _ (inferInstanceAs (Decidable (P_ref01_Div r2 r3))) (instDecidableTrue))))))
def fixed_Sum_L0_step (r0 : ((List Int) × Bool)) (s : Bool × Int × Int × Int) : Option ((Bool × Int × Int × Int) ⊕ (Bool × Int × Int)) :=
  if s.2.2.2 < ((r0.1.length : Nat) : Int) then
    if ((0 : Int) ≤ s.2.2.2 ∧ s.2.2.2 < ((r0.1.length : Nat) : Int)) then
    let qr0 : Exact := fixed_of (nth r0.1 s.2.2.2)
    let qr1 : Exact := fixed_exact_plus (⟨s.1, ⟨s.2.1, s.2.2.1⟩⟩ : Exact) qr0
    if P_fixed_exact_plus (⟨s.1, ⟨s.2.1, s.2.2.1⟩⟩ : Exact) qr0 then
    some (.inl (qr1.neg, qr1.w.w0, qr1.w.w1, (IntKind.i64.wrap (s.2.2.2 + 1))))
    else none
    else none
  else
    some (.inr (s.1, s.2.1, s.2.2.1))
def fixed_Sum (x : (List Num)) : Num :=
  let r0 : ((List Int) × Bool) := fixed_values x
  let r1 : Bool × Int × Int := (iterO (fixed_Sum_L0_step r0) NN (false, 0, 0, 0)).getD default
  let r2 : Num := fixed_exact_fit (⟨r1.1, ⟨r1.2.1, r1.2.2⟩⟩ : Exact) r0.2
  r2
def P_fixed_Sum (x : (List Num)) : Prop :=
  let r0 : ((List Int) × Bool) := fixed_values x
  (P_fixed_values x) ∧ (((iterO (fixed_Sum_L0_step r0) NN (false, 0, 0, 0)).isSome = true) ∧ True)
instance (x : (List Num)) : Decidable (P_fixed_Sum x) :=
  let r0 : ((List Int) × Bool) := fixed_values x
  @instDecidableAnd _ _ (inferInstanceAs (Decidable (P_fixed_values x))) (@instDecidableAnd _ _ (inferInstanceAs (Decidable ((iterO (fixed_Sum_L0_step r0) NN (false, 0, 0, 0)).isSome = true))) (instDecidableTrue))
def fixed_Hypot (x : Num) (y : Num) : Num :=
  let r0 : Num := fixed_sound x
  let r1 : Num := fixed_sound y
  let r2 : Exact := fixed_product r0.V r0.V
  let r3 : Exact := fixed_product r1.V r1.V
  let r4 : Exact := fixed_exact_plus r2 r3
  let r5 : Int := fixed_words_root r4.w
  let r6 : Bool := fixed_flags ([r0, r1] : List Num)
  let r7 : Num := fixed_exact_fit (⟨false, ⟨r5, 0⟩⟩ : Exact) r6
  r7
def P_fixed_Hypot (x : Num) (y : Num) : Prop :=
  let r0 : Num := fixed_sound x
  let r1 : Num := fixed_sound y
  let r2 : Exact := fixed_product r0.V r0.V
  let r3 : Exact := fixed_product r1.V r1.V
  let r4 : Exact := fixed_exact_plus r2 r3
  (P_fixed_exact_plus r2 r3) ∧ ((P_fixed_words_root r4.w) ∧ ((P_fixed_flags ([r0, r1] : List Num)) ∧ True))
instance (x : Num) (y : Num) : Decidable (P_fixed_Hypot x y) :=
  let r0 : Num := fixed_sound x
  let r1 : Num := fixed_sound y
  let r2 : Exact := fixed_product r0.V r0.V
  let r3 : Exact := fixed_product r1.V r1.V
  let r4 : Exact := fixed_exact_plus r2 r3
  @instDecidableAnd _ _ (inferInstanceAs (Decidable (P_fixed_exact_plus r2 r3))) (@instDecidableAnd _ _ (inferInstanceAs (Decidable (P_fixed_words_root r4.w))) (@instDecidableAnd _ _ (inferInstanceAs (Decidable (P_fixed_flags ([r0, r1] : List Num)))) (instDecidableTrue)))
def ref01_Sin_L0_step (r0 : Num) (s : Int × Bool × Int × Bool × Int) : Option ((Int × Bool × Int × Bool × Int) ⊕ (Int × Bool)) :=
  if s.2.2.2.2 ≤ 8 then
    let qr0 : Num := ref01_Mul (⟨s.1, s.2.1⟩ : Num) (⟨IntKind.i64.wrap ((-13493037704) - IntKind.i64.wrap (13493037704 - r0.V)), r0.F⟩ : Num)
    let qr1 : Num := ref01_Mul qr0 (⟨IntKind.i64.wrap ((-13493037704) - IntKind.i64.wrap (13493037704 - r0.V)), r0.F⟩ : Num)
    let qr2 : Num := ref01_Int (IntKind.i64.wrap (IntKind.i64.wrap (2 * s.2.2.2.2) * IntKind.i64.wrap (IntKind.i64.wrap (2 * s.2.2.2.2) + 1)))
    let qr3 : Num := ref01_Div qr1 qr2
    if P_ref01_Div qr1 qr2 then
    let qr4 : Num := ref01_Neg qr3
    let qr5 : Num := ref01_Add (⟨s.2.2.1, s.2.2.2.1⟩ : Num) qr4
    if P_ref01_Add (⟨s.2.2.1, s.2.2.2.1⟩ : Num) qr4 then
    some (.inl (qr4.V, qr4.F, qr5.V, qr5.F, (IntKind.i64.wrap (s.2.2.2.2 + 1))))
    else none
    else none
  else
    some (.inr (s.2.2.1, s.2.2.2.1))
def ref01_Sin_L0_2_step (r0 : Num) (s : Int × Bool × Int × Bool × Int) : Option ((Int × Bool × Int × Bool × Int) ⊕ (Int × Bool)) :=
  if s.2.2.2.2 ≤ 8 then
    let qr0 : Num := ref01_Mul (⟨s.1, s.2.1⟩ : Num) (⟨IntKind.i64.wrap ((-13493037704) - r0.V), r0.F⟩ : Num)
    let qr1 : Num := ref01_Mul qr0 (⟨IntKind.i64.wrap ((-13493037704) - r0.V), r0.F⟩ : Num)
    let qr2 : Num := ref01_Int (IntKind.i64.wrap (IntKind.i64.wrap (2 * s.2.2.2.2) * IntKind.i64.wrap (IntKind.i64.wrap (2 * s.2.2.2.2) + 1)))
    let qr3 : Num := ref01_Div qr1 qr2
    if P_ref01_Div qr1 qr2 then
    let qr4 : Num := ref01_Neg qr3
    let qr5 : Num := ref01_Add (⟨s.2.2.1, s.2.2.2.1⟩ : Num) qr4
    if P_ref01_Add (⟨s.2.2.1, s.2.2.2.1⟩ : Num) qr4 then
    some (.inl (qr4.V, qr4.F, qr5.V, qr5.F, (IntKind.i64.wrap (s.2.2.2.2 + 1))))
    else none
    else none
  else
    some (.inr (s.2.2.1, s.2.2.2.1))
def ref01_Sin_L0_3_step (r0 : Num) (s : Int × Bool × Int × Bool × Int) : Option ((Int × Bool × Int × Bool × Int) ⊕ (Int × Bool)) :=
  if s.2.2.2.2 ≤ 8 then
    let qr0 : Num := ref01_Mul (⟨s.1, s.2.1⟩ : Num) r0
    let qr1 : Num := ref01_Mul qr0 r0
    let qr2 : Num := ref01_Int (IntKind.i64.wrap (IntKind.i64.wrap (2 * s.2.2.2.2) * IntKind.i64.wrap (IntKind.i64.wrap (2 * s.2.2.2.2) + 1)))
    let qr3 : Num := ref01_Div qr1 qr2
    if P_ref01_Div qr1 qr2 then
    let qr4 : Num := ref01_Neg qr3
    let qr5 : Num := ref01_Add (⟨s.2.2.1, s.2.2.2.1⟩ : Num) qr4
    if P_ref01_Add (⟨s.2.2.1, s.2.2.2.1⟩ : Num) qr4 then
    some (.inl (qr4.V, qr4.F, qr5.V, qr5.F, (IntKind.i64.wrap (s.2.2.2.2 + 1))))
    else none
    else none
  else
    some (.inr (s.2.2.1, s.2.2.2.1))
def ref01_Sin_L0_4_step (r0 : Num) (s : Int × Bool × Int × Bool × Int) : Option ((Int × Bool × Int × Bool × Int) ⊕ (Int × Bool)) :=
  if s.2.2.2.2 ≤ 8 then
    let qr0 : Num := ref01_Mul (⟨s.1, s.2.1⟩ : Num) (⟨IntKind.i64.wrap (13493037704 - r0.V), r0.F⟩ : Num)
    let qr1 : Num := ref01_Mul qr0 (⟨IntKind.i64.wrap (13493037704 - r0.V), r0.F⟩ : Num)
    let qr2 : Num := ref01_Int (IntKind.i64.wrap (IntKind.i64.wrap (2 * s.2.2.2.2) * IntKind.i64.wrap (IntKind.i64.wrap (2 * s.2.2.2.2) + 1)))
    let qr3 : Num := ref01_Div qr1 qr2
    if P_ref01_Div qr1 qr2 then
    let qr4 : Num := ref01_Neg qr3
    let qr5 : Num := ref01_Add (⟨s.2.2.1, s.2.2.2.1⟩ : Num) qr4
    if P_ref01_Add (⟨s.2.2.1, s.2.2.2.1⟩ : Num) qr4 then
    some (.inl (qr4.V, qr4.F, qr5.V, qr5.F, (IntKind.i64.wrap (s.2.2.2.2 + 1))))
    else none
    else none
  else
    some (.inr (s.2.2.1, s.2.2.2.1))
def ref01_Sin (x : Num) : Num :=
  let r0 : Num := ref01_Wrap x
  if r0.V > 6746518852 then
    if IntKind.i64.wrap (13493037704 - r0.V) < (-6746518852) then
      let r1 : Int × Bool := (iterO (ref01_Sin_L0_step r0) NN ((IntKind.i64.wrap ((-13493037704) - IntKind.i64.wrap (13493037704 - r0.V))), r0.F, (IntKind.i64.wrap ((-13493037704) - IntKind.i64.wrap (13493037704 - r0.V))), r0.F, 1)).getD default
      let r2 : Num := ref01_Clamp (⟨r1.1, r1.2⟩ : Num) (⟨(-4294967296), false⟩ : Num) (⟨4294967296, false⟩ : Num)
      r2
    else
      let r1 : Int × Bool := (iterO (ref01_Sin_L0_4_step r0) NN ((IntKind.i64.wrap (13493037704 - r0.V)), r0.F, (IntKind.i64.wrap (13493037704 - r0.V)), r0.F, 1)).getD default
      let r2 : Num := ref01_Clamp (⟨r1.1, r1.2⟩ : Num) (⟨(-4294967296), false⟩ : Num) (⟨4294967296, false⟩ : Num)
      r2
  else
    if r0.V < (-6746518852) then
      let r1 : Int × Bool := (iterO (ref01_Sin_L0_2_step r0) NN ((IntKind.i64.wrap ((-13493037704) - r0.V)), r0.F, (IntKind.i64.wrap ((-13493037704) - r0.V)), r0.F, 1)).getD default
      let r2 : Num := ref01_Clamp (⟨r1.1, r1.2⟩ : Num) (⟨(-4294967296), false⟩ : Num) (⟨4294967296, false⟩ : Num)
      r2
    else
      let r1 : Int × Bool := (iterO (ref01_Sin_L0_3_step r0) NN (r0.V, r0.F, r0.V, r0.F, 1)).getD default
      let r2 : Num := ref01_Clamp (⟨r1.1, r1.2⟩ : Num) (⟨(-4294967296), false⟩ : Num) (⟨4294967296, false⟩ : Num)
      r2
def P_ref01_Sin (x : Num) : Prop :=
  let r0 : Num := ref01_Wrap x
  if r0.V > 6746518852 then
    if IntKind.i64.wrap (13493037704 - r0.V) < (-6746518852) then
      ((iterO (ref01_Sin_L0_step r0) NN ((IntKind.i64.wrap ((-13493037704) - IntKind.i64.wrap (13493037704 - r0.V))), r0.F, (IntKind.i64.wrap ((-13493037704) - IntKind.i64.wrap (13493037704 - r0.V))), r0.F, 1)).isSome = true) ∧ (let r1 : Int × Bool := (iterO (ref01_Sin_L0_step r0) NN ((IntKind.i64.wrap ((-13493037704) - IntKind.i64.wrap (13493037704 - r0.V))), r0.F, (IntKind.i64.wrap ((-13493037704) - IntKind.i64.wrap (13493037704 - r0.V))), r0.F, 1)).getD default
      (P_ref01_Clamp (⟨r1.1, r1.2⟩ : Num) (⟨(-4294967296), false⟩ : Num) (⟨4294967296, false⟩ : Num)) ∧ True)
    else
      ((iterO (ref01_Sin_L0_4_step r0) NN ((IntKind.i64.wrap (13493037704 - r0.V)), r0.F, (IntKind.i64.wrap (13493037704 - r0.V)), r0.F, 1)).isSome = true) ∧ (let r1 : Int × Bool := (iterO (ref01_Sin_L0_4_step r0) NN ((IntKind.i64.wrap (13493037704 - r0.V)), r0.F, (IntKind.i64.wrap (13493037704 - r0.V)), r0.F, 1)).getD default
      (P_ref01_Clamp (⟨r1.1, r1.2⟩ : Num) (⟨(-4294967296), false⟩ : Num) (⟨4294967296, false⟩ : Num)) ∧ True)
  else
    if r0.V < (-6746518852) then
      ((iterO (ref01_Sin_L0_2_step r0) NN ((IntKind.i64.wrap ((-13493037704) - r0.V)), r0.F, (IntKind.i64.wrap ((-13493037704) - r0.V)), r0.F, 1)).isSome = true) ∧ (let r1 : Int × Bool := (iterO (ref01_Sin_L0_2_step r0) NN ((IntKind.i64.wrap ((-13493037704) - r0.V)), r0.F, (IntKind.i64.wrap ((-13493037704) - r0.V)), r0.F, 1)).getD default
      (P_ref01_Clamp (⟨r1.1, r1.2⟩ : Num) (⟨(-4294967296), false⟩ : Num) (⟨4294967296, false⟩ : Num)) ∧ True)
    else
      ((iterO (ref01_Sin_L0_3_step r0) NN (r0.V, r0.F, r0.V, r0.F, 1)).isSome = true) ∧ (let r1 : Int × Bool := (iterO (ref01_Sin_L0_3_step r0) NN (r0.V, r0.F, r0.V, r0.F, 1)).getD default
      (P_ref01_Clamp (⟨r1.1, r1.2⟩ : Num) (⟨(-4294967296), false⟩ : Num) (⟨4294967296, false⟩ : Num)) ∧ True)
instance (x : Num) : Decidable (P_ref01_Sin x) :=
  let r0 : Num := ref01_Wrap x
  iteDec (c := r0.V > 6746518852) (iteDec (c := IntKind.i64.wrap (13493037704 - r0.V) < (-6746518852)) (@instDecidableAnd _ _ (inferInstanceAs (Decidable ((iterO (ref01_Sin_L0_step r0) NN ((IntKind.i64.wrap ((-13493037704) - IntKind.i64.wrap (13493037704 - r0.V))), r0.F, (IntKind.i64.wrap ((-13493037704) - IntKind.i64.wrap (13493037704 - r0.V))), r0.F, 1)).isSome = true))) (let r1 : Int × Bool := (iterO (ref01_Sin_L0_step r0) NN ((IntKind.i64.wrap ((-13493037704) - IntKind.i64.wrap (13493037704 - r0.V))), r0.F, (IntKind.i64.wrap ((-13493037704) - IntKind.i64.wrap (13493037704 - r0.V))), r0.F, 1)).getD default
      @instDecidableAnd _ _ (inferInstanceAs (Decidable (P_ref01_Clamp (⟨r1.1, r1.2⟩ : Num) (⟨(-4294967296), false⟩ : Num) (⟨4294967296, false⟩ : Num)))) (instDecidableTrue))) (@instDecidableAnd _ _ (inferInstanceAs (Decidable ((iterO (ref01_Sin_L0_4_step r0) NN ((IntKind.i64.wrap (13493037704 - r0.V)), r0.F, (IntKind.i64.wrap (13493037704 - r0.V)), r0.F, 1)).isSome = true))) (let r1 : Int × Bool := (iterO (ref01_Sin_L0_4_step r0) NN ((IntKind.i64.wrap (13493037704 - r0.V)), r0.F, (IntKind.i64.wrap (13493037704 - r0.V)), r0.F, 1)).getD default
      @instDecidableAnd _ _ (inferInstanceAs (Decidable (P_ref01_Clamp (⟨r1.1, r1.2⟩ : Num) (⟨(-4294967296), false⟩ : Num) (⟨4294967296, false⟩ : Num)))) (instDecidableTrue)))) (iteDec (c := r0.V < (-6746518852)) (@instDecidableAnd _ _ (inferInstanceAs (Decidable ((iterO (ref01_Sin_L0_2_step r0) NN ((IntKind.i64.wrap ((-13493037704) - r0.V)), r0.F, (IntKind.i64.wrap ((-13493037704) - r0.V)), r0.F, 1)).isSome = true))) (let r1 : Int × Bool := (iterO (ref01_Sin_L0_2_step r0) NN ((IntKind.i64.wrap ((-13493037704) - r0.V)), r0.F, (IntKind.i64.wrap ((-13493037704) - r0.V)), r0.F, 1)).getD default
      @instDecidableAnd _ _ (inferInstanceAs (Decidable (P_ref01_Clamp (⟨r1.1, r1.2⟩ : Num) (⟨(-4294967296), false⟩ : Num) (⟨4294967296, false⟩ : Num)))) (instDecidableTrue))) (@instDecidableAnd _ _ (inferInstanceAs (Decidable ((iterO (ref01_Sin_L0_3_step r0) NN (r0.V, r0.F, r0.V, r0.F, 1)).isSome = true))) (let r1 : Int × Bool := (iterO (ref01_Sin_L0_3_step r0) NN (r0.V, r0.F, r0.V, r0.F, 1)).getD default
      @instDecidableAnd _ _ (inferInstanceAs (Decidable (P_ref01_Clamp (⟨r1.1, r1.2⟩ : Num) (⟨(-4294967296), false⟩ : Num) (⟨4294967296, false⟩ : Num)))) (instDecidableTrue))))
def fixed_Dot (x : Num) (y : Num) (z : Num) (u : Num) : Num :=
  let r0 : Num := fixed_sound x
  let r1 : Num := fixed_sound y
  let r2 : Num := fixed_sound z
  let r3 : Num := fixed_sound u
  let r4 : Exact := fixed_product r0.V r1.V
  let r5 : Exact := fixed_product r2.V r3.V
  let r6 : Exact := fixed_exact_plus r4 r5
  let r7 : Exact := fixed_exact_down r6
  let r8 : Bool := fixed_flags ([r0, r1, r2, r3] : List Num)
  let r9 : Num := fixed_exact_fit r7 r8
  r9
def P_fixed_Dot (x : Num) (y : Num) (z : Num) (u : Num) : Prop :=
  let r0 : Num := fixed_sound x
  let r1 : Num := fixed_sound y
  let r2 : Num := fixed_sound z
  let r3 : Num := fixed_sound u
  let r4 : Exact := fixed_product r0.V r1.V
  let r5 : Exact := fixed_product r2.V r3.V
  (P_fixed_exact_plus r4 r5) ∧ ((P_fixed_flags ([r0, r1, r2, r3] : List Num)) ∧ True)
instance (x : Num) (y : Num) (z : Num) (u : Num) : Decidable (P_fixed_Dot x y z u) :=
  let r0 : Num := fixed_sound x
  let r1 : Num := fixed_sound y
  let r2 : Num := fixed_sound z
  let r3 : Num := fixed_sound u
  let r4 : Exact := fixed_product r0.V r1.V
  let r5 : Exact := fixed_product r2.V r3.V
  @instDecidableAnd _ _ (inferInstanceAs (Decidable (P_fixed_exact_plus r4 r5))) (@instDecidableAnd _ _ (inferInstanceAs (Decidable (P_fixed_flags ([r0, r1, r2, r3] : List Num)))) (instDecidableTrue))
def fixed_Clamp (x : Num) (y : Num) (z : Num) : Num :=
  let r0 : Num := fixed_Min ([x, z] : List Num)
  let r1 : Num := fixed_Max ([y, r0] : List Num)
  r1
def P_fixed_Clamp (x : Num) (y : Num) (z : Num) : Prop :=
  let r0 : Num := fixed_Min ([x, z] : List Num)
  (P_fixed_Min ([x, z] : List Num)) ∧ ((P_fixed_Max ([y, r0] : List Num)) ∧ True)
instance (x : Num) (y : Num) (z : Num) : Decidable (P_fixed_Clamp x y z) :=
  let r0 : Num := fixed_Min ([x, z] : List Num)
  @instDecidableAnd _ _ (inferInstanceAs (Decidable (P_fixed_Min ([x, z] : List Num)))) (@instDecidableAnd _ _ (inferInstanceAs (Decidable (P_fixed_Max ([y, r0] : List Num)))) (instDecidableTrue))
def fixed_Add (x : Num) (y : Num) : Num :=
  let r0 : Num := fixed_Sum ([x, y] : List Num)
  r0
def P_fixed_Add (x : Num) (y : Num) : Prop :=
  (P_fixed_Sum ([x, y] : List Num)) ∧ True
instance (x : Num) (y : Num) : Decidable (P_fixed_Add x y) :=
  @instDecidableAnd _ _ (inferInstanceAs (Decidable (P_fixed_Sum ([x, y] : List Num)))) (instDecidableTrue)
def plane_Len (x : Vec) : Num :=
  let r0 : Num := fixed_Hypot x.X x.Y
  r0
def P_plane_Len (x : Vec) : Prop :=
  (P_fixed_Hypot x.X x.Y) ∧ True
instance (x : Vec) : Decidable (P_plane_Len x) :=
  @instDecidableAnd _ _ (inferInstanceAs (Decidable (P_fixed_Hypot x.X x.Y))) (instDecidableTrue)
def plane_CheckRot (x : Rot) : Int :=
  let r0 : Bool := plane_Fault ([⟨x.C, x.S⟩] : List Vec)
  if r0 = true then
    3
  else
    let r1 : Num := fixed_Dot x.C x.C x.S x.S
    if IntKind.i64.wrap (r1.V - 4294967296) > 65536 then
      3
    else
      if IntKind.i64.wrap (r1.V - 4294967296) < (-65536) then
        3
      else
        0
def P_plane_CheckRot (x : Rot) : Prop :=
  let r0 : Bool := plane_Fault ([⟨x.C, x.S⟩] : List Vec)
  (P_plane_Fault ([⟨x.C, x.S⟩] : List Vec)) ∧ (if r0 = true then
    True
  else
    (P_fixed_Dot x.C x.C x.S x.S) ∧ True)
instance (x : Rot) : Decidable (P_plane_CheckRot x) :=
  let r0 : Bool := plane_Fault ([⟨x.C, x.S⟩] : List Vec)
  @instDecidableAnd _ _ (inferInstanceAs (Decidable (P_plane_Fault ([⟨x.C, x.S⟩] : List Vec)))) (iteDec (c := r0 = true) (instDecidableTrue) (@instDecidableAnd _ _ (inferInstanceAs (Decidable (P_fixed_Dot x.C x.C x.S x.S))) (instDecidableTrue)))
def plane_Apply (x : Rot) (y : Vec) : Vec :=
  let r0 : Num := fixed_Neg x.S
  let r1 : Num := fixed_Dot x.C y.X r0 y.Y
  let r2 : Num := fixed_Dot x.S y.X x.C y.Y
  ⟨r1, r2⟩
def P_plane_Apply (x : Rot) (y : Vec) : Prop :=
  let r0 : Num := fixed_Neg x.S
  (P_fixed_Dot x.C y.X r0 y.Y) ∧ ((P_fixed_Dot x.S y.X x.C y.Y) ∧ True)
instance (x : Rot) (y : Vec) : Decidable (P_plane_Apply x y) :=
  let r0 : Num := fixed_Neg x.S
  @instDecidableAnd _ _ (inferInstanceAs (Decidable (P_fixed_Dot x.C y.X r0 y.Y))) (@instDecidableAnd _ _ (inferInstanceAs (Decidable (P_fixed_Dot x.S y.X x.C y.Y))) (instDecidableTrue))
def plane_Back (x : Rot) (y : Vec) : Vec :=
  let r0 : Num := fixed_Dot x.C y.X x.S y.Y
  let r1 : Num := fixed_Neg x.S
  let r2 : Num := fixed_Dot r1 y.X x.C y.Y
  ⟨r0, r2⟩
def P_plane_Back (x : Rot) (y : Vec) : Prop :=
  (P_fixed_Dot x.C y.X x.S y.Y) ∧ (let r1 : Num := fixed_Neg x.S
  (P_fixed_Dot r1 y.X x.C y.Y) ∧ True)
instance (x : Rot) (y : Vec) : Decidable (P_plane_Back x y) :=
  @instDecidableAnd _ _ (inferInstanceAs (Decidable (P_fixed_Dot x.C y.X x.S y.Y))) (let r1 : Num := fixed_Neg x.S
  @instDecidableAnd _ _ (inferInstanceAs (Decidable (P_fixed_Dot r1 y.X x.C y.Y))) (instDecidableTrue))
def plane_Compose (x : Rot) (y : Rot) : Rot :=
  let r0 : Num := fixed_Neg x.S
  let r1 : Num := fixed_Dot x.C y.C r0 y.S
  let r2 : Num := fixed_Dot x.S y.C x.C y.S
  let r3 : Num := fixed_Hypot r1 r2
  if r3.V = 0 then
    ⟨r1, r2⟩
  else
    let r4 : Num := fixed_Div r1 r3
    let r5 : Num := fixed_Div r2 r3
    ⟨r4, r5⟩
def P_plane_Compose (x : Rot) (y : Rot) : Prop :=
  let r0 : Num := fixed_Neg x.S
  let r1 : Num := fixed_Dot x.C y.C r0 y.S
  (P_fixed_Dot x.C y.C r0 y.S) ∧ (let r2 : Num := fixed_Dot x.S y.C x.C y.S
  (P_fixed_Dot x.S y.C x.C y.S) ∧ (let r3 : Num := fixed_Hypot r1 r2
  (P_fixed_Hypot r1 r2) ∧ (if r3.V = 0 then
    True
  else
    (P_fixed_Div r1 r3) ∧ ((P_fixed_Div r2 r3) ∧ True))))
instance (x : Rot) (y : Rot) : Decidable (P_plane_Compose x y) :=
  let r0 : Num := fixed_Neg x.S
  let r1 : Num := fixed_Dot x.C y.C r0 y.S
  @instDecidableAnd _ _ (inferInstanceAs (Decidable (P_fixed_Dot x.C y.C r0 y.S))) (let r2 : Num := fixed_Dot x.S y.C x.C y.S
  @instDecidableAnd _ _ (inferInstanceAs (Decidable (P_fixed_Dot x.S y.C x.C y.S))) (let r3 : Num := fixed_Hypot r1 r2
  @instDecidableAnd _ _ (inferInstanceAs (Decidable (P_fixed_Hypot r1 r2))) (iteDec (c := r3.V = 0) (instDecidableTrue) (@instDecidableAnd _ _ (inferInstanceAs (Decidable (P_fixed_Div r1 r3))) (@instDecidableAnd _ _ (inferInstanceAs (Decidable (P_fixed_Div r2 r3))) (instDecidableTrue))))))
def fixed_Sin_L0_step (r0 : Num) (s : Int × Bool × Int × Bool × Int) : Option ((Int × Bool × Int × Bool × Int) ⊕ (Int × Bool)) :=
  if s.2.2.2.2 < 8 then
    let qr0 : Num := fixed_Mul (⟨s.1, s.2.1⟩ : Num) (⟨IntKind.i64.wrap (13493037704 - r0.V), r0.F⟩ : Num)
    if P_fixed_Mul (⟨s.1, s.2.1⟩ : Num) (⟨IntKind.i64.wrap (13493037704 - r0.V), r0.F⟩ : Num) then
    let qr1 : Num := fixed_Mul qr0 (⟨IntKind.i64.wrap (13493037704 - r0.V), r0.F⟩ : Num)
    if P_fixed_Mul qr0 (⟨IntKind.i64.wrap (13493037704 - r0.V), r0.F⟩ : Num) then
    let qr2 : Num := fixed_Int (IntKind.i64.wrap (IntKind.i64.wrap (2 * IntKind.i64.wrap (s.2.2.2.2 + 1)) * IntKind.i64.wrap (IntKind.i64.wrap (2 * IntKind.i64.wrap (s.2.2.2.2 + 1)) + 1)))
    let qr3 : Num := fixed_Div qr1 qr2
    if P_fixed_Div qr1 qr2 then
    let qr4 : Num := fixed_Neg qr3
    let qr5 : Num := fixed_Add (⟨s.2.2.1, s.2.2.2.1⟩ : Num) qr4
    if P_fixed_Add (⟨s.2.2.1, s.2.2.2.1⟩ : Num) qr4 then
    some (.inl (qr4.V, qr4.F, qr5.V, qr5.F, (IntKind.i64.wrap (s.2.2.2.2 + 1))))
    else none
    else none
    else none
    else none
  else
    some (.inr (s.2.2.1, s.2.2.2.1))
def fixed_Sin_L0_2_step (r0 : Num) (s : Int × Bool × Int × Bool × Int) : Option ((Int × Bool × Int × Bool × Int) ⊕ (Int × Bool)) :=
  if s.2.2.2.2 < 8 then
    let qr0 : Num := fixed_Mul (⟨s.1, s.2.1⟩ : Num) (⟨IntKind.i64.wrap ((-13493037704) - r0.V), r0.F⟩ : Num)
    if P_fixed_Mul (⟨s.1, s.2.1⟩ : Num) (⟨IntKind.i64.wrap ((-13493037704) - r0.V), r0.F⟩ : Num) then
    let qr1 : Num := fixed_Mul qr0 (⟨IntKind.i64.wrap ((-13493037704) - r0.V), r0.F⟩ : Num)
    if P_fixed_Mul qr0 (⟨IntKind.i64.wrap ((-13493037704) - r0.V), r0.F⟩ : Num) then
    let qr2 : Num := fixed_Int (IntKind.i64.wrap (IntKind.i64.wrap (2 * IntKind.i64.wrap (s.2.2.2.2 + 1)) * IntKind.i64.wrap (IntKind.i64.wrap (2 * IntKind.i64.wrap (s.2.2.2.2 + 1)) + 1)))
    let qr3 : Num := fixed_Div qr1 qr2
    if P_fixed_Div qr1 qr2 then
    let qr4 : Num := fixed_Neg qr3
    let qr5 : Num := fixed_Add (⟨s.2.2.1, s.2.2.2.1⟩ : Num) qr4
    if P_fixed_Add (⟨s.2.2.1, s.2.2.2.1⟩ : Num) qr4 then
    some (.inl (qr4.V, qr4.F, qr5.V, qr5.F, (IntKind.i64.wrap (s.2.2.2.2 + 1))))
    else none
    else none
    else none
    else none
  else
    some (.inr (s.2.2.1, s.2.2.2.1))
def fixed_Sin_L0_3_step (r0 : Num) (s : Int × Bool × Int × Bool × Int) : Option ((Int × Bool × Int × Bool × Int) ⊕ (Int × Bool)) :=
  if s.2.2.2.2 < 8 then
    let qr0 : Num := fixed_Mul (⟨s.1, s.2.1⟩ : Num) r0
    if P_fixed_Mul (⟨s.1, s.2.1⟩ : Num) r0 then
    let qr1 : Num := fixed_Mul qr0 r0
    if P_fixed_Mul qr0 r0 then
    let qr2 : Num := fixed_Int (IntKind.i64.wrap (IntKind.i64.wrap (2 * IntKind.i64.wrap (s.2.2.2.2 + 1)) * IntKind.i64.wrap (IntKind.i64.wrap (2 * IntKind.i64.wrap (s.2.2.2.2 + 1)) + 1)))
    let qr3 : Num := fixed_Div qr1 qr2
    if P_fixed_Div qr1 qr2 then
    let qr4 : Num := fixed_Neg qr3
    let qr5 : Num := fixed_Add (⟨s.2.2.1, s.2.2.2.1⟩ : Num) qr4
    if P_fixed_Add (⟨s.2.2.1, s.2.2.2.1⟩ : Num) qr4 then
    some (.inl (qr4.V, qr4.F, qr5.V, qr5.F, (IntKind.i64.wrap (s.2.2.2.2 + 1))))
    else none
    else none
    else none
    else none
  else
    some (.inr (s.2.2.1, s.2.2.2.1))
def fixed_Sin (x : Num) : Num :=
  let r0 : Num := fixed_Wrap x
  if r0.V > 6746518852 then
    let r1 : Int × Bool := (iterO (fixed_Sin_L0_step r0) NN ((IntKind.i64.wrap (13493037704 - r0.V)), r0.F, (IntKind.i64.wrap (13493037704 - r0.V)), r0.F, 0)).getD default
    let r2 : Num := fixed_Int (-1)
    let r3 : Num := fixed_Int 1
    let r4 : Num := fixed_Clamp (⟨r1.1, r1.2⟩ : Num) r2 r3
    r4
  else
    if r0.V < (-6746518852) then
      let r1 : Int × Bool := (iterO (fixed_Sin_L0_2_step r0) NN ((IntKind.i64.wrap ((-13493037704) - r0.V)), r0.F, (IntKind.i64.wrap ((-13493037704) - r0.V)), r0.F, 0)).getD default
      let r2 : Num := fixed_Int (-1)
      let r3 : Num := fixed_Int 1
      let r4 : Num := fixed_Clamp (⟨r1.1, r1.2⟩ : Num) r2 r3
      r4
    else
      let r1 : Int × Bool := (iterO (fixed_Sin_L0_3_step r0) NN (r0.V, r0.F, r0.V, r0.F, 0)).getD default
      let r2 : Num := fixed_Int (-1)
      let r3 : Num := fixed_Int 1
      let r4 : Num := fixed_Clamp (⟨r1.1, r1.2⟩ : Num) r2 r3
      r4
def P_fixed_Sin (x : Num) : Prop :=
  let r0 : Num := fixed_Wrap x
  if r0.V > 6746518852 then
    ((iterO (fixed_Sin_L0_step r0) NN ((IntKind.i64.wrap (13493037704 - r0.V)), r0.F, (IntKind.i64.wrap (13493037704 - r0.V)), r0.F, 0)).isSome = true) ∧ (let r1 : Int × Bool := (iterO (fixed_Sin_L0_step r0) NN ((IntKind.i64.wrap (13493037704 - r0.V)), r0.F, (IntKind.i64.wrap (13493037704 - r0.V)), r0.F, 0)).getD default
    let r2 : Num := fixed_Int (-1)
    let r3 : Num := fixed_Int 1
    (P_fixed_Clamp (⟨r1.1, r1.2⟩ : Num) r2 r3) ∧ True)
  else
    if r0.V < (-6746518852) then
      ((iterO (fixed_Sin_L0_2_step r0) NN ((IntKind.i64.wrap ((-13493037704) - r0.V)), r0.F, (IntKind.i64.wrap ((-13493037704) - r0.V)), r0.F, 0)).isSome = true) ∧ (let r1 : Int × Bool := (iterO (fixed_Sin_L0_2_step r0) NN ((IntKind.i64.wrap ((-13493037704) - r0.V)), r0.F, (IntKind.i64.wrap ((-13493037704) - r0.V)), r0.F, 0)).getD default
      let r2 : Num := fixed_Int (-1)
      let r3 : Num := fixed_Int 1
      (P_fixed_Clamp (⟨r1.1, r1.2⟩ : Num) r2 r3) ∧ True)
    else
      ((iterO (fixed_Sin_L0_3_step r0) NN (r0.V, r0.F, r0.V, r0.F, 0)).isSome = true) ∧ (let r1 : Int × Bool := (iterO (fixed_Sin_L0_3_step r0) NN (r0.V, r0.F, r0.V, r0.F, 0)).getD default
      let r2 : Num := fixed_Int (-1)
      let r3 : Num := fixed_Int 1
      (P_fixed_Clamp (⟨r1.1, r1.2⟩ : Num) r2 r3) ∧ True)
instance (x : Num) : Decidable (P_fixed_Sin x) :=
  let r0 : Num := fixed_Wrap x
  iteDec (c := r0.V > 6746518852) (@instDecidableAnd _ _ (inferInstanceAs (Decidable ((iterO (fixed_Sin_L0_step r0) NN ((IntKind.i64.wrap (13493037704 - r0.V)), r0.F, (IntKind.i64.wrap (13493037704 - r0.V)), r0.F, 0)).isSome = true))) (let r1 : Int × Bool := (iterO (fixed_Sin_L0_step r0) NN ((IntKind.i64.wrap (13493037704 - r0.V)), r0.F, (IntKind.i64.wrap (13493037704 - r0.V)), r0.F, 0)).getD default
    let r2 : Num := fixed_Int (-1)
    let r3 : Num := fixed_Int 1
    @instDecidableAnd _ _ (inferInstanceAs (Decidable (P_fixed_Clamp (⟨r1.1, r1.2⟩ : Num) r2 r3))) (instDecidableTrue))) (iteDec (c := r0.V < (-6746518852)) (@instDecidableAnd _ _ (inferInstanceAs (Decidable ((iterO (fixed_Sin_L0_2_step r0) NN ((IntKind.i64.wrap ((-13493037704) - r0.V)), r0.F, (IntKind.i64.wrap ((-13493037704) - r0.V)), r0.F, 0)).isSome = true))) (let r1 : Int × Bool := (iterO (fixed_Sin_L0_2_step r0) NN ((IntKind.i64.wrap ((-13493037704) - r0.V)), r0.F, (IntKind.i64.wrap ((-13493037704) - r0.V)), r0.F, 0)).getD default
      let r2 : Num := fixed_Int (-1)
      let r3 : Num := fixed_Int 1
      @instDecidableAnd _ _ (inferInstanceAs (Decidable (P_fixed_Clamp (⟨r1.1, r1.2⟩ : Num) r2 r3))) (instDecidableTrue))) (@instDecidableAnd _ _ (inferInstanceAs (Decidable ((iterO (fixed_Sin_L0_3_step r0) NN (r0.V, r0.F, r0.V, r0.F, 0)).isSome = true))) (let r1 : Int × Bool := (iterO (fixed_Sin_L0_3_step r0) NN (r0.V, r0.F, r0.V, r0.F, 0)).getD default
      let r2 : Num := fixed_Int (-1)
      let r3 : Num := fixed_Int 1
      @instDecidableAnd _ _ (inferInstanceAs (Decidable (P_fixed_Clamp (⟨r1.1, r1.2⟩ : Num) r2 r3))) (instDecidableTrue))))
def ref01_Cos (x : Num) : Num :=
  let r0 : Num := ref01_Wrap x
  let r1 : Num := ref01_Add r0 (⟨6746518852, false⟩ : Num)
  let r2 : Num := ref01_Sin r1
  r2
def P_ref01_Cos (x : Num) : Prop :=
  let r0 : Num := ref01_Wrap x
  let r1 : Num := ref01_Add r0 (⟨6746518852, false⟩ : Num)
  (P_ref01_Add r0 (⟨6746518852, false⟩ : Num)) ∧ ((P_ref01_Sin r1) ∧ True)
instance (x : Num) : Decidable (P_ref01_Cos x) :=
  let r0 : Num := ref01_Wrap x
  let r1 : Num := ref01_Add r0 (⟨6746518852, false⟩ : Num)
  @instDecidableAnd _ _ (inferInstanceAs (Decidable (P_ref01_Add r0 (⟨6746518852, false⟩ : Num)))) (@instDecidableAnd _ _ (inferInstanceAs (Decidable (P_ref01_Sin r1))) (instDecidableTrue))
def plane_Unit (x : Vec) : (Vec × Bool) :=
  let r0 : Bool := plane_Fault ([x] : List Vec)
  if r0 = true then
    ((⟨⟨0, false⟩, ⟨0, false⟩⟩ : Vec), false)
  else
    if max (max (max x.X.V (IntKind.i64.wrap (0 - x.X.V))) x.Y.V) (IntKind.i64.wrap (0 - x.Y.V)) < 16777216 then
      let r1 : Num := plane_Len (⟨⟨IntKind.i64.wrap (x.X.V * 16777216), x.X.F⟩, ⟨IntKind.i64.wrap (x.Y.V * 16777216), x.Y.F⟩⟩ : Vec)
      if r1.F = true then
        ((⟨⟨0, false⟩, ⟨0, false⟩⟩ : Vec), false)
      else
        if r1.V = 0 then
          ((⟨⟨0, false⟩, ⟨0, false⟩⟩ : Vec), false)
        else
          let r2 : Num := fixed_Div (⟨IntKind.i64.wrap (x.X.V * 16777216), x.X.F⟩ : Num) r1
          let r3 : Num := fixed_Div (⟨IntKind.i64.wrap (x.Y.V * 16777216), x.Y.F⟩ : Num) r1
          ((⟨r2, r3⟩ : Vec), true)
    else
      let r1 : Num := plane_Len x
      if r1.F = true then
        ((⟨⟨0, false⟩, ⟨0, false⟩⟩ : Vec), false)
      else
        if r1.V = 0 then
          ((⟨⟨0, false⟩, ⟨0, false⟩⟩ : Vec), false)
        else
          let r2 : Num := fixed_Div x.X r1
          let r3 : Num := fixed_Div x.Y r1
          ((⟨r2, r3⟩ : Vec), true)
def P_plane_Unit (x : Vec) : Prop :=
  let r0 : Bool := plane_Fault ([x] : List Vec)
  (P_plane_Fault ([x] : List Vec)) ∧ (if r0 = true then
    True
  else
    if max (max (max x.X.V (IntKind.i64.wrap (0 - x.X.V))) x.Y.V) (IntKind.i64.wrap (0 - x.Y.V)) < 16777216 then
      let r1 : Num := plane_Len (⟨⟨IntKind.i64.wrap (x.X.V * 16777216), x.X.F⟩, ⟨IntKind.i64.wrap (x.Y.V * 16777216), x.Y.F⟩⟩ : Vec)
      (P_plane_Len (⟨⟨IntKind.i64.wrap (x.X.V * 16777216), x.X.F⟩, ⟨IntKind.i64.wrap (x.Y.V * 16777216), x.Y.F⟩⟩ : Vec)) ∧ (if r1.F = true then
        True
      else
        if r1.V = 0 then
          True
        else
          (P_fixed_Div (⟨IntKind.i64.wrap (x.X.V * 16777216), x.X.F⟩ : Num) r1) ∧ ((P_fixed_Div (⟨IntKind.i64.wrap (x.Y.V * 16777216), x.Y.F⟩ : Num) r1) ∧ True))
    else
      let r1 : Num := plane_Len x
      (P_plane_Len x) ∧ (if r1.F = true then
        True
      else
        if r1.V = 0 then
          True
        else
          (P_fixed_Div x.X r1) ∧ ((P_fixed_Div x.Y r1) ∧ True)))
instance (x : Vec) : Decidable (P_plane_Unit x) :=
  let r0 : Bool := plane_Fault ([x] : List Vec)
  @instDecidableAnd _ _ (inferInstanceAs (Decidable (P_plane_Fault ([x] : List Vec)))) (iteDec (c := r0 = true) (instDecidableTrue) (iteDec (c := max (max (max x.X.V (IntKind.i64.wrap (0 - x.X.V))) x.Y.V) (IntKind.i64.wrap (0 - x.Y.V)) < 16777216) (let r1 : Num := plane_Len (⟨⟨IntKind.i64.wrap (x.X.V * 16777216), x.X.F⟩, ⟨IntKind.i64.wrap (x.Y.V * 16777216), x.Y.F⟩⟩ : Vec)
      @instDecidableAnd _ _ (inferInstanceAs (Decidable (P_plane_Len (⟨⟨IntKind.i64.wrap (x.X.V * 16777216), x.X.F⟩, ⟨IntKind.i64.wrap (x.Y.V * 16777216), x.Y.F⟩⟩ : Vec)))) (iteDec (c := r1.F = true) (instDecidableTrue) (iteDec (c := r1.V = 0) (instDecidableTrue) (@instDecidableAnd _ _ (inferInstanceAs (Decidable (P_fixed_Div (⟨IntKind.i64.wrap (x.X.V * 16777216), x.X.F⟩ : Num) r1))) (@instDecidableAnd _ _ (inferInstanceAs (Decidable (P_fixed_Div (⟨IntKind.i64.wrap (x.Y.V * 16777216), x.Y.F⟩ : Num) r1))) (instDecidableTrue)))))) (let r1 : Num := plane_Len x
      @instDecidableAnd _ _ (inferInstanceAs (Decidable (P_plane_Len x))) (iteDec (c := r1.F = true) (instDecidableTrue) (iteDec (c := r1.V = 0) (instDecidableTrue) (@instDecidableAnd _ _ (inferInstanceAs (Decidable (P_fixed_Div x.X r1))) (@instDecidableAnd _ _ (inferInstanceAs (Decidable (P_fixed_Div x.Y r1))) (instDecidableTrue))))))))
def ref02_Angle (x : Num) : Rot :=
  let r0 : Num := ref01_Cos x
  let r1 : Num := ref01_Sin x
  ⟨r0, r1⟩
def P_ref02_Angle (x : Num) : Prop :=
  (P_ref01_Cos x) ∧ ((P_ref01_Sin x) ∧ True)
instance (x : Num) : Decidable (P_ref02_Angle x) :=
  @instDecidableAnd _ _ (inferInstanceAs (Decidable (P_ref01_Cos x))) (@instDecidableAnd _ _ (inferInstanceAs (Decidable (P_ref01_Sin x))) (instDecidableTrue))
def ref02_Spin (x : Rot) (y : Num) : Rot :=
  let r0 : Rot := ref02_Angle y
  let r1 : Rot := ref02_Compose r0 x
  r1
def P_ref02_Spin (x : Rot) (y : Num) : Prop :=
  let r0 : Rot := ref02_Angle y
  (P_ref02_Angle y) ∧ ((P_ref02_Compose r0 x) ∧ True)
instance (x : Rot) (y : Num) : Decidable (P_ref02_Spin x y) :=
  let r0 : Rot := ref02_Angle y
  @instDecidableAnd _ _ (inferInstanceAs (Decidable (P_ref02_Angle y))) (@instDecidableAnd _ _ (inferInstanceAs (Decidable (P_ref02_Compose r0 x))) (instDecidableTrue))
def fixed_Cos (x : Num) : Num :=
  let r0 : Num := fixed_Wrap x
  let r1 : Num := fixed_Of 6746518852
  let r2 : Num := fixed_Add r0 r1
  let r3 : Num := fixed_Sin r2
  r3
def P_fixed_Cos (x : Num) : Prop :=
  let r0 : Num := fixed_Wrap x
  let r1 : Num := fixed_Of 6746518852
  let r2 : Num := fixed_Add r0 r1
  (P_fixed_Add r0 r1) ∧ ((P_fixed_Sin r2) ∧ True)
instance (x : Num) : Decidable (P_fixed_Cos x) :=
  let r0 : Num := fixed_Wrap x
  let r1 : Num := fixed_Of 6746518852
  let r2 : Num := fixed_Add r0 r1
  @instDecidableAnd _ _ (inferInstanceAs (Decidable (P_fixed_Add r0 r1))) (@instDecidableAnd _ _ (inferInstanceAs (Decidable (P_fixed_Sin r2))) (instDecidableTrue))
def plane_Angle (x : Num) : Rot :=
  let r0 : Num := fixed_Cos x
  let r1 : Num := fixed_Sin x
  ⟨r0, r1⟩
def P_plane_Angle (x : Num) : Prop :=
  (P_fixed_Cos x) ∧ ((P_fixed_Sin x) ∧ True)
instance (x : Num) : Decidable (P_plane_Angle x) :=
  @instDecidableAnd _ _ (inferInstanceAs (Decidable (P_fixed_Cos x))) (@instDecidableAnd _ _ (inferInstanceAs (Decidable (P_fixed_Sin x))) (instDecidableTrue))
def plane_Spin (x : Rot) (y : Num) : Rot :=
  let r0 : Rot := plane_Angle y
  let r1 : Rot := plane_Compose r0 x
  r1
def P_plane_Spin (x : Rot) (y : Num) : Prop :=
  let r0 : Rot := plane_Angle y
  (P_plane_Angle y) ∧ ((P_plane_Compose r0 x) ∧ True)
instance (x : Rot) (y : Num) : Decidable (P_plane_Spin x y) :=
  let r0 : Rot := plane_Angle y
  @instDecidableAnd _ _ (inferInstanceAs (Decidable (P_plane_Angle y))) (@instDecidableAnd _ _ (inferInstanceAs (Decidable (P_plane_Compose r0 x))) (instDecidableTrue))
def sx (l : List Spot) (j : Nat) : Int := (l.getD j default).X
def sy (l : List Spot) (j : Nat) : Int := (l.getD j default).Y
def plane_convex_R_L0_step (i : Nat) (ls : List Spot) (qr0 : Spot) (si : Int) : Option ((Int) ⊕ (Nat × (Unit) × (Unit))) :=
  if si < ((ls.length : Nat) : Int) then
    if ((0 : Int) ≤ si ∧ si < ((ls.length : Nat) : Int)) then
    if si = ((i : Nat) : Int) then
      some (.inl (IntKind.i64.wrap (si + 1)))
    else
      if ((ls.length : Nat) : Int) ≠ (0 : Int) then
      if si = (IntKind.i64.wrap (((i : Nat) : Int) + 1)).tmod ((ls.length : Nat) : Int) then
        some (.inl (IntKind.i64.wrap (si + 1)))
      else
        let qir0 : Spot := plane_spot_minus (nth ls si) (⟨sx ls i, sy ls i⟩ : Spot)
        let qir1 : Int := plane_spot_cross qr0 qir0
        if qir1 ≤ 0 then
          some (.inr (0, (), default))
        else
          some (.inl (IntKind.i64.wrap (si + 1)))
      else none
    else none
  else
    some (.inr (1, default, ()))
def plane_convex_R_ok (ls : List Spot) (i : Nat) : Bool :=
  let qr0 : Spot := plane_spot_minus (⟨sx ls ((i + 1) % ls.length), sy ls ((i + 1) % ls.length)⟩ : Spot) (⟨sx ls i, sy ls i⟩ : Spot)
  let qr1 : Spot := plane_spot_minus (⟨sx ls ((i + 2) % ls.length), sy ls ((i + 2) % ls.length)⟩ : Spot) (⟨sx ls ((i + 1) % ls.length), sy ls ((i + 1) % ls.length)⟩ : Spot)
  let qr2 : Int := plane_spot_cross (⟨sx ls i, sy ls i⟩ : Spot) (⟨sx ls ((i + 1) % ls.length), sy ls ((i + 1) % ls.length)⟩ : Spot)
  if qr2 ≤ 0 then
    false
  else
    let qr3 : Int := plane_spot_cross qr0 qr1
    let qr4 : Int := plane_spot_span qr0
    let qr5 : Int := plane_spot_span qr1
    if qr3 < IntKind.i64.wrap (4 * IntKind.i64.wrap (qr4 + qr5)) then
      false
    else
      let qr6 : Nat × (Unit) × (Unit) := (iterO (plane_convex_R_L0_step i ls qr0) NN 0).getD default
      if qr6.1 = 0 then
        false
      else
        true
def plane_convex_R_P (ls : List Spot) (i : Nat) : Prop :=
  let qr0 : Spot := plane_spot_minus (⟨sx ls ((i + 1) % ls.length), sy ls ((i + 1) % ls.length)⟩ : Spot) (⟨sx ls i, sy ls i⟩ : Spot)
  let qr1 : Spot := plane_spot_minus (⟨sx ls ((i + 2) % ls.length), sy ls ((i + 2) % ls.length)⟩ : Spot) (⟨sx ls ((i + 1) % ls.length), sy ls ((i + 1) % ls.length)⟩ : Spot)
  let qr2 : Int := plane_spot_cross (⟨sx ls i, sy ls i⟩ : Spot) (⟨sx ls ((i + 1) % ls.length), sy ls ((i + 1) % ls.length)⟩ : Spot)
  if qr2 ≤ 0 then
    True
  else
    let qr3 : Int := plane_spot_cross qr0 qr1
    let qr4 : Int := plane_spot_span qr0
    let qr5 : Int := plane_spot_span qr1
    if qr3 < IntKind.i64.wrap (4 * IntKind.i64.wrap (qr4 + qr5)) then
      True
    else
      ((iterO (plane_convex_R_L0_step i ls qr0) NN 0).isSome = true) ∧ True
instance (ls : List Spot) (i : Nat) : Decidable (plane_convex_R_P ls i) :=
  let qr0 : Spot := plane_spot_minus (⟨sx ls ((i + 1) % ls.length), sy ls ((i + 1) % ls.length)⟩ : Spot) (⟨sx ls i, sy ls i⟩ : Spot)
  let qr1 : Spot := plane_spot_minus (⟨sx ls ((i + 2) % ls.length), sy ls ((i + 2) % ls.length)⟩ : Spot) (⟨sx ls ((i + 1) % ls.length), sy ls ((i + 1) % ls.length)⟩ : Spot)
  let qr2 : Int := plane_spot_cross (⟨sx ls i, sy ls i⟩ : Spot) (⟨sx ls ((i + 1) % ls.length), sy ls ((i + 1) % ls.length)⟩ : Spot)
  iteDec (c := qr2 ≤ 0) (instDecidableTrue) (let qr3 : Int := plane_spot_cross qr0 qr1
    let qr4 : Int := plane_spot_span qr0
    let qr5 : Int := plane_spot_span qr1
    iteDec (c := qr3 < IntKind.i64.wrap (4 * IntKind.i64.wrap (qr4 + qr5))) (instDecidableTrue) (@instDecidableAnd _ _ (inferInstanceAs (Decidable ((iterO (plane_convex_R_L0_step i ls qr0) NN 0).isSome = true))) (instDecidableTrue)))
def plane_convex (x : (List Spot)) : Bool :=
  if (List.range x.length).all (fun i => plane_convex_R_ok x i) = true then
    true
  else
    false
def P_plane_convex (x : (List Spot)) : Prop :=
  (x.length ≤ 1000) ∧ ((∀ i, i < x.length → plane_convex_R_P x i) ∧ True)
instance (x : (List Spot)) : Decidable (P_plane_convex x) :=
  @instDecidableAnd _ _ (inferInstanceAs (Decidable (x.length ≤ 1000))) (@instDecidableAnd _ _ (inferInstanceAs (Decidable (∀ i, i < x.length → plane_convex_R_P x i))) (instDecidableTrue))
def plane_CheckShape_L0_step (x : Shape) (s : Int) : Option ((Int) ⊕ (Nat × (Unit) × (Unit))) :=
  if s < ((x.Pts.length : Nat) : Int) then
    if ((0 : Int) ≤ s ∧ s < ((x.Pts.length : Nat) : Int)) then
    if max ((nth x.Pts s).X) ((nth x.Pts s).Y) > 4096 then
      some (.inr (0, (), default))
    else
      if min ((nth x.Pts s).X) ((nth x.Pts s).Y) < (-4096) then
        some (.inr (0, (), default))
      else
        some (.inl (IntKind.i64.wrap (s + 1)))
    else none
  else
    some (.inr (1, default, ()))
def plane_CheckShape (x : Shape) : Int :=
  if x.Kind = 1 then
    if x.W = 0 then
      if x.H = 0 then
        if ((x.Pts.length : Nat) : Int) = 0 then
          let r0 : Bool := plane_size x.R
          if r0 = true then
            0
          else
            3
        else
          4
      else
        4
    else
      4
  else
    if x.Kind = 2 then
      if x.R = 0 then
        if ((x.Pts.length : Nat) : Int) = 0 then
          let r0 : Bool := plane_size x.W
          if r0 = true then
            let r1 : Bool := plane_size x.H
            if r1 = true then
              0
            else
              3
          else
            3
        else
          4
      else
        4
    else
      if x.Kind = 3 then
        if x.R = 0 then
          if x.W = 0 then
            if x.H = 0 then
              if ((x.Pts.length : Nat) : Int) < 3 then
                4
              else
                if ((x.Pts.length : Nat) : Int) > 8 then
                  4
                else
                  let r0 : Nat × (Unit) × (Unit) := (iterO (plane_CheckShape_L0_step x) NN 0).getD default
                  if r0.1 = 0 then
                    3
                  else
                    let r1 : Bool := plane_convex x.Pts
                    if r1 = true then
                      0
                    else
                      5
            else
              4
          else
            4
        else
          4
      else
        8
def P_plane_CheckShape (x : Shape) : Prop :=
  if x.Kind = 1 then
    True
  else
    if x.Kind = 2 then
      True
    else
      if x.Kind = 3 then
        if x.R = 0 then
          if x.W = 0 then
            if x.H = 0 then
              if ((x.Pts.length : Nat) : Int) < 3 then
                True
              else
                if ((x.Pts.length : Nat) : Int) > 8 then
                  True
                else
                  ((iterO (plane_CheckShape_L0_step x) NN 0).isSome = true) ∧ (let r0 : Nat × (Unit) × (Unit) := (iterO (plane_CheckShape_L0_step x) NN 0).getD default
                  if r0.1 = 0 then
                    True
                  else
                    (P_plane_convex x.Pts) ∧ True)
            else
              True
          else
            True
        else
          True
      else
        True
instance (x : Shape) : Decidable (P_plane_CheckShape x) :=
  iteDec (c := x.Kind = 1) (instDecidableTrue) (iteDec (c := x.Kind = 2) (instDecidableTrue) (iteDec (c := x.Kind = 3) (iteDec (c := x.R = 0) (iteDec (c := x.W = 0) (iteDec (c := x.H = 0) (iteDec (c := ((x.Pts.length : Nat) : Int) < 3) (instDecidableTrue) (iteDec (c := ((x.Pts.length : Nat) : Int) > 8) (instDecidableTrue) (@instDecidableAnd _ _ (inferInstanceAs (Decidable ((iterO (plane_CheckShape_L0_step x) NN 0).isSome = true))) (let r0 : Nat × (Unit) × (Unit) := (iterO (plane_CheckShape_L0_step x) NN 0).getD default
                  iteDec (c := r0.1 = 0) (instDecidableTrue) (@instDecidableAnd _ _ (inferInstanceAs (Decidable (P_plane_convex x.Pts))) (instDecidableTrue)))))) (instDecidableTrue)) (instDecidableTrue)) (instDecidableTrue)) (instDecidableTrue)))
def plane_sound (x : Shape) : (Shape × Int) :=
  let r0 : Int := plane_CheckShape x
  if r0 = 0 then
    (x, 0)
  else
    ((⟨0, 0, 0, 0, ([] : List Spot)⟩ : Shape), r0)
def P_plane_sound (x : Shape) : Prop :=
  (P_plane_CheckShape x) ∧ True
instance (x : Shape) : Decidable (P_plane_sound x) :=
  @instDecidableAnd _ _ (inferInstanceAs (Decidable (P_plane_CheckShape x))) (instDecidableTrue)
def V_plane_sound (x : Shape) : Bool :=
  let r0 : Int := plane_CheckShape x
  if r0 = 0 then
    true
  else
    false
def plane_Corners (x : Shape) : (List Spot) :=
  let r0 : Int := plane_CheckShape x
  if r0 = 0 then
    if x.Kind = 2 then
      ([⟨IntKind.i64.wrap (0 - x.W), IntKind.i64.wrap (0 - x.H)⟩, ⟨x.W, IntKind.i64.wrap (0 - x.H)⟩, ⟨x.W, x.H⟩, ⟨IntKind.i64.wrap (0 - x.W), x.H⟩] : List Spot)
    else
      x.Pts
  else
    ([] : List Spot)
def P_plane_Corners (x : Shape) : Prop :=
  let r0 : Int := plane_CheckShape x
  (P_plane_CheckShape x) ∧ (if r0 = 0 then
    if x.Kind = 2 then
      True
    else
      (x.Pts.length * 16 ≤ 140737488355328) ∧ True
  else
    True)
instance (x : Shape) : Decidable (P_plane_Corners x) :=
  let r0 : Int := plane_CheckShape x
  @instDecidableAnd _ _ (inferInstanceAs (Decidable (P_plane_CheckShape x))) (iteDec (c := r0 = 0) (iteDec (c := x.Kind = 2) (instDecidableTrue) (@instDecidableAnd _ _ (inferInstanceAs (Decidable (x.Pts.length * 16 ≤ 140737488355328))) (instDecidableTrue))) (instDecidableTrue))
def K_plane_Corners_0 (x : Shape) : Option Nat :=
  let r0 : Int := plane_CheckShape x
  if r0 = 0 then
    if x.Kind = 2 then
      some 4
    else
      none
  else
    none
def plane_Square (x : Int) (y : Int) : (Shape × Int) :=
  if V_plane_sound (⟨2, 0, x, y, ([] : List Spot)⟩ : Shape) = true then
    let r0 : (Shape × Int) := plane_sound (⟨2, 0, x, y, ([] : List Spot)⟩ : Shape)
    ((⟨r0.1.Kind, r0.1.R, r0.1.W, r0.1.H, ([] : List Spot)⟩ : Shape), r0.2)
  else
    let r0 : (Shape × Int) := plane_sound (⟨2, 0, x, y, ([] : List Spot)⟩ : Shape)
    r0
def P_plane_Square (x : Int) (y : Int) : Prop :=
  if V_plane_sound (⟨2, 0, x, y, ([] : List Spot)⟩ : Shape) = true then
    (P_plane_sound (⟨2, 0, x, y, ([] : List Spot)⟩ : Shape)) ∧ True
  else
    (P_plane_sound (⟨2, 0, x, y, ([] : List Spot)⟩ : Shape)) ∧ True
instance (x : Int) (y : Int) : Decidable (P_plane_Square x y) :=
  iteDec (c := V_plane_sound (⟨2, 0, x, y, ([] : List Spot)⟩ : Shape) = true) (@instDecidableAnd _ _ (inferInstanceAs (Decidable (P_plane_sound (⟨2, 0, x, y, ([] : List Spot)⟩ : Shape)))) (instDecidableTrue)) (@instDecidableAnd _ _ (inferInstanceAs (Decidable (P_plane_sound (⟨2, 0, x, y, ([] : List Spot)⟩ : Shape)))) (instDecidableTrue))
def plane_Weigh_R_step (ls : List Spot) (i : Nat) (s : Int × Int) : Int × Int :=
  let qr0 : Int := plane_spot_cross (⟨sx ls i, sy ls i⟩ : Spot) (⟨sx ls ((i + 1) % ls.length), sy ls ((i + 1) % ls.length)⟩ : Spot)
  let qr1 : Int := plane_spot_dot (⟨sx ls i, sy ls i⟩ : Spot) (⟨sx ls i, sy ls i⟩ : Spot)
  let qr2 : Int := plane_spot_dot (⟨sx ls i, sy ls i⟩ : Spot) (⟨sx ls ((i + 1) % ls.length), sy ls ((i + 1) % ls.length)⟩ : Spot)
  let qr3 : Int := plane_spot_dot (⟨sx ls ((i + 1) % ls.length), sy ls ((i + 1) % ls.length)⟩ : Spot) (⟨sx ls ((i + 1) % ls.length), sy ls ((i + 1) % ls.length)⟩ : Spot)
  ((IntKind.i64.wrap (s.1 + qr0)), (IntKind.i64.wrap (s.2 + IntKind.i64.wrap (qr0 * IntKind.i64.wrap (IntKind.i64.wrap (qr1 + qr2) + qr3)))))
def plane_Weigh (x : Shape) (y : Int) : (Weight × Int) :=
  let r0 : Int := plane_CheckShape x
  if r0 = 0 then
    if y < 1 then
      ((⟨⟨0, false⟩, ⟨0, false⟩⟩ : Weight), 3)
    else
      if y > 1000 then
        ((⟨⟨0, false⟩, ⟨0, false⟩⟩ : Weight), 3)
      else
        let r1 : Num := fixed_Int y
        if x.Kind = 1 then
          let r2 : Num := fixed_Of 13493037704
          let r3 : Num := fixed_Ratio 65536 (IntKind.i64.wrap (x.R * x.R))
          let r4 : Num := fixed_Div r3 r2
          let r5 : Num := fixed_Ratio 8589934592 (IntKind.i64.wrap (IntKind.i64.wrap (IntKind.i64.wrap (x.R * x.R) * x.R) * x.R))
          let r6 : Num := fixed_Div r5 r2
          let r7 : Num := fixed_Div r4 r1
          let r8 : Num := fixed_Div r6 r1
          ((⟨r7, r8⟩ : Weight), 0)
        else
          let r3 : (List Spot) := plane_Corners x
          let r4 : Int × Int := (List.range r3.length).foldl (fun s i => plane_Weigh_R_step r3 i s) (0, 0)
          let r5 : Num := fixed_Ratio 131072 r4.1
          let r6 : Num := fixed_Div r5 r1
          let r7 : Num := fixed_Ratio 51539607552 r4.2
          let r8 : Num := fixed_Div r7 r1
          ((⟨r6, r8⟩ : Weight), 0)
  else
    ((⟨⟨0, false⟩, ⟨0, false⟩⟩ : Weight), r0)
def P_plane_Weigh (x : Shape) (y : Int) : Prop :=
  let r0 : Int := plane_CheckShape x
  (P_plane_CheckShape x) ∧ (if r0 = 0 then
    if y < 1 then
      True
    else
      if y > 1000 then
        True
      else
        let r1 : Num := fixed_Int y
        if x.Kind = 1 then
          let r2 : Num := fixed_Of 13493037704
          let r3 : Num := fixed_Ratio 65536 (IntKind.i64.wrap (x.R * x.R))
          (P_fixed_Ratio 65536 (IntKind.i64.wrap (x.R * x.R))) ∧ (let r4 : Num := fixed_Div r3 r2
          (P_fixed_Div r3 r2) ∧ (let r5 : Num := fixed_Ratio 8589934592 (IntKind.i64.wrap (IntKind.i64.wrap (IntKind.i64.wrap (x.R * x.R) * x.R) * x.R))
          (P_fixed_Ratio 8589934592 (IntKind.i64.wrap (IntKind.i64.wrap (IntKind.i64.wrap (x.R * x.R) * x.R) * x.R))) ∧ (let r6 : Num := fixed_Div r5 r2
          (P_fixed_Div r5 r2) ∧ ((P_fixed_Div r4 r1) ∧ ((P_fixed_Div r6 r1) ∧ True)))))
        else
          let r3 : (List Spot) := plane_Corners x
          (P_plane_Corners x) ∧ ((r3.length ≤ 1000) ∧ (let r4 : Int × Int := (List.range r3.length).foldl (fun s i => plane_Weigh_R_step r3 i s) (0, 0)
          let r5 : Num := fixed_Ratio 131072 r4.1
          (P_fixed_Ratio 131072 r4.1) ∧ ((P_fixed_Div r5 r1) ∧ (let r7 : Num := fixed_Ratio 51539607552 r4.2
          (P_fixed_Ratio 51539607552 r4.2) ∧ ((P_fixed_Div r7 r1) ∧ True)))))
  else
    True)
instance (x : Shape) (y : Int) : Decidable (P_plane_Weigh x y) :=
  let r0 : Int := plane_CheckShape x
  @instDecidableAnd _ _ (inferInstanceAs (Decidable (P_plane_CheckShape x))) (iteDec (c := r0 = 0) (iteDec (c := y < 1) (instDecidableTrue) (iteDec (c := y > 1000) (instDecidableTrue) (let r1 : Num := fixed_Int y
        iteDec (c := x.Kind = 1) (let r2 : Num := fixed_Of 13493037704
          let r3 : Num := fixed_Ratio 65536 (IntKind.i64.wrap (x.R * x.R))
          @instDecidableAnd _ _ (inferInstanceAs (Decidable (P_fixed_Ratio 65536 (IntKind.i64.wrap (x.R * x.R))))) (let r4 : Num := fixed_Div r3 r2
          @instDecidableAnd _ _ (inferInstanceAs (Decidable (P_fixed_Div r3 r2))) (let r5 : Num := fixed_Ratio 8589934592 (IntKind.i64.wrap (IntKind.i64.wrap (IntKind.i64.wrap (x.R * x.R) * x.R) * x.R))
          @instDecidableAnd _ _ (inferInstanceAs (Decidable (P_fixed_Ratio 8589934592 (IntKind.i64.wrap (IntKind.i64.wrap (IntKind.i64.wrap (x.R * x.R) * x.R) * x.R))))) (let r6 : Num := fixed_Div r5 r2
          @instDecidableAnd _ _ (inferInstanceAs (Decidable (P_fixed_Div r5 r2))) (@instDecidableAnd _ _ (inferInstanceAs (Decidable (P_fixed_Div r4 r1))) (@instDecidableAnd _ _ (inferInstanceAs (Decidable (P_fixed_Div r6 r1))) (instDecidableTrue))))))) (let r3 : (List Spot) := plane_Corners x
          @instDecidableAnd _ _ (inferInstanceAs (Decidable (P_plane_Corners x))) (@instDecidableAnd _ _ (inferInstanceAs (Decidable (r3.length ≤ 1000))) (let r4 : Int × Int := (List.range r3.length).foldl (fun s i => plane_Weigh_R_step r3 i s) (0, 0)
          let r5 : Num := fixed_Ratio 131072 r4.1
          @instDecidableAnd _ _ (inferInstanceAs (Decidable (P_fixed_Ratio 131072 r4.1))) (@instDecidableAnd _ _ (inferInstanceAs (Decidable (P_fixed_Div r5 r1))) (let r7 : Num := fixed_Ratio 51539607552 r4.2
          @instDecidableAnd _ _ (inferInstanceAs (Decidable (P_fixed_Ratio 51539607552 r4.2))) (@instDecidableAnd _ _ (inferInstanceAs (Decidable (P_fixed_Div r7 r1))) (instDecidableTrue)))))))))) (instDecidableTrue))
def P_law02_awake : Prop :=
  ∀ r0 : Vec, r0 = law02_vec 3 (-4) →
  ∀ r1 : (Vec × Bool), r1 = plane_Unit r0 →
  (P_plane_Unit r0) ∧
  (∀ r2 : (Shape × Int), r2 = plane_Square 256 256 →
  ∀ r3 : (Weight × Int), r3 = plane_Weigh r2.1 1 →
  (P_plane_Weigh r2.1 1) ∧
  (∀ r4 : Vec, r4 = plane_Of 3 (-4) →
  ∀ r5 : Vec, r5 = law02_vec 3 (-4) →
  (((r4.X.V == r5.X.V) && ((r4.X.F == r5.X.F) && ((r4.Y.V == r5.Y.V) && ((r4.Y.F == r5.Y.F) && true)))) = true) ∧
  (∀ r6 : Vec, r6 = law02_vec 3 (-4) →
  ∀ r7 : Num, r7 = plane_Len r6 →
  (P_plane_Len r6) ∧
  (∀ r8 : Num, r8 = law02_num 5 →
  (((r7.V == r8.V) && ((r7.F == r8.F) && true)) = true) ∧
  ((r1.2 = true) ∧
  ((((r1.1.X.V == 2576980377) && ((r1.1.X.F == false) && ((r1.1.Y.V == (-3435973836)) && ((r1.1.Y.F == false) && true)))) = true) ∧
  ((r2.2 = 0) ∧
  ((r3.2 = 0) ∧
  (((r3.1.M.V == 1073741824) && ((r3.1.M.F == false) && ((r3.1.I.V == 1610612736) && ((r3.1.I.F == false) && true)))) = true)))))))))
def law02_awake : Bool := true
def P_law02_PlaneRots (x : Num) (y : Rot) (z : Rot) (u : Vec) : Prop :=
  ∀ r0 : Rot, r0 = plane_Angle x →
  (P_plane_Angle x) ∧
  (∀ r1 : Rot, r1 = ref02_Angle x →
  (P_ref02_Angle x) ∧
  ((((r0.C.V == r1.C.V) && ((r0.C.F == r1.C.F) && ((r0.S.V == r1.S.V) && ((r0.S.F == r1.S.F) && true)))) = true) ∧
  (∀ r2 : Int, r2 = plane_CheckRot y →
  (P_plane_CheckRot y) ∧
  (∀ r3 : Int, r3 = ref02_CheckRot y →
  (P_ref02_CheckRot y) ∧
  ((r2 = r3) ∧
  (∀ r4 : Vec, r4 = plane_Apply y u →
  (P_plane_Apply y u) ∧
  (∀ r5 : Vec, r5 = ref02_Apply y u →
  (P_ref02_Apply y u) ∧
  ((((r4.X.V == r5.X.V) && ((r4.X.F == r5.X.F) && ((r4.Y.V == r5.Y.V) && ((r4.Y.F == r5.Y.F) && true)))) = true) ∧
  (∀ r6 : Vec, r6 = plane_Back y u →
  (P_plane_Back y u) ∧
  (∀ r7 : Vec, r7 = ref02_Back y u →
  (P_ref02_Back y u) ∧
  ((((r6.X.V == r7.X.V) && ((r6.X.F == r7.X.F) && ((r6.Y.V == r7.Y.V) && ((r6.Y.F == r7.Y.F) && true)))) = true) ∧
  (∀ r8 : Rot, r8 = plane_Compose y z →
  (P_plane_Compose y z) ∧
  (∀ r9 : Rot, r9 = ref02_Compose y z →
  (P_ref02_Compose y z) ∧
  ((((r8.C.V == r9.C.V) && ((r8.C.F == r9.C.F) && ((r8.S.V == r9.S.V) && ((r8.S.F == r9.S.F) && true)))) = true) ∧
  (∀ r10 : Rot, r10 = plane_Spin y x →
  (P_plane_Spin y x) ∧
  (∀ r11 : Rot, r11 = ref02_Spin y x →
  (P_ref02_Spin y x) ∧
  ((((r10.C.V == r11.C.V) && ((r10.C.F == r11.C.F) && ((r10.S.V == r11.S.V) && ((r10.S.F == r11.S.F) && true)))) = true) ∧
  (∀ r12 : Bool, r12 = law02_awake →
  r12 = true))))))))))))))))))
def law02_PlaneRots (x : Num) (y : Rot) (z : Rot) (u : Vec) : Bool := true
end Go.Bag

