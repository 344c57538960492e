/- What the functions compute. -/
import Derived.Test.YtcbgfjidamoilaaQshAbsL
set_option linter.unusedVariables false
namespace Go.Bag
open Go Go.AbsK

structure Spot where
  X : Int
  Y : Int
  deriving DecidableEq, Inhabited
structure Shape where
  Kind : Int
  R : Int
  W : Int
  H : Int
  Pts : (List Spot)
  deriving DecidableEq, Inhabited
structure Num where
  V : Int
  F : Bool
  deriving DecidableEq, Inhabited
structure Words where
  w0 : Int
  w1 : Int
  deriving DecidableEq, Inhabited
structure Exact where
  neg : Bool
  w : Words
  deriving DecidableEq, Inhabited
structure Vec where
  X : Num
  Y : Num
  deriving DecidableEq, Inhabited
structure Weight where
  M : Num
  I : Num
  deriving DecidableEq, Inhabited
def decSpot : AV → Option Spot
  | .agg [.i .i64 a1, .i .i64 a2] => some ⟨a1, a2⟩
  | _ => none
def cSpot : Cod Spot where
  enc x := .agg [.i .i64 x.X, .i .i64 x.Y]
  dec := decSpot
  ok v x h := by
    unfold decSpot at h
    split at h
    · injection h with h; subst h; rfl
    · cases h
  pl x := rfl
def rdSpot : List Cell → Spot
  | [.i .i64 a1, .i .i64 a2] => ⟨a1, a2⟩
  | _ => ⟨0, 0⟩
def isSpot : List Cell → Bool
  | [.i .i64 _, .i .i64 _] => true
  | _ => false
def rSpot : Row Spot where
  toCod := cSpot
  w := 2
  rd := rdSpot
  rd_ok x := rfl
  row_len x := rfl
  row_pl x := by
    intro c hc
    have h : plainL (rowOf (cSpot.enc x)) = true := rfl
    exact List.all_eq_true.1 h c hc
  isRow := isSpot
  isRow_ok l h := by
    unfold isSpot at h
    split at h
    · rfl
    · cases h
def decNum : AV → Option Num
  | .agg [.i .i64 a1, .b a2] => some ⟨a1, a2⟩
  | _ => none
def cNum : Cod Num where
  enc x := .agg [.i .i64 x.V, .b x.F]
  dec := decNum
  ok v x h := by
    unfold decNum at h
    split at h
    · injection h with h; subst h; rfl
    · cases h
  pl x := rfl
def rdNum : List Cell → Num
  | [.i .i64 a1, .b a2] => ⟨a1, a2⟩
  | _ => ⟨0, false⟩
def isNum : List Cell → Bool
  | [.i .i64 _, .b _] => true
  | _ => false
def rNum : Row Num where
  toCod := cNum
  w := 2
  rd := rdNum
  rd_ok x := rfl
  row_len x := rfl
  row_pl x := by
    intro c hc
    have h : plainL (rowOf (cNum.enc x)) = true := rfl
    exact List.all_eq_true.1 h c hc
  isRow := isNum
  isRow_ok l h := by
    unfold isNum at h
    split at h
    · rfl
    · cases h
def decVec : AV → Option Vec
  | .agg [.i .i64 a1, .b a2, .i .i64 a3, .b a4] => some ⟨⟨a1, a2⟩, ⟨a3, a4⟩⟩
  | _ => none
def cVec : Cod Vec where
  enc x := .agg [.i .i64 x.X.V, .b x.X.F, .i .i64 x.Y.V, .b x.Y.F]
  dec := decVec
  ok v x h := by
    unfold decVec at h
    split at h
    · injection h with h; subst h; rfl
    · cases h
  pl x := rfl
def rdVec : List Cell → Vec
  | [.i .i64 a1, .b a2, .i .i64 a3, .b a4] => ⟨⟨a1, a2⟩, ⟨a3, a4⟩⟩
  | _ => ⟨⟨0, false⟩, ⟨0, false⟩⟩
def isVec : List Cell → Bool
  | [.i .i64 _, .b _, .i .i64 _, .b _] => true
  | _ => false
def rVec : Row Vec where
  toCod := cVec
  w := 4
  rd := rdVec
  rd_ok x := rfl
  row_len x := rfl
  row_pl x := by
    intro c hc
    have h : plainL (rowOf (cVec.enc x)) = true := rfl
    exact List.all_eq_true.1 h c hc
  isRow := isVec
  isRow_ok l h := by
    unfold isVec at h
    split at h
    · rfl
    · cases h
/-- The rounds that a loop is given at the most. -/
def NN : Nat := 1000000
def bits_Add64 (x y c : Int) : Int × Int := ((((x.toNat + y.toNat + c.toNat) % 18446744073709551616 : Nat) : Int), (((x.toNat + y.toNat + c.toNat) / 18446744073709551616 : Nat) : Int))
def bits_Sub64 (x y c : Int) : Int × Int := ((((x.toNat + 18446744073709551616 - y.toNat - c.toNat) % 18446744073709551616 : Nat) : Int), ((if x.toNat < y.toNat + c.toNat then 1 else 0 : Nat) : Int))
@[reducible] def iteDec {c A B : Prop} [Decidable c] (a : Decidable A) (b : Decidable B) : Decidable (if c then A else B) :=
  if h : c then (if_pos h).symm ▸ a else (if_neg h).symm ▸ b
def P_carry (x y c : Int) : Prop := c.toNat ≤ 1
instance (x y c : Int) : Decidable (P_carry x y c) := inferInstanceAs (Decidable (c.toNat ≤ 1))
/-- The number of bits of a byte. -/
def len8 (v : Int) : Int := if v = 0 then 0 else ((v.toNat.log2 + 1 : Nat) : Int)
theorem borrow_le (x y c : Int) : (bits_Sub64 x y c).2.toNat ≤ 1 := by
  simp only [bits_Sub64, Int.toNat_natCast]
  split <;> omega
theorem borrow_le' {x y c : Int} {r : Int × Int} (h : r = bits_Sub64 x y c) : r.2.toNat ≤ 1 := by rw [h]; exact borrow_le x y c
theorem u64_nn (n : Int) : (0 : Int) ≤ IntKind.u64.wrap n := by
  rw [IntKind.wrap_u64]
  exact Int.emod_nonneg _ (by decide)
def kit_OwnShape (x : Shape) : Shape :=
  x
def P_kit_OwnShape (x : Shape) : Prop :=
  ((0 + x.Pts.length) * 16 ≤ 140737488355328) ∧ True
instance (x : Shape) : Decidable (P_kit_OwnShape x) :=
  @instDecidableAnd _ _ (inferInstanceAs (Decidable ((0 + x.Pts.length) * 16 ≤ 140737488355328))) (instDecidableTrue)
def ref02_SameShape_L0_step (x : Shape) (y : Shape) (s : Int) : Option ((Int) ⊕ (Nat × (Unit) × (Unit))) :=
  if s < ((x.Pts.length : Nat) : Int) then
    if ((0 : Int) ≤ s ∧ s < ((x.Pts.length : Nat) : Int)) then
    if ((0 : Int) ≤ s ∧ s < ((y.Pts.length : Nat) : Int)) then
    if (((nth x.Pts s).X == (nth y.Pts s).X) && (((nth x.Pts s).Y == (nth y.Pts s).Y) && true)) = true then
      some (.inl (IntKind.i64.wrap (s + 1)))
    else
      some (.inr (0, (), default))
    else none
    else none
  else
    some (.inr (1, default, ()))
def ref02_SameShape (x : Shape) (y : Shape) : Bool :=
  if x.Kind = y.Kind then
    if x.R = y.R then
      if x.W = y.W then
        if x.H = y.H then
          if ((x.Pts.length : Nat) : Int) = ((y.Pts.length : Nat) : Int) then
            let r0 : Nat × (Unit) × (Unit) := (iterO (ref02_SameShape_L0_step x y) NN 0).getD default
            if r0.1 = 0 then
              false
            else
              true
          else
            false
        else
          false
      else
        false
    else
      false
  else
    false
def P_ref02_SameShape (x : Shape) (y : Shape) : Prop :=
  if x.Kind = y.Kind then
    if x.R = y.R then
      if x.W = y.W then
        if x.H = y.H then
          if ((x.Pts.length : Nat) : Int) = ((y.Pts.length : Nat) : Int) then
            ((iterO (ref02_SameShape_L0_step x y) NN 0).isSome = true) ∧ True
          else
            True
        else
          True
      else
        True
    else
      True
  else
    True
instance (x : Shape) (y : Shape) : Decidable (P_ref02_SameShape x y) :=
  iteDec (c := x.Kind = y.Kind) (iteDec (c := x.R = y.R) (iteDec (c := x.W = y.W) (iteDec (c := x.H = y.H) (iteDec (c := ((x.Pts.length : Nat) : Int) = ((y.Pts.length : Nat) : Int)) (@instDecidableAnd _ _ (inferInstanceAs (Decidable ((iterO (ref02_SameShape_L0_step x y) NN 0).isSome = true))) (instDecidableTrue)) (instDecidableTrue)) (instDecidableTrue)) (instDecidableTrue)) (instDecidableTrue)) (instDecidableTrue)
def law02_sameSpots_L0_step (x : (List Spot)) (y : (List Spot)) (s : Int) : Option ((Int) ⊕ (Nat × (Unit) × (Unit))) :=
  if s < ((x.length : Nat) : Int) then
    if ((0 : Int) ≤ s ∧ s < ((x.length : Nat) : Int)) then
    if ((0 : Int) ≤ s ∧ s < ((y.length : Nat) : Int)) then
    if (((nth x s).X == (nth y s).X) && (((nth x s).Y == (nth y s).Y) && true)) = true then
      some (.inl (IntKind.i64.wrap (s + 1)))
    else
      some (.inr (0, (), default))
    else none
    else none
  else
    some (.inr (1, default, ()))
def law02_sameSpots (x : (List Spot)) (y : (List Spot)) : Bool :=
  if ((x.length : Nat) : Int) = ((y.length : Nat) : Int) then
    let r0 : Nat × (Unit) × (Unit) := (iterO (law02_sameSpots_L0_step x y) NN 0).getD default
    if r0.1 = 0 then
      false
    else
      true
  else
    false
def P_law02_sameSpots (x : (List Spot)) (y : (List Spot)) : Prop :=
  if ((x.length : Nat) : Int) = ((y.length : Nat) : Int) then
    ((iterO (law02_sameSpots_L0_step x y) NN 0).isSome = true) ∧ True
  else
    True
instance (x : (List Spot)) (y : (List Spot)) : Decidable (P_law02_sameSpots x y) :=
  iteDec (c := ((x.length : Nat) : Int) = ((y.length : Nat) : Int)) (@instDecidableAnd _ _ (inferInstanceAs (Decidable ((iterO (law02_sameSpots_L0_step x y) NN 0).isSome = true))) (instDecidableTrue)) (instDecidableTrue)
def law02_num (x : Int) : Num :=
  ⟨IntKind.i64.wrap (x * 4294967296), false⟩
def plane_CopyShape (x : Shape) : Shape :=
  x
def P_plane_CopyShape (x : Shape) : Prop :=
  (x.Pts.length * 16 ≤ 140737488355328) ∧ True
instance (x : Shape) : Decidable (P_plane_CopyShape x) :=
  @instDecidableAnd _ _ (inferInstanceAs (Decidable (x.Pts.length * 16 ≤ 140737488355328))) (instDecidableTrue)
def plane_spot_cross (x : Spot) (y : Spot) : Int :=
  IntKind.i64.wrap (IntKind.i64.wrap (x.X * y.Y) - IntKind.i64.wrap (x.Y * y.X))
def plane_spot_dot (x : Spot) (y : Spot) : Int :=
  IntKind.i64.wrap (IntKind.i64.wrap (x.X * y.X) + IntKind.i64.wrap (x.Y * y.Y))
def ref02_cross (x : Spot) (y : Spot) : Int :=
  IntKind.i64.wrap (IntKind.i64.wrap (x.X * y.Y) - IntKind.i64.wrap (x.Y * y.X))
def ref02_dot (x : Spot) (y : Spot) : Int :=
  IntKind.i64.wrap (IntKind.i64.wrap (x.X * y.X) + IntKind.i64.wrap (x.Y * y.Y))
def plane_size (x : Int) : Bool :=
  if x ≥ 16 then
    decide (x ≤ 4096)
  else
    false
def ref02_sized (x : Int) : Bool :=
  if x ≥ 16 then
    decide (x ≤ 4096)
  else
    false
def ref02_near (x : Int) : Bool :=
  if x ≥ (-4096) then
    decide (x ≤ 4096)
  else
    false
def plane_above_L0_step (x : Int) (s : Int × Int) : Option ((Int × Int) ⊕ (Int)) :=
  if s.1 < s.2 then
    if IntKind.i64.wrap (IntKind.i64.wrap ((IntKind.i64.wrap (s.1 + s.2)).tdiv 2) * IntKind.i64.wrap ((IntKind.i64.wrap (s.1 + s.2)).tdiv 2)) < x then
      some (.inl ((IntKind.i64.wrap (IntKind.i64.wrap ((IntKind.i64.wrap (s.1 + s.2)).tdiv 2) + 1)), s.2))
    else
      some (.inl (s.1, (IntKind.i64.wrap ((IntKind.i64.wrap (s.1 + s.2)).tdiv 2))))
  else
    some (.inr s.1)
def plane_above (x : Int) : Int :=
  let r0 : Int := (iterO (plane_above_L0_step x) NN (0, 1048576)).getD default
  r0
def P_plane_above (x : Int) : Prop :=
  ((iterO (plane_above_L0_step x) NN (0, 1048576)).isSome = true) ∧ True
instance (x : Int) : Decidable (P_plane_above x) :=
  @instDecidableAnd _ _ (inferInstanceAs (Decidable ((iterO (plane_above_L0_step x) NN (0, 1048576)).isSome = true))) (instDecidableTrue)
def slices_Equal_L0_step (x : (List Spot)) (y : (List Spot)) (s : Int) : Option ((Int) ⊕ (Nat × (Unit) × (Unit))) :=
  if s < ((x.length : Nat) : Int) then
    if ((0 : Int) ≤ s ∧ s < ((x.length : Nat) : Int)) then
    if ((0 : Int) ≤ s ∧ s < ((y.length : Nat) : Int)) then
    if (((nth x s).X == (nth y s).X) && (((nth x s).Y == (nth y s).Y) && true)) = true then
      some (.inl (IntKind.i64.wrap (s + 1)))
    else
      some (.inr (0, (), default))
    else none
    else none
  else
    some (.inr (1, default, ()))
def slices_Equal (x : (List Spot)) (y : (List Spot)) : Bool :=
  if ((x.length : Nat) : Int) = ((y.length : Nat) : Int) then
    let r0 : Nat × (Unit) × (Unit) := (iterO (slices_Equal_L0_step x y) NN 0).getD default
    if r0.1 = 0 then
      false
    else
      true
  else
    false
def P_slices_Equal (x : (List Spot)) (y : (List Spot)) : Prop :=
  if ((x.length : Nat) : Int) = ((y.length : Nat) : Int) then
    ((iterO (slices_Equal_L0_step x y) NN 0).isSome = true) ∧ True
  else
    True
instance (x : (List Spot)) (y : (List Spot)) : Decidable (P_slices_Equal x y) :=
  iteDec (c := ((x.length : Nat) : Int) = ((y.length : Nat) : Int)) (@instDecidableAnd _ _ (inferInstanceAs (Decidable ((iterO (slices_Equal_L0_step x y) NN 0).isSome = true))) (instDecidableTrue)) (instDecidableTrue)
def fixed_sound (x : Num) : Num :=
  if x.V = (-9223372036854775808) then
    ⟨(-9223372036854775807), true⟩
  else
    x
def fixed_flags_L0_step (x : (List Num)) (s : Int) : Option ((Int) ⊕ (Nat × (Unit) × (Unit))) :=
  if s < ((x.length : Nat) : Int) then
    if ((0 : Int) ≤ s ∧ s < ((x.length : Nat) : Int)) then
    if (nth x s).F = true then
      some (.inr (0, (), default))
    else
      some (.inl (IntKind.i64.wrap (s + 1)))
    else none
  else
    some (.inr (1, default, ()))
def fixed_flags (x : (List Num)) : Bool :=
  let r0 : Nat × (Unit) × (Unit) := (iterO (fixed_flags_L0_step x) NN 0).getD default
  if r0.1 = 0 then
    true
  else
    false
def P_fixed_flags (x : (List Num)) : Prop :=
  ((iterO (fixed_flags_L0_step x) NN 0).isSome = true) ∧ True
instance (x : (List Num)) : Decidable (P_fixed_flags x) :=
  @instDecidableAnd _ _ (inferInstanceAs (Decidable ((iterO (fixed_flags_L0_step x) NN 0).isSome = true))) (instDecidableTrue)
def fixed_of (x : Int) : Exact :=
  if x < 0 then
    ⟨true, ⟨IntKind.u64.wrap (0 - IntKind.u64.wrap x), 0⟩⟩
  else
    ⟨false, ⟨IntKind.u64.wrap x, 0⟩⟩
def fixed_exact_up (x : Exact) : Exact :=
  ⟨x.neg, ⟨IntKind.u64.wrap (x.w.w0 * 4294967296), Go.bits .or .u64 (IntKind.u64.wrap (x.w.w1 * 4294967296)) ((x.w.w0).fdiv 4294967296)⟩⟩
def fixed_exact_fit (x : Exact) (y : Bool) : Num :=
  if x.w.w1 = 0 then
    if x.w.w0 ≤ 9223372036854775807 then
      if x.neg = true then
        ⟨IntKind.i64.wrap (0 - IntKind.i64.wrap x.w.w0), y⟩
      else
        ⟨IntKind.i64.wrap x.w.w0, y⟩
    else
      if x.neg = true then
        ⟨(-9223372036854775807), true⟩
      else
        ⟨9223372036854775807, true⟩
  else
    if x.neg = true then
      ⟨(-9223372036854775807), true⟩
    else
      ⟨9223372036854775807, true⟩
def plane_spot_minus (x : Spot) (y : Spot) : Spot :=
  ⟨IntKind.i64.wrap (x.X - y.X), IntKind.i64.wrap (x.Y - y.Y)⟩
def plane_spot_span (x : Spot) : Int :=
  IntKind.i64.wrap (max x.X (IntKind.i64.wrap (0 - x.X)) + max x.Y (IntKind.i64.wrap (0 - x.Y)))
def ref02_less (x : Spot) (y : Spot) : Spot :=
  ⟨IntKind.i64.wrap (x.X - y.X), IntKind.i64.wrap (x.Y - y.Y)⟩
def ref02_l (x : Spot) : Int :=
  IntKind.i64.wrap (max x.X (IntKind.i64.wrap (0 - x.X)) + max x.Y (IntKind.i64.wrap (0 - x.Y)))
def cmp_isNaN_int64 (x : Int) : Bool :=
  (!(x == x))
def bits_Mul64 (x : Int) (y : Int) : (Int × Int) :=
  ((IntKind.u64.wrap (IntKind.u64.wrap (IntKind.u64.wrap ((x).fdiv 4294967296 * (y).fdiv 4294967296) + (IntKind.u64.wrap (IntKind.u64.wrap ((x).fdiv 4294967296 * Go.bits .and .u64 y 4294967295) + (IntKind.u64.wrap (Go.bits .and .u64 x 4294967295 * Go.bits .and .u64 y 4294967295)).fdiv 4294967296)).fdiv 4294967296) + (IntKind.u64.wrap (Go.bits .and .u64 (IntKind.u64.wrap (IntKind.u64.wrap ((x).fdiv 4294967296 * Go.bits .and .u64 y 4294967295) + (IntKind.u64.wrap (Go.bits .and .u64 x 4294967295 * Go.bits .and .u64 y 4294967295)).fdiv 4294967296)) 4294967295 + IntKind.u64.wrap (Go.bits .and .u64 x 4294967295 * (y).fdiv 4294967296))).fdiv 4294967296)), (IntKind.u64.wrap (x * y)))
def bits_Len64 (x : Int) : Int :=
  if x ≥ 4294967296 then
    if (x).fdiv 4294967296 ≥ 65536 then
      if ((x).fdiv 4294967296).fdiv 65536 ≥ 256 then
        IntKind.i64.wrap (56 + IntKind.i64.wrap (len8 (IntKind.u8.wrap ((((x).fdiv 4294967296).fdiv 65536).fdiv 256))))
      else
        IntKind.i64.wrap (48 + IntKind.i64.wrap (len8 (IntKind.u8.wrap (((x).fdiv 4294967296).fdiv 65536))))
    else
      if (x).fdiv 4294967296 ≥ 256 then
        IntKind.i64.wrap (40 + IntKind.i64.wrap (len8 (IntKind.u8.wrap (((x).fdiv 4294967296).fdiv 256))))
      else
        IntKind.i64.wrap (32 + IntKind.i64.wrap (len8 (IntKind.u8.wrap ((x).fdiv 4294967296))))
  else
    if x ≥ 65536 then
      if (x).fdiv 65536 ≥ 256 then
        IntKind.i64.wrap (24 + IntKind.i64.wrap (len8 (IntKind.u8.wrap (((x).fdiv 65536).fdiv 256))))
      else
        IntKind.i64.wrap (16 + IntKind.i64.wrap (len8 (IntKind.u8.wrap ((x).fdiv 65536))))
    else
      if x ≥ 256 then
        IntKind.i64.wrap (8 + IntKind.i64.wrap (len8 (IntKind.u8.wrap ((x).fdiv 256))))
      else
        IntKind.i64.wrap (0 + IntKind.i64.wrap (len8 (IntKind.u8.wrap x)))
def cmp_Or_int_L0_step (x : (List Int)) (s : Int) : Option ((Int) ⊕ (Nat × (Int) × (Unit))) :=
  if s < ((x.length : Nat) : Int) then
    if ((0 : Int) ≤ s ∧ s < ((x.length : Nat) : Int)) then
    if nth x s = 0 then
      some (.inl (IntKind.i64.wrap (s + 1)))
    else
      some (.inr (0, nth x s, default))
    else none
  else
    some (.inr (1, default, ()))
def cmp_Or_int (x : (List Int)) : Int :=
  let r0 : Nat × (Int) × (Unit) := (iterO (cmp_Or_int_L0_step x) NN 0).getD default
  if r0.1 = 0 then
    r0.2.1
  else
    0
def P_cmp_Or_int (x : (List Int)) : Prop :=
  ((iterO (cmp_Or_int_L0_step x) NN 0).isSome = true) ∧ True
instance (x : (List Int)) : Decidable (P_cmp_Or_int x) :=
  @instDecidableAnd _ _ (inferInstanceAs (Decidable ((iterO (cmp_Or_int_L0_step x) NN 0).isSome = true))) (instDecidableTrue)
def cmp_isNaN_uint64 (x : Int) : Bool :=
  (!(x == x))
def law02_vec (x : Int) (y : Int) : Vec :=
  let r0 : Num := law02_num x
  let r1 : Num := law02_num y
  ⟨r0, r1⟩
def plane_SameShape (x : Shape) (y : Shape) : Bool :=
  if ((x.Kind == y.Kind) && ((x.R == y.R) && ((x.W == y.W) && ((x.H == y.H) && true)))) = true then
    let r0 : Bool := slices_Equal x.Pts y.Pts
    r0
  else
    false
def P_plane_SameShape (x : Shape) (y : Shape) : Prop :=
  if ((x.Kind == y.Kind) && ((x.R == y.R) && ((x.W == y.W) && ((x.H == y.H) && true)))) = true then
    (P_slices_Equal x.Pts y.Pts) ∧ True
  else
    True
instance (x : Shape) (y : Shape) : Decidable (P_plane_SameShape x y) :=
  iteDec (c := ((x.Kind == y.Kind) && ((x.R == y.R) && ((x.W == y.W) && ((x.H == y.H) && true)))) = true) (@instDecidableAnd _ _ (inferInstanceAs (Decidable (P_slices_Equal x.Pts y.Pts))) (instDecidableTrue)) (instDecidableTrue)
def fixed_Int (x : Int) : Num :=
  let r0 : Exact := fixed_of x
  let r1 : Exact := fixed_exact_up r0
  let r2 : Num := fixed_exact_fit r1 false
  r2
def fixed_Of (x : Int) : Num :=
  let r0 : Num := fixed_sound (⟨x, false⟩ : Num)
  r0
def fixed_Neg (x : Num) : Num :=
  let r0 : Num := fixed_sound x
  ⟨IntKind.i64.wrap (0 - r0.V), r0.F⟩
def plane_Fault_in1 (x : Vec) : Bool :=
  let r0 : Num := fixed_Neg x.X
  if r0.F = true then
    true
  else
    let r1 : Num := fixed_Neg x.Y
    r1.F
def ref02_convex_L1_step (s : Int) (x : (List Spot)) (si : Int) : Option ((Int) ⊕ (Nat × (Unit) × (Int × Int × Bool))) :=
  if si < ((x.length : Nat) : Int) then
    let qir0 : Spot := ref02_less (nth x ((IntKind.i64.wrap (s + 1)).tmod ((x.length : Nat) : Int))) (nth x s)
    if ((x.length : Nat) : Int) ≠ (0 : Int) then
    if ((0 : Int) ≤ (IntKind.i64.wrap (s + si)).tmod ((x.length : Nat) : Int) ∧ (IntKind.i64.wrap (s + si)).tmod ((x.length : Nat) : Int) < ((x.length : Nat) : Int)) then
    let qir1 : Spot := ref02_less (nth x ((IntKind.i64.wrap (s + si)).tmod ((x.length : Nat) : Int))) (nth x s)
    let qir2 : Int := ref02_cross qir0 qir1
    if qir2 ≤ 0 then
      some (.inr (0, (), default))
    else
      some (.inl (IntKind.i64.wrap (si + 1)))
    else none
    else none
  else
    some (.inr (1, default, (si, si, (decide (si < ((x.length : Nat) : Int))))))
def ref02_convex_L0_step (x : (List Spot)) (s : Int) : Option ((Int) ⊕ (Nat × (Unit) × (Unit))) :=
  if s < ((x.length : Nat) : Int) then
    if ((0 : Int) ≤ s ∧ s < ((x.length : Nat) : Int)) then
    if ((x.length : Nat) : Int) ≠ (0 : Int) then
    if ((0 : Int) ≤ (IntKind.i64.wrap (s + 1)).tmod ((x.length : Nat) : Int) ∧ (IntKind.i64.wrap (s + 1)).tmod ((x.length : Nat) : Int) < ((x.length : Nat) : Int)) then
    if ((0 : Int) ≤ (IntKind.i64.wrap (s + 2)).tmod ((x.length : Nat) : Int) ∧ (IntKind.i64.wrap (s + 2)).tmod ((x.length : Nat) : Int) < ((x.length : Nat) : Int)) then
    let qr0 : Int := ref02_cross (nth x s) (nth x ((IntKind.i64.wrap (s + 1)).tmod ((x.length : Nat) : Int)))
    if qr0 ≤ 0 then
      some (.inr (0, (), default))
    else
      let qr1 : Spot := ref02_less (nth x ((IntKind.i64.wrap (s + 1)).tmod ((x.length : Nat) : Int))) (nth x s)
      let qr2 : Spot := ref02_less (nth x ((IntKind.i64.wrap (s + 2)).tmod ((x.length : Nat) : Int))) (nth x ((IntKind.i64.wrap (s + 1)).tmod ((x.length : Nat) : Int)))
      let qr3 : Int := ref02_cross qr1 qr2
      let qr4 : Spot := ref02_less (nth x ((IntKind.i64.wrap (s + 1)).tmod ((x.length : Nat) : Int))) (nth x s)
      let qr5 : Int := ref02_l qr4
      let qr6 : Spot := ref02_less (nth x ((IntKind.i64.wrap (s + 2)).tmod ((x.length : Nat) : Int))) (nth x ((IntKind.i64.wrap (s + 1)).tmod ((x.length : Nat) : Int)))
      let qr7 : Int := ref02_l qr6
      if qr3 < IntKind.i64.wrap (4 * IntKind.i64.wrap (qr5 + qr7)) then
        some (.inr (0, (), default))
      else
        if (iterO (ref02_convex_L1_step s x) NN 2).isSome = true then
        let qr8 : Nat × (Unit) × (Int × Int × Bool) := (iterO (ref02_convex_L1_step s x) NN 2).getD default
        if qr8.1 = 0 then
          some (.inr (0, (), default))
        else
          some (.inl (IntKind.i64.wrap (s + 1)))
        else none
    else none
    else none
    else none
    else none
  else
    some (.inr (1, default, ()))
def ref02_convex (x : (List Spot)) : Bool :=
  let r0 : Nat × (Unit) × (Unit) := (iterO (ref02_convex_L0_step x) NN 0).getD default
  if r0.1 = 0 then
    false
  else
    true
def P_ref02_convex (x : (List Spot)) : Prop :=
  ((iterO (ref02_convex_L0_step x) NN 0).isSome = true) ∧ True
instance (x : (List Spot)) : Decidable (P_ref02_convex x) :=
  @instDecidableAnd _ _ (inferInstanceAs (Decidable ((iterO (ref02_convex_L0_step x) NN 0).isSome = true))) (instDecidableTrue)
def cmp_Compare_int64 (x : Int) (y : Int) : Int :=
  let r0 : Bool := cmp_isNaN_int64 x
  let r1 : Bool := cmp_isNaN_int64 y
  if r0 = true then
    if r1 = true then
      0
    else
      (-1)
  else
    if r1 = true then
      1
    else
      if x < y then
        (-1)
      else
        if x > y then
          1
        else
          0
def fixed_product (x : Int) (y : Int) : Exact :=
  let r0 : Exact := fixed_of x
  let r1 : Exact := fixed_of y
  let r2 : (Int × Int) := bits_Mul64 r0.w.w0 r1.w.w0
  ⟨(!(r0.neg == r1.neg)), ⟨r2.2, r2.1⟩⟩
def slices_IndexFunc_L0_step (x : (List Vec)) (s : Int) : Option ((Int) ⊕ (Nat × (Int) × (Unit))) :=
  if s < ((x.length : Nat) : Int) then
    if ((0 : Int) ≤ s ∧ s < ((x.length : Nat) : Int)) then
    let qr0 : Bool := plane_Fault_in1 (nth x s)
    if qr0 = true then
      some (.inr (0, s, default))
    else
      some (.inl (IntKind.i64.wrap (s + 1)))
    else none
  else
    some (.inr (1, default, ()))
def slices_IndexFunc (x : (List Vec)) : Int :=
  let r0 : Nat × (Int) × (Unit) := (iterO (slices_IndexFunc_L0_step x) NN 0).getD default
  if r0.1 = 0 then
    r0.2.1
  else
    (-1)
def P_slices_IndexFunc (x : (List Vec)) : Prop :=
  ((iterO (slices_IndexFunc_L0_step x) NN 0).isSome = true) ∧ True
instance (x : (List Vec)) : Decidable (P_slices_IndexFunc x) :=
  @instDecidableAnd _ _ (inferInstanceAs (Decidable ((iterO (slices_IndexFunc_L0_step x) NN 0).isSome = true))) (instDecidableTrue)
def bits_LeadingZeros64 (x : Int) : Int :=
  let r0 : Int := bits_Len64 x
  IntKind.i64.wrap (64 - r0)
def cmp_Compare_uint64 (x : Int) (y : Int) : Int :=
  let r0 : Bool := cmp_isNaN_uint64 x
  let r1 : Bool := cmp_isNaN_uint64 y
  if r0 = true then
    if r1 = true then
      0
    else
      (-1)
  else
    if r1 = true then
      1
    else
      if x < y then
        (-1)
      else
        if x > y then
          1
        else
          0
def plane_Of (x : Int) (y : Int) : Vec :=
  let r0 : Num := fixed_Int x
  let r1 : Num := fixed_Int y
  ⟨r0, r1⟩
def ref02_CheckShape_L0_step (x : Shape) (s : Int) : Option ((Int) ⊕ (Nat × (Unit) × (Unit))) :=
  if s < ((x.Pts.length : Nat) : Int) then
    if ((0 : Int) ≤ s ∧ s < ((x.Pts.length : Nat) : Int)) then
    let qr0 : Bool := ref02_near ((nth x.Pts s).X)
    if qr0 = true then
      let qr1 : Bool := ref02_near ((nth x.Pts s).Y)
      if qr1 = true then
        some (.inl (IntKind.i64.wrap (s + 1)))
      else
        some (.inr (0, (), default))
    else
      some (.inr (0, (), default))
    else none
  else
    some (.inr (1, default, ()))
def ref02_CheckShape (x : Shape) : Int :=
  if x.Kind = 1 then
    if x.W = 0 then
      if x.H = 0 then
        if ((x.Pts.length : Nat) : Int) > 0 then
          4
        else
          let r0 : Bool := ref02_sized x.R
          if r0 = true then
            0
          else
            3
      else
        4
    else
      4
  else
    if x.Kind = 2 then
      if x.R = 0 then
        if ((x.Pts.length : Nat) : Int) > 0 then
          4
        else
          let r0 : Bool := ref02_sized x.W
          if r0 = true then
            let r1 : Bool := ref02_sized x.H
            if r1 = true then
              0
            else
              3
          else
            3
      else
        4
    else
      if x.Kind = 3 then
        if x.R = 0 then
          if x.W = 0 then
            if x.H = 0 then
              if ((x.Pts.length : Nat) : Int) < 3 then
                4
              else
                if ((x.Pts.length : Nat) : Int) > 8 then
                  4
                else
                  let r0 : Nat × (Unit) × (Unit) := (iterO (ref02_CheckShape_L0_step x) NN 0).getD default
                  if r0.1 = 0 then
                    3
                  else
                    let r1 : Bool := ref02_convex x.Pts
                    if r1 = true then
                      0
                    else
                      5
            else
              4
          else
            4
        else
          4
      else
        8
def P_ref02_CheckShape (x : Shape) : Prop :=
  if x.Kind = 1 then
    True
  else
    if x.Kind = 2 then
      True
    else
      if x.Kind = 3 then
        if x.R = 0 then
          if x.W = 0 then
            if x.H = 0 then
              if ((x.Pts.length : Nat) : Int) < 3 then
                True
              else
                if ((x.Pts.length : Nat) : Int) > 8 then
                  True
                else
                  ((iterO (ref02_CheckShape_L0_step x) NN 0).isSome = true) ∧ (let r0 : Nat × (Unit) × (Unit) := (iterO (ref02_CheckShape_L0_step x) NN 0).getD default
                  if r0.1 = 0 then
                    True
                  else
                    (P_ref02_convex x.Pts) ∧ True)
            else
              True
          else
            True
        else
          True
      else
        True
instance (x : Shape) : Decidable (P_ref02_CheckShape x) :=
  iteDec (c := x.Kind = 1) (instDecidableTrue) (iteDec (c := x.Kind = 2) (instDecidableTrue) (iteDec (c := x.Kind = 3) (iteDec (c := x.R = 0) (iteDec (c := x.W = 0) (iteDec (c := x.H = 0) (iteDec (c := ((x.Pts.length : Nat) : Int) < 3) (instDecidableTrue) (iteDec (c := ((x.Pts.length : Nat) : Int) > 8) (instDecidableTrue) (@instDecidableAnd _ _ (inferInstanceAs (Decidable ((iterO (ref02_CheckShape_L0_step x) NN 0).isSome = true))) (let r0 : Nat × (Unit) × (Unit) := (iterO (ref02_CheckShape_L0_step x) NN 0).getD default
                  iteDec (c := r0.1 = 0) (instDecidableTrue) (@instDecidableAnd _ _ (inferInstanceAs (Decidable (P_ref02_convex x.Pts))) (instDecidableTrue)))))) (instDecidableTrue)) (instDecidableTrue)) (instDecidableTrue)) (instDecidableTrue)))
def ref02_Corners (x : Shape) : (List Spot) :=
  let r0 : Int := ref02_CheckShape x
  if r0 = 0 then
    if x.Kind = 2 then
      ([⟨IntKind.i64.wrap (0 - x.W), IntKind.i64.wrap (0 - x.H)⟩, ⟨x.W, IntKind.i64.wrap (0 - x.H)⟩, ⟨x.W, x.H⟩, ⟨IntKind.i64.wrap (0 - x.W), x.H⟩] : List Spot)
    else
      x.Pts
  else
    ([] : List Spot)
def P_ref02_Corners (x : Shape) : Prop :=
  let r0 : Int := ref02_CheckShape x
  (P_ref02_CheckShape x) ∧ (if r0 = 0 then
    if x.Kind = 2 then
      True
    else
      ((0 + x.Pts.length) * 16 ≤ 140737488355328) ∧ True
  else
    True)
instance (x : Shape) : Decidable (P_ref02_Corners x) :=
  let r0 : Int := ref02_CheckShape x
  @instDecidableAnd _ _ (inferInstanceAs (Decidable (P_ref02_CheckShape x))) (iteDec (c := r0 = 0) (iteDec (c := x.Kind = 2) (instDecidableTrue) (@instDecidableAnd _ _ (inferInstanceAs (Decidable ((0 + x.Pts.length) * 16 ≤ 140737488355328))) (instDecidableTrue))) (instDecidableTrue))
def K_ref02_Corners_0 (x : Shape) : Option Nat :=
  let r0 : Int := ref02_CheckShape x
  if r0 = 0 then
    if x.Kind = 2 then
      some 4
    else
      none
  else
    none
def ref02_Reach_L1_step (r2 : (List Spot)) (s : Int × Int) (si : Int) : Option ((Int) ⊕ (Int × Int × Int × Int × Int × Bool)) :=
  if ((0 : Int) ≤ s.2 ∧ s.2 < ((r2.length : Nat) : Int)) then
  let qir0 : Int := ref02_dot (nth r2 s.2) (nth r2 s.2)
  if IntKind.i64.wrap (si * si) < qir0 then
    some (.inl (IntKind.i64.wrap (si + 1)))
  else
    some (.inr (si, si, si, (IntKind.i64.wrap (si * si)), qir0, (decide (IntKind.i64.wrap (si * si) < qir0))))
  else none
def ref02_Reach_L0_step (r2 : (List Spot)) (s : Int × Int) : Option ((Int × Int) ⊕ (Int)) :=
  if s.2 < ((r2.length : Nat) : Int) then
    if (iterO (ref02_Reach_L1_step r2 s) NN s.1).isSome = true then
    let qr0 : Int × Int × Int × Int × Int × Bool := (iterO (ref02_Reach_L1_step r2 s) NN s.1).getD default
    some (.inl (qr0.1, (IntKind.i64.wrap (s.2 + 1))))
    else none
  else
    some (.inr s.1)
def ref02_Reach (x : Shape) : Int :=
  let r0 : Int := ref02_CheckShape x
  if r0 = 0 then
    let r2 : (List Spot) := ref02_Corners x
    let r3 : Int := (iterO (ref02_Reach_L0_step r2) NN (x.R, 0)).getD default
    r3
  else
    0
def P_ref02_Reach (x : Shape) : Prop :=
  let r0 : Int := ref02_CheckShape x
  (P_ref02_CheckShape x) ∧ (if r0 = 0 then
    let r2 : (List Spot) := ref02_Corners x
    (P_ref02_Corners x) ∧ (((iterO (ref02_Reach_L0_step r2) NN (x.R, 0)).isSome = true) ∧ True)
  else
    True)
instance (x : Shape) : Decidable (P_ref02_Reach x) :=
  let r0 : Int := ref02_CheckShape x
  @instDecidableAnd _ _ (inferInstanceAs (Decidable (P_ref02_CheckShape x))) (iteDec (c := r0 = 0) (let r2 : (List Spot) := ref02_Corners x
    @instDecidableAnd _ _ (inferInstanceAs (Decidable (P_ref02_Corners x))) (@instDecidableAnd _ _ (inferInstanceAs (Decidable ((iterO (ref02_Reach_L0_step r2) NN (x.R, 0)).isSome = true))) (instDecidableTrue))) (instDecidableTrue))
def slices_ContainsFunc (x : (List Vec)) : Bool :=
  let r0 : Int := slices_IndexFunc x
  decide (r0 ≥ 0)
def P_slices_ContainsFunc (x : (List Vec)) : Prop :=
  (P_slices_IndexFunc x) ∧ True
instance (x : (List Vec)) : Decidable (P_slices_ContainsFunc x) :=
  @instDecidableAnd _ _ (inferInstanceAs (Decidable (P_slices_IndexFunc x))) (instDecidableTrue)
def bits_Div64_L0_step (r0 : Int) (y : Int) (z : Int) (s : Int × Int) : Option ((Int × Int) ⊕ (Int × Int)) :=
  if s.1 ≥ 4294967296 then
    if IntKind.u64.wrap (s.2 + (IntKind.u64.wrap (z * 2 ^ (min (IntKind.u64.wrap r0).toNat 64))).fdiv 4294967296) ≥ 4294967296 then
      some (.inr ((IntKind.u64.wrap (s.1 - 1)), (IntKind.u64.wrap (s.2 + (IntKind.u64.wrap (z * 2 ^ (min (IntKind.u64.wrap r0).toNat 64))).fdiv 4294967296))))
    else
      some (.inl ((IntKind.u64.wrap (s.1 - 1)), (IntKind.u64.wrap (s.2 + (IntKind.u64.wrap (z * 2 ^ (min (IntKind.u64.wrap r0).toNat 64))).fdiv 4294967296))))
  else
    if IntKind.u64.wrap (s.1 * Go.bits .and .u64 (IntKind.u64.wrap (z * 2 ^ (min (IntKind.u64.wrap r0).toNat 64))) 4294967295) > IntKind.u64.wrap (IntKind.u64.wrap (4294967296 * s.2) + (IntKind.u64.wrap (y * 2 ^ (min (IntKind.u64.wrap r0).toNat 64))).fdiv 4294967296) then
      if IntKind.u64.wrap (s.2 + (IntKind.u64.wrap (z * 2 ^ (min (IntKind.u64.wrap r0).toNat 64))).fdiv 4294967296) ≥ 4294967296 then
        some (.inr ((IntKind.u64.wrap (s.1 - 1)), (IntKind.u64.wrap (s.2 + (IntKind.u64.wrap (z * 2 ^ (min (IntKind.u64.wrap r0).toNat 64))).fdiv 4294967296))))
      else
        some (.inl ((IntKind.u64.wrap (s.1 - 1)), (IntKind.u64.wrap (s.2 + (IntKind.u64.wrap (z * 2 ^ (min (IntKind.u64.wrap r0).toNat 64))).fdiv 4294967296))))
    else
      some (.inr (s.1, s.2))
def bits_Div64_L1_step (r0 : Int) (y : Int) (z : Int) (s : Int × Int) : Option ((Int × Int) ⊕ (Int)) :=
  if s.2 ≥ 4294967296 then
    if IntKind.u64.wrap (s.1 + (IntKind.u64.wrap (z * 2 ^ (min (IntKind.u64.wrap r0).toNat 64))).fdiv 4294967296) ≥ 4294967296 then
      some (.inr (IntKind.u64.wrap (s.2 - 1)))
    else
      some (.inl ((IntKind.u64.wrap (s.1 + (IntKind.u64.wrap (z * 2 ^ (min (IntKind.u64.wrap r0).toNat 64))).fdiv 4294967296)), (IntKind.u64.wrap (s.2 - 1))))
  else
    if IntKind.u64.wrap (s.2 * Go.bits .and .u64 (IntKind.u64.wrap (z * 2 ^ (min (IntKind.u64.wrap r0).toNat 64))) 4294967295) > IntKind.u64.wrap (IntKind.u64.wrap (4294967296 * s.1) + Go.bits .and .u64 (IntKind.u64.wrap (y * 2 ^ (min (IntKind.u64.wrap r0).toNat 64))) 4294967295) then
      if IntKind.u64.wrap (s.1 + (IntKind.u64.wrap (z * 2 ^ (min (IntKind.u64.wrap r0).toNat 64))).fdiv 4294967296) ≥ 4294967296 then
        some (.inr (IntKind.u64.wrap (s.2 - 1)))
      else
        some (.inl ((IntKind.u64.wrap (s.1 + (IntKind.u64.wrap (z * 2 ^ (min (IntKind.u64.wrap r0).toNat 64))).fdiv 4294967296)), (IntKind.u64.wrap (s.2 - 1))))
    else
      some (.inr s.2)
def bits_Div64 (x : Int) (y : Int) (z : Int) : (Int × Int) :=
  if x = 0 then
    ((IntKind.u64.wrap ((y).tdiv z)), ((y).tmod z))
  else
    let r0 : Int := bits_LeadingZeros64 z
    let r1 : Int × Int := (iterO (bits_Div64_L0_step r0 y z) NN ((IntKind.u64.wrap ((Go.bits .or .u64 (IntKind.u64.wrap (x * 2 ^ (min (IntKind.u64.wrap r0).toNat 64))) ((y).fdiv (2 ^ (min (IntKind.u64.wrap (64 - IntKind.u64.wrap r0)).toNat 64)))).tdiv ((IntKind.u64.wrap (z * 2 ^ (min (IntKind.u64.wrap r0).toNat 64))).fdiv 4294967296))), (IntKind.u64.wrap (Go.bits .or .u64 (IntKind.u64.wrap (x * 2 ^ (min (IntKind.u64.wrap r0).toNat 64))) ((y).fdiv (2 ^ (min (IntKind.u64.wrap (64 - IntKind.u64.wrap r0)).toNat 64))) - IntKind.u64.wrap (IntKind.u64.wrap ((Go.bits .or .u64 (IntKind.u64.wrap (x * 2 ^ (min (IntKind.u64.wrap r0).toNat 64))) ((y).fdiv (2 ^ (min (IntKind.u64.wrap (64 - IntKind.u64.wrap r0)).toNat 64)))).tdiv ((IntKind.u64.wrap (z * 2 ^ (min (IntKind.u64.wrap r0).toNat 64))).fdiv 4294967296)) * (IntKind.u64.wrap (z * 2 ^ (min (IntKind.u64.wrap r0).toNat 64))).fdiv 4294967296))))).getD default
    let r2 : Int := (iterO (bits_Div64_L1_step r0 y z) NN ((IntKind.u64.wrap (IntKind.u64.wrap (IntKind.u64.wrap (IntKind.u64.wrap (Go.bits .or .u64 (IntKind.u64.wrap (x * 2 ^ (min (IntKind.u64.wrap r0).toNat 64))) ((y).fdiv (2 ^ (min (IntKind.u64.wrap (64 - IntKind.u64.wrap r0)).toNat 64))) * 4294967296) + (IntKind.u64.wrap (y * 2 ^ (min (IntKind.u64.wrap r0).toNat 64))).fdiv 4294967296) - IntKind.u64.wrap (r1.1 * IntKind.u64.wrap (z * 2 ^ (min (IntKind.u64.wrap r0).toNat 64)))) - IntKind.u64.wrap (IntKind.u64.wrap ((IntKind.u64.wrap (IntKind.u64.wrap (IntKind.u64.wrap (Go.bits .or .u64 (IntKind.u64.wrap (x * 2 ^ (min (IntKind.u64.wrap r0).toNat 64))) ((y).fdiv (2 ^ (min (IntKind.u64.wrap (64 - IntKind.u64.wrap r0)).toNat 64))) * 4294967296) + (IntKind.u64.wrap (y * 2 ^ (min (IntKind.u64.wrap r0).toNat 64))).fdiv 4294967296) - IntKind.u64.wrap (r1.1 * IntKind.u64.wrap (z * 2 ^ (min (IntKind.u64.wrap r0).toNat 64))))).tdiv ((IntKind.u64.wrap (z * 2 ^ (min (IntKind.u64.wrap r0).toNat 64))).fdiv 4294967296)) * (IntKind.u64.wrap (z * 2 ^ (min (IntKind.u64.wrap r0).toNat 64))).fdiv 4294967296))), (IntKind.u64.wrap ((IntKind.u64.wrap (IntKind.u64.wrap (IntKind.u64.wrap (Go.bits .or .u64 (IntKind.u64.wrap (x * 2 ^ (min (IntKind.u64.wrap r0).toNat 64))) ((y).fdiv (2 ^ (min (IntKind.u64.wrap (64 - IntKind.u64.wrap r0)).toNat 64))) * 4294967296) + (IntKind.u64.wrap (y * 2 ^ (min (IntKind.u64.wrap r0).toNat 64))).fdiv 4294967296) - IntKind.u64.wrap (r1.1 * IntKind.u64.wrap (z * 2 ^ (min (IntKind.u64.wrap r0).toNat 64))))).tdiv ((IntKind.u64.wrap (z * 2 ^ (min (IntKind.u64.wrap r0).toNat 64))).fdiv 4294967296))))).getD default
    ((IntKind.u64.wrap (IntKind.u64.wrap (r1.1 * 4294967296) + r2)), ((IntKind.u64.wrap (IntKind.u64.wrap (IntKind.u64.wrap (IntKind.u64.wrap (IntKind.u64.wrap (IntKind.u64.wrap (Go.bits .or .u64 (IntKind.u64.wrap (x * 2 ^ (min (IntKind.u64.wrap r0).toNat 64))) ((y).fdiv (2 ^ (min (IntKind.u64.wrap (64 - IntKind.u64.wrap r0)).toNat 64))) * 4294967296) + (IntKind.u64.wrap (y * 2 ^ (min (IntKind.u64.wrap r0).toNat 64))).fdiv 4294967296) - IntKind.u64.wrap (r1.1 * IntKind.u64.wrap (z * 2 ^ (min (IntKind.u64.wrap r0).toNat 64)))) * 4294967296) + Go.bits .and .u64 (IntKind.u64.wrap (y * 2 ^ (min (IntKind.u64.wrap r0).toNat 64))) 4294967295) - IntKind.u64.wrap (r2 * IntKind.u64.wrap (z * 2 ^ (min (IntKind.u64.wrap r0).toNat 64))))).fdiv (2 ^ (min (IntKind.u64.wrap r0).toNat 64))))
def P_bits_Div64 (x : Int) (y : Int) (z : Int) : Prop :=
  (¬ (z = 0)) ∧ ((¬ (z ≤ x)) ∧ (if x = 0 then
    (z ≠ (0 : Int)) ∧ True
  else
    let r0 : Int := bits_LeadingZeros64 z
    ((IntKind.u64.wrap (z * 2 ^ (min (IntKind.u64.wrap r0).toNat 64))).fdiv 4294967296 ≠ (0 : Int)) ∧ (((iterO (bits_Div64_L0_step r0 y z) NN ((IntKind.u64.wrap ((Go.bits .or .u64 (IntKind.u64.wrap (x * 2 ^ (min (IntKind.u64.wrap r0).toNat 64))) ((y).fdiv (2 ^ (min (IntKind.u64.wrap (64 - IntKind.u64.wrap r0)).toNat 64)))).tdiv ((IntKind.u64.wrap (z * 2 ^ (min (IntKind.u64.wrap r0).toNat 64))).fdiv 4294967296))), (IntKind.u64.wrap (Go.bits .or .u64 (IntKind.u64.wrap (x * 2 ^ (min (IntKind.u64.wrap r0).toNat 64))) ((y).fdiv (2 ^ (min (IntKind.u64.wrap (64 - IntKind.u64.wrap r0)).toNat 64))) - IntKind.u64.wrap (IntKind.u64.wrap ((Go.bits .or .u64 (IntKind.u64.wrap (x * 2 ^ (min (IntKind.u64.wrap r0).toNat 64))) ((y).fdiv (2 ^ (min (IntKind.u64.wrap (64 - IntKind.u64.wrap r0)).toNat 64)))).tdiv ((IntKind.u64.wrap (z * 2 ^ (min (IntKind.u64.wrap r0).toNat 64))).fdiv 4294967296)) * (IntKind.u64.wrap (z * 2 ^ (min (IntKind.u64.wrap r0).toNat 64))).fdiv 4294967296))))).isSome = true) ∧ (let r1 : Int × Int := (iterO (bits_Div64_L0_step r0 y z) NN ((IntKind.u64.wrap ((Go.bits .or .u64 (IntKind.u64.wrap (x * 2 ^ (min (IntKind.u64.wrap r0).toNat 64))) ((y).fdiv (2 ^ (min (IntKind.u64.wrap (64 - IntKind.u64.wrap r0)).toNat 64)))).tdiv ((IntKind.u64.wrap (z * 2 ^ (min (IntKind.u64.wrap r0).toNat 64))).fdiv 4294967296))), (IntKind.u64.wrap (Go.bits .or .u64 (IntKind.u64.wrap (x * 2 ^ (min (IntKind.u64.wrap r0).toNat 64))) ((y).fdiv (2 ^ (min (IntKind.u64.wrap (64 - IntKind.u64.wrap r0)).toNat 64))) - IntKind.u64.wrap (IntKind.u64.wrap ((Go.bits .or .u64 (IntKind.u64.wrap (x * 2 ^ (min (IntKind.u64.wrap r0).toNat 64))) ((y).fdiv (2 ^ (min (IntKind.u64.wrap (64 - IntKind.u64.wrap r0)).toNat 64)))).tdiv ((IntKind.u64.wrap (z * 2 ^ (min (IntKind.u64.wrap r0).toNat 64))).fdiv 4294967296)) * (IntKind.u64.wrap (z * 2 ^ (min (IntKind.u64.wrap r0).toNat 64))).fdiv 4294967296))))).getD default
    ((iterO (bits_Div64_L1_step r0 y z) NN ((IntKind.u64.wrap (IntKind.u64.wrap (IntKind.u64.wrap (IntKind.u64.wrap (Go.bits .or .u64 (IntKind.u64.wrap (x * 2 ^ (min (IntKind.u64.wrap r0).toNat 64))) ((y).fdiv (2 ^ (min (IntKind.u64.wrap (64 - IntKind.u64.wrap r0)).toNat 64))) * 4294967296) + (IntKind.u64.wrap (y * 2 ^ (min (IntKind.u64.wrap r0).toNat 64))).fdiv 4294967296) - IntKind.u64.wrap (r1.1 * IntKind.u64.wrap (z * 2 ^ (min (IntKind.u64.wrap r0).toNat 64)))) - IntKind.u64.wrap (IntKind.u64.wrap ((IntKind.u64.wrap (IntKind.u64.wrap (IntKind.u64.wrap (Go.bits .or .u64 (IntKind.u64.wrap (x * 2 ^ (min (IntKind.u64.wrap r0).toNat 64))) ((y).fdiv (2 ^ (min (IntKind.u64.wrap (64 - IntKind.u64.wrap r0)).toNat 64))) * 4294967296) + (IntKind.u64.wrap (y * 2 ^ (min (IntKind.u64.wrap r0).toNat 64))).fdiv 4294967296) - IntKind.u64.wrap (r1.1 * IntKind.u64.wrap (z * 2 ^ (min (IntKind.u64.wrap r0).toNat 64))))).tdiv ((IntKind.u64.wrap (z * 2 ^ (min (IntKind.u64.wrap r0).toNat 64))).fdiv 4294967296)) * (IntKind.u64.wrap (z * 2 ^ (min (IntKind.u64.wrap r0).toNat 64))).fdiv 4294967296))), (IntKind.u64.wrap ((IntKind.u64.wrap (IntKind.u64.wrap (IntKind.u64.wrap (Go.bits .or .u64 (IntKind.u64.wrap (x * 2 ^ (min (IntKind.u64.wrap r0).toNat 64))) ((y).fdiv (2 ^ (min (IntKind.u64.wrap (64 - IntKind.u64.wrap r0)).toNat 64))) * 4294967296) + (IntKind.u64.wrap (y * 2 ^ (min (IntKind.u64.wrap r0).toNat 64))).fdiv 4294967296) - IntKind.u64.wrap (r1.1 * IntKind.u64.wrap (z * 2 ^ (min (IntKind.u64.wrap r0).toNat 64))))).tdiv ((IntKind.u64.wrap (z * 2 ^ (min (IntKind.u64.wrap r0).toNat 64))).fdiv 4294967296))))).isSome = true) ∧ True))))
instance (x : Int) (y : Int) (z : Int) : Decidable (P_bits_Div64 x y z) :=
  @instDecidableAnd _ _ (inferInstanceAs (Decidable (¬ (z = 0)))) (@instDecidableAnd _ _ (inferInstanceAs (Decidable (¬ (z ≤ x)))) (iteDec (c := x = 0) (@instDecidableAnd _ _ (inferInstanceAs (Decidable (z ≠ (0 : Int)))) (instDecidableTrue)) (let r0 : Int := bits_LeadingZeros64 z
    @instDecidableAnd _ _ (inferInstanceAs (Decidable ((IntKind.u64.wrap (z * 2 ^ (min (IntKind.u64.wrap r0).toNat 64))).fdiv 4294967296 ≠ (0 : Int)))) (@instDecidableAnd _ _ (inferInstanceAs (Decidable ((iterO (bits_Div64_L0_step r0 y z) NN ((IntKind.u64.wrap ((Go.bits .or .u64 (IntKind.u64.wrap (x * 2 ^ (min (IntKind.u64.wrap r0).toNat 64))) ((y).fdiv (2 ^ (min (IntKind.u64.wrap (64 - IntKind.u64.wrap r0)).toNat 64)))).tdiv ((IntKind.u64.wrap (z * 2 ^ (min (IntKind.u64.wrap r0).toNat 64))).fdiv 4294967296))), (IntKind.u64.wrap (Go.bits .or .u64 (IntKind.u64.wrap (x * 2 ^ (min (IntKind.u64.wrap r0).toNat 64))) ((y).fdiv (2 ^ (min (IntKind.u64.wrap (64 - IntKind.u64.wrap r0)).toNat 64))) - IntKind.u64.wrap (IntKind.u64.wrap ((Go.bits .or .u64 (IntKind.u64.wrap (x * 2 ^ (min (IntKind.u64.wrap r0).toNat 64))) ((y).fdiv (2 ^ (min (IntKind.u64.wrap (64 - IntKind.u64.wrap r0)).toNat 64)))).tdiv ((IntKind.u64.wrap (z * 2 ^ (min (IntKind.u64.wrap r0).toNat 64))).fdiv 4294967296)) * (IntKind.u64.wrap (z * 2 ^ (min (IntKind.u64.wrap r0).toNat 64))).fdiv 4294967296))))).isSome = true))) (let r1 : Int × Int := (iterO (bits_Div64_L0_step r0 y z) NN ((IntKind.u64.wrap ((Go.bits .or .u64 (IntKind.u64.wrap (x * 2 ^ (min (IntKind.u64.wrap r0).toNat 64))) ((y).fdiv (2 ^ (min (IntKind.u64.wrap (64 - IntKind.u64.wrap r0)).toNat 64)))).tdiv ((IntKind.u64.wrap (z * 2 ^ (min (IntKind.u64.wrap r0).toNat 64))).fdiv 4294967296))), (IntKind.u64.wrap (Go.bits .or .u64 (IntKind.u64.wrap (x * 2 ^ (min (IntKind.u64.wrap r0).toNat 64))) ((y).fdiv (2 ^ (min (IntKind.u64.wrap (64 - IntKind.u64.wrap r0)).toNat 64))) - IntKind.u64.wrap (IntKind.u64.wrap ((Go.bits .or .u64 (IntKind.u64.wrap (x * 2 ^ (min (IntKind.u64.wrap r0).toNat 64))) ((y).fdiv (2 ^ (min (IntKind.u64.wrap (64 - IntKind.u64.wrap r0)).toNat 64)))).tdiv ((IntKind.u64.wrap (z * 2 ^ (min (IntKind.u64.wrap r0).toNat 64))).fdiv 4294967296)) * (IntKind.u64.wrap (z * 2 ^ (min (IntKind.u64.wrap r0).toNat 64))).fdiv 4294967296))))).getD default
    @instDecidableAnd _ _ (inferInstanceAs (Decidable ((iterO (bits_Div64_L1_step r0 y z) NN ((IntKind.u64.wrap (IntKind.u64.wrap (IntKind.u64.wrap (IntKind.u64.wrap (Go.bits .or .u64 (IntKind.u64.wrap (x * 2 ^ (min (IntKind.u64.wrap r0).toNat 64))) ((y).fdiv (2 ^ (min (IntKind.u64.wrap (64 - IntKind.u64.wrap r0)).toNat 64))) * 4294967296) + (IntKind.u64.wrap (y * 2 ^ (min (IntKind.u64.wrap r0).toNat 64))).fdiv 4294967296) - IntKind.u64.wrap (r1.1 * IntKind.u64.wrap (z * 2 ^ (min (IntKind.u64.wrap r0).toNat 64)))) - IntKind.u64.wrap (IntKind.u64.wrap ((IntKind.u64.wrap (IntKind.u64.wrap (IntKind.u64.wrap (Go.bits .or .u64 (IntKind.u64.wrap (x * 2 ^ (min (IntKind.u64.wrap r0).toNat 64))) ((y).fdiv (2 ^ (min (IntKind.u64.wrap (64 - IntKind.u64.wrap r0)).toNat 64))) * 4294967296) + (IntKind.u64.wrap (y * 2 ^ (min (IntKind.u64.wrap r0).toNat 64))).fdiv 4294967296) - IntKind.u64.wrap (r1.1 * IntKind.u64.wrap (z * 2 ^ (min (IntKind.u64.wrap r0).toNat 64))))).tdiv ((IntKind.u64.wrap (z * 2 ^ (min (IntKind.u64.wrap r0).toNat 64))).fdiv 4294967296)) * (IntKind.u64.wrap (z * 2 ^ (min (IntKind.u64.wrap r0).toNat 64))).fdiv 4294967296))), (IntKind.u64.wrap ((IntKind.u64.wrap (IntKind.u64.wrap (IntKind.u64.wrap (Go.bits .or .u64 (IntKind.u64.wrap (x * 2 ^ (min (IntKind.u64.wrap r0).toNat 64))) ((y).fdiv (2 ^ (min (IntKind.u64.wrap (64 - IntKind.u64.wrap r0)).toNat 64))) * 4294967296) + (IntKind.u64.wrap (y * 2 ^ (min (IntKind.u64.wrap r0).toNat 64))).fdiv 4294967296) - IntKind.u64.wrap (r1.1 * IntKind.u64.wrap (z * 2 ^ (min (IntKind.u64.wrap r0).toNat 64))))).tdiv ((IntKind.u64.wrap (z * 2 ^ (min (IntKind.u64.wrap r0).toNat 64))).fdiv 4294967296))))).isSome = true))) (instDecidableTrue))))))
def fixed_words_root_L0_step (x : Words) (s : Int) : Option ((Int) ⊕ (Int)) :=
  if x.w1 ≥ s then
    some (.inr s)
  else
    let qr0 : (Int × Int) := bits_Div64 x.w1 x.w0 s
    if P_bits_Div64 x.w1 x.w0 s then
    if qr0.1 ≥ s then
      some (.inr s)
    else
      let qr1 : (Int × Int) := bits_Add64 s qr0.1 0
      some (.inl (Go.bits .or .u64 ((qr1.1).fdiv 2) (IntKind.u64.wrap (qr1.2 * 9223372036854775808))))
    else none
def fixed_words_root (x : Words) : Int :=
  if x.w1 = 0 then
    if x.w0 = 0 then
      0
    else
      let r0 : Int := bits_Len64 x.w0
      if IntKind.i64.wrap ((IntKind.i64.wrap (r0 + 1)).tdiv 2) < 64 then
        let r1 : Int := (iterO (fixed_words_root_L0_step x) NN (IntKind.u64.wrap (1 * 2 ^ (min (IntKind.i64.wrap ((IntKind.i64.wrap (r0 + 1)).tdiv 2)).toNat 64)))).getD default
        r1
      else
        let r1 : Int := (iterO (fixed_words_root_L0_step x) NN 18446744073709551615).getD default
        r1
  else
    let r1 : Int := bits_Len64 x.w1
    if IntKind.i64.wrap ((IntKind.i64.wrap (IntKind.i64.wrap (64 + r1) + 1)).tdiv 2) < 64 then
      let r2 : Int := (iterO (fixed_words_root_L0_step x) NN (IntKind.u64.wrap (1 * 2 ^ (min (IntKind.i64.wrap ((IntKind.i64.wrap (IntKind.i64.wrap (64 + r1) + 1)).tdiv 2)).toNat 64)))).getD default
      r2
    else
      let r2 : Int := (iterO (fixed_words_root_L0_step x) NN 18446744073709551615).getD default
      r2
def P_fixed_words_root (x : Words) : Prop :=
  if x.w1 = 0 then
    if x.w0 = 0 then
      True
    else
      let r0 : Int := bits_Len64 x.w0
      if IntKind.i64.wrap ((IntKind.i64.wrap (r0 + 1)).tdiv 2) < 64 then
        ((0 : Int) ≤ IntKind.i64.wrap ((IntKind.i64.wrap (r0 + 1)).tdiv 2)) ∧ (((iterO (fixed_words_root_L0_step x) NN (IntKind.u64.wrap (1 * 2 ^ (min (IntKind.i64.wrap ((IntKind.i64.wrap (r0 + 1)).tdiv 2)).toNat 64)))).isSome = true) ∧ True)
      else
        ((iterO (fixed_words_root_L0_step x) NN 18446744073709551615).isSome = true) ∧ True
  else
    let r1 : Int := bits_Len64 x.w1
    if IntKind.i64.wrap ((IntKind.i64.wrap (IntKind.i64.wrap (64 + r1) + 1)).tdiv 2) < 64 then
      ((0 : Int) ≤ IntKind.i64.wrap ((IntKind.i64.wrap (IntKind.i64.wrap (64 + r1) + 1)).tdiv 2)) ∧ (((iterO (fixed_words_root_L0_step x) NN (IntKind.u64.wrap (1 * 2 ^ (min (IntKind.i64.wrap ((IntKind.i64.wrap (IntKind.i64.wrap (64 + r1) + 1)).tdiv 2)).toNat 64)))).isSome = true) ∧ True)
    else
      ((iterO (fixed_words_root_L0_step x) NN 18446744073709551615).isSome = true) ∧ True
instance (x : Words) : Decidable (P_fixed_words_root x) :=
  iteDec (c := x.w1 = 0) (iteDec (c := x.w0 = 0) (instDecidableTrue) (let r0 : Int := bits_Len64 x.w0
      iteDec (c := IntKind.i64.wrap ((IntKind.i64.wrap (r0 + 1)).tdiv 2) < 64) (@instDecidableAnd _ _ (inferInstanceAs (Decidable ((0 : Int) ≤ IntKind.i64.wrap ((IntKind.i64.wrap (r0 + 1)).tdiv 2)))) (@instDecidableAnd _ _ (inferInstanceAs (Decidable ((iterO (fixed_words_root_L0_step x) NN (IntKind.u64.wrap (1 * 2 ^ (min (IntKind.i64.wrap ((IntKind.i64.wrap (r0 + 1)).tdiv 2)).toNat 64)))).isSome = true))) (instDecidableTrue))) (@instDecidableAnd _ _ (inferInstanceAs (Decidable ((iterO (fixed_words_root_L0_step x) NN 18446744073709551615).isSome = true))) (instDecidableTrue)))) (let r1 : Int := bits_Len64 x.w1
    iteDec (c := IntKind.i64.wrap ((IntKind.i64.wrap (IntKind.i64.wrap (64 + r1) + 1)).tdiv 2) < 64) (@instDecidableAnd _ _ (inferInstanceAs (Decidable ((0 : Int) ≤ IntKind.i64.wrap ((IntKind.i64.wrap (IntKind.i64.wrap (64 + r1) + 1)).tdiv 2)))) (@instDecidableAnd _ _ (inferInstanceAs (Decidable ((iterO (fixed_words_root_L0_step x) NN (IntKind.u64.wrap (1 * 2 ^ (min (IntKind.i64.wrap ((IntKind.i64.wrap (IntKind.i64.wrap (64 + r1) + 1)).tdiv 2)).toNat 64)))).isSome = true))) (instDecidableTrue))) (@instDecidableAnd _ _ (inferInstanceAs (Decidable ((iterO (fixed_words_root_L0_step x) NN 18446744073709551615).isSome = true))) (instDecidableTrue)))
def fixed_words_compare (x : Words) (y : Words) : Int :=
  let r0 : Int := cmp_Compare_uint64 x.w1 y.w1
  let r1 : Int := cmp_Compare_uint64 x.w0 y.w0
  let r2 : Int := cmp_Or_int ([r0, r1] : List Int)
  r2
def P_fixed_words_compare (x : Words) (y : Words) : Prop :=
  let r0 : Int := cmp_Compare_uint64 x.w1 y.w1
  let r1 : Int := cmp_Compare_uint64 x.w0 y.w0
  (P_cmp_Or_int ([r0, r1] : List Int)) ∧ True
instance (x : Words) (y : Words) : Decidable (P_fixed_words_compare x y) :=
  let r0 : Int := cmp_Compare_uint64 x.w1 y.w1
  let r1 : Int := cmp_Compare_uint64 x.w0 y.w0
  @instDecidableAnd _ _ (inferInstanceAs (Decidable (P_cmp_Or_int ([r0, r1] : List Int)))) (instDecidableTrue)
def plane_Fault (x : (List Vec)) : Bool :=
  let r0 : Bool := slices_ContainsFunc x
  r0
def P_plane_Fault (x : (List Vec)) : Prop :=
  (P_slices_ContainsFunc x) ∧ True
instance (x : (List Vec)) : Decidable (P_plane_Fault x) :=
  @instDecidableAnd _ _ (inferInstanceAs (Decidable (P_slices_ContainsFunc x))) (instDecidableTrue)
def fixed_Ratio (x : Int) (y : Int) : Num :=
  if y = 0 then
    let r0 : Int := cmp_Compare_int64 x 0
    ⟨IntKind.i64.wrap (r0 * 9223372036854775807), true⟩
  else
    let r0 : Exact := fixed_of x
    let r1 : Exact := fixed_exact_up r0
    let r2 : Exact := fixed_of y
    let r3 : (Int × Int) := bits_Div64 ((r1.w.w1).tmod r2.w.w0) r1.w.w0 r2.w.w0
    let r4 : Num := fixed_exact_fit (⟨(!(r1.neg == r2.neg)), ⟨r3.1, IntKind.u64.wrap ((r1.w.w1).tdiv r2.w.w0)⟩⟩ : Exact) false
    r4
def P_fixed_Ratio (x : Int) (y : Int) : Prop :=
  if y = 0 then
    True
  else
    let r0 : Exact := fixed_of x
    let r1 : Exact := fixed_exact_up r0
    let r2 : Exact := fixed_of y
    (r2.w.w0 ≠ (0 : Int)) ∧ ((P_bits_Div64 ((r1.w.w1).tmod r2.w.w0) r1.w.w0 r2.w.w0) ∧ True)
instance (x : Int) (y : Int) : Decidable (P_fixed_Ratio x y) :=
  iteDec (c := y = 0) (instDecidableTrue) (let r0 : Exact := fixed_of x
    let r1 : Exact := fixed_exact_up r0
    let r2 : Exact := fixed_of y
    @instDecidableAnd _ _ (inferInstanceAs (Decidable (r2.w.w0 ≠ (0 : Int)))) (@instDecidableAnd _ _ (inferInstanceAs (Decidable (P_bits_Div64 ((r1.w.w1).tmod r2.w.w0) r1.w.w0 r2.w.w0))) (instDecidableTrue)))
def fixed_exact_plus (x : Exact) (y : Exact) : Exact :=
  if x.neg = y.neg then
    let r0 : (Int × Int) := bits_Add64 x.w.w0 y.w.w0 0
    let r1 : (Int × Int) := bits_Add64 x.w.w1 y.w.w1 r0.2
    ⟨x.neg, ⟨r0.1, r1.1⟩⟩
  else
    let r0 : Int := fixed_words_compare x.w y.w
    if r0 < 0 then
      let r1 : (Int × Int) := bits_Sub64 y.w.w0 x.w.w0 0
      let r2 : (Int × Int) := bits_Sub64 y.w.w1 x.w.w1 r1.2
      ⟨y.neg, ⟨r1.1, r2.1⟩⟩
    else
      let r1 : (Int × Int) := bits_Sub64 x.w.w0 y.w.w0 0
      let r2 : (Int × Int) := bits_Sub64 x.w.w1 y.w.w1 r1.2
      ⟨x.neg, ⟨r1.1, r2.1⟩⟩
def P_fixed_exact_plus (x : Exact) (y : Exact) : Prop :=
  if x.neg = y.neg then
    let r0 : (Int × Int) := bits_Add64 x.w.w0 y.w.w0 0
    (P_carry x.w.w1 y.w.w1 r0.2) ∧ True
  else
    (P_fixed_words_compare x.w y.w) ∧ True
instance (x : Exact) (y : Exact) : Decidable (P_fixed_exact_plus x y) :=
  iteDec (c := x.neg = y.neg) (let r0 : (Int × Int) := bits_Add64 x.w.w0 y.w.w0 0
    @instDecidableAnd _ _ (inferInstanceAs (Decidable (P_carry x.w.w1 y.w.w1 r0.2))) (instDecidableTrue)) (@instDecidableAnd _ _ (inferInstanceAs (Decidable (P_fixed_words_compare x.w y.w))) (instDecidableTrue))
def fixed_Div (x : Num) (y : Num) : Num :=
  let r0 : Num := fixed_sound x
  let r1 : Num := fixed_sound y
  let r2 : Num := fixed_Ratio r0.V r1.V
  if r2.F = true then
    ⟨r2.V, true⟩
  else
    let r3 : Bool := fixed_flags ([r0, r1] : List Num)
    ⟨r2.V, r3⟩
def P_fixed_Div (x : Num) (y : Num) : Prop :=
  let r0 : Num := fixed_sound x
  let r1 : Num := fixed_sound y
  let r2 : Num := fixed_Ratio r0.V r1.V
  (P_fixed_Ratio r0.V r1.V) ∧ (if r2.F = true then
    True
  else
    (P_fixed_flags ([r0, r1] : List Num)) ∧ True)
instance (x : Num) (y : Num) : Decidable (P_fixed_Div x y) :=
  let r0 : Num := fixed_sound x
  let r1 : Num := fixed_sound y
  let r2 : Num := fixed_Ratio r0.V r1.V
  @instDecidableAnd _ _ (inferInstanceAs (Decidable (P_fixed_Ratio r0.V r1.V))) (iteDec (c := r2.F = true) (instDecidableTrue) (@instDecidableAnd _ _ (inferInstanceAs (Decidable (P_fixed_flags ([r0, r1] : List Num)))) (instDecidableTrue)))
def fixed_Hypot (x : Num) (y : Num) : Num :=
  let r0 : Num := fixed_sound x
  let r1 : Num := fixed_sound y
  let r2 : Exact := fixed_product r0.V r0.V
  let r3 : Exact := fixed_product r1.V r1.V
  let r4 : Exact := fixed_exact_plus r2 r3
  let r5 : Int := fixed_words_root r4.w
  let r6 : Bool := fixed_flags ([r0, r1] : List Num)
  let r7 : Num := fixed_exact_fit (⟨false, ⟨r5, 0⟩⟩ : Exact) r6
  r7
def P_fixed_Hypot (x : Num) (y : Num) : Prop :=
  let r0 : Num := fixed_sound x
  let r1 : Num := fixed_sound y
  let r2 : Exact := fixed_product r0.V r0.V
  let r3 : Exact := fixed_product r1.V r1.V
  let r4 : Exact := fixed_exact_plus r2 r3
  (P_fixed_exact_plus r2 r3) ∧ ((P_fixed_words_root r4.w) ∧ ((P_fixed_flags ([r0, r1] : List Num)) ∧ True))
instance (x : Num) (y : Num) : Decidable (P_fixed_Hypot x y) :=
  let r0 : Num := fixed_sound x
  let r1 : Num := fixed_sound y
  let r2 : Exact := fixed_product r0.V r0.V
  let r3 : Exact := fixed_product r1.V r1.V
  let r4 : Exact := fixed_exact_plus r2 r3
  @instDecidableAnd _ _ (inferInstanceAs (Decidable (P_fixed_exact_plus r2 r3))) (@instDecidableAnd _ _ (inferInstanceAs (Decidable (P_fixed_words_root r4.w))) (@instDecidableAnd _ _ (inferInstanceAs (Decidable (P_fixed_flags ([r0, r1] : List Num)))) (instDecidableTrue)))
def plane_Len (x : Vec) : Num :=
  let r0 : Num := fixed_Hypot x.X x.Y
  r0
def P_plane_Len (x : Vec) : Prop :=
  (P_fixed_Hypot x.X x.Y) ∧ True
instance (x : Vec) : Decidable (P_plane_Len x) :=
  @instDecidableAnd _ _ (inferInstanceAs (Decidable (P_fixed_Hypot x.X x.Y))) (instDecidableTrue)
def plane_Unit (x : Vec) : (Vec × Bool) :=
  let r0 : Bool := plane_Fault ([x] : List Vec)
  if r0 = true then
    ((⟨⟨0, false⟩, ⟨0, false⟩⟩ : Vec), false)
  else
    if max (max (max x.X.V (IntKind.i64.wrap (0 - x.X.V))) x.Y.V) (IntKind.i64.wrap (0 - x.Y.V)) < 16777216 then
      let r1 : Num := plane_Len (⟨⟨IntKind.i64.wrap (x.X.V * 16777216), x.X.F⟩, ⟨IntKind.i64.wrap (x.Y.V * 16777216), x.Y.F⟩⟩ : Vec)
      if r1.F = true then
        ((⟨⟨0, false⟩, ⟨0, false⟩⟩ : Vec), false)
      else
        if r1.V = 0 then
          ((⟨⟨0, false⟩, ⟨0, false⟩⟩ : Vec), false)
        else
          let r2 : Num := fixed_Div (⟨IntKind.i64.wrap (x.X.V * 16777216), x.X.F⟩ : Num) r1
          let r3 : Num := fixed_Div (⟨IntKind.i64.wrap (x.Y.V * 16777216), x.Y.F⟩ : Num) r1
          ((⟨r2, r3⟩ : Vec), true)
    else
      let r1 : Num := plane_Len x
      if r1.F = true then
        ((⟨⟨0, false⟩, ⟨0, false⟩⟩ : Vec), false)
      else
        if r1.V = 0 then
          ((⟨⟨0, false⟩, ⟨0, false⟩⟩ : Vec), false)
        else
          let r2 : Num := fixed_Div x.X r1
          let r3 : Num := fixed_Div x.Y r1
          ((⟨r2, r3⟩ : Vec), true)
def P_plane_Unit (x : Vec) : Prop :=
  let r0 : Bool := plane_Fault ([x] : List Vec)
  (P_plane_Fault ([x] : List Vec)) ∧ (if r0 = true then
    True
  else
    if max (max (max x.X.V (IntKind.i64.wrap (0 - x.X.V))) x.Y.V) (IntKind.i64.wrap (0 - x.Y.V)) < 16777216 then
      let r1 : Num := plane_Len (⟨⟨IntKind.i64.wrap (x.X.V * 16777216), x.X.F⟩, ⟨IntKind.i64.wrap (x.Y.V * 16777216), x.Y.F⟩⟩ : Vec)
      (P_plane_Len (⟨⟨IntKind.i64.wrap (x.X.V * 16777216), x.X.F⟩, ⟨IntKind.i64.wrap (x.Y.V * 16777216), x.Y.F⟩⟩ : Vec)) ∧ (if r1.F = true then
        True
      else
        if r1.V = 0 then
          True
        else
          (P_fixed_Div (⟨IntKind.i64.wrap (x.X.V * 16777216), x.X.F⟩ : Num) r1) ∧ ((P_fixed_Div (⟨IntKind.i64.wrap (x.Y.V * 16777216), x.Y.F⟩ : Num) r1) ∧ True))
    else
      let r1 : Num := plane_Len x
      (P_plane_Len x) ∧ (if r1.F = true then
        True
      else
        if r1.V = 0 then
          True
        else
          (P_fixed_Div x.X r1) ∧ ((P_fixed_Div x.Y r1) ∧ True)))
instance (x : Vec) : Decidable (P_plane_Unit x) :=
  let r0 : Bool := plane_Fault ([x] : List Vec)
  @instDecidableAnd _ _ (inferInstanceAs (Decidable (P_plane_Fault ([x] : List Vec)))) (iteDec (c := r0 = true) (instDecidableTrue) (iteDec (c := max (max (max x.X.V (IntKind.i64.wrap (0 - x.X.V))) x.Y.V) (IntKind.i64.wrap (0 - x.Y.V)) < 16777216) (let r1 : Num := plane_Len (⟨⟨IntKind.i64.wrap (x.X.V * 16777216), x.X.F⟩, ⟨IntKind.i64.wrap (x.Y.V * 16777216), x.Y.F⟩⟩ : Vec)
      @instDecidableAnd _ _ (inferInstanceAs (Decidable (P_plane_Len (⟨⟨IntKind.i64.wrap (x.X.V * 16777216), x.X.F⟩, ⟨IntKind.i64.wrap (x.Y.V * 16777216), x.Y.F⟩⟩ : Vec)))) (iteDec (c := r1.F = true) (instDecidableTrue) (iteDec (c := r1.V = 0) (instDecidableTrue) (@instDecidableAnd _ _ (inferInstanceAs (Decidable (P_fixed_Div (⟨IntKind.i64.wrap (x.X.V * 16777216), x.X.F⟩ : Num) r1))) (@instDecidableAnd _ _ (inferInstanceAs (Decidable (P_fixed_Div (⟨IntKind.i64.wrap (x.Y.V * 16777216), x.Y.F⟩ : Num) r1))) (instDecidableTrue)))))) (let r1 : Num := plane_Len x
      @instDecidableAnd _ _ (inferInstanceAs (Decidable (P_plane_Len x))) (iteDec (c := r1.F = true) (instDecidableTrue) (iteDec (c := r1.V = 0) (instDecidableTrue) (@instDecidableAnd _ _ (inferInstanceAs (Decidable (P_fixed_Div x.X r1))) (@instDecidableAnd _ _ (inferInstanceAs (Decidable (P_fixed_Div x.Y r1))) (instDecidableTrue))))))))
def sx (l : List Spot) (j : Nat) : Int := (l.getD j default).X
def sy (l : List Spot) (j : Nat) : Int := (l.getD j default).Y
def plane_convex_R_L0_step (i : Nat) (ls : List Spot) (qr0 : Spot) (si : Int) : Option ((Int) ⊕ (Nat × (Unit) × (Unit))) :=
  if si < ((ls.length : Nat) : Int) then
    if ((0 : Int) ≤ si ∧ si < ((ls.length : Nat) : Int)) then
    if si = ((i : Nat) : Int) then
      some (.inl (IntKind.i64.wrap (si + 1)))
    else
      if ((ls.length : Nat) : Int) ≠ (0 : Int) then
      if si = (IntKind.i64.wrap (((i : Nat) : Int) + 1)).tmod ((ls.length : Nat) : Int) then
        some (.inl (IntKind.i64.wrap (si + 1)))
      else
        let qir0 : Spot := plane_spot_minus (nth ls si) (⟨sx ls i, sy ls i⟩ : Spot)
        let qir1 : Int := plane_spot_cross qr0 qir0
        if qir1 ≤ 0 then
          some (.inr (0, (), default))
        else
          some (.inl (IntKind.i64.wrap (si + 1)))
      else none
    else none
  else
    some (.inr (1, default, ()))
def plane_convex_R_ok (ls : List Spot) (i : Nat) : Bool :=
  let qr0 : Spot := plane_spot_minus (⟨sx ls ((i + 1) % ls.length), sy ls ((i + 1) % ls.length)⟩ : Spot) (⟨sx ls i, sy ls i⟩ : Spot)
  let qr1 : Spot := plane_spot_minus (⟨sx ls ((i + 2) % ls.length), sy ls ((i + 2) % ls.length)⟩ : Spot) (⟨sx ls ((i + 1) % ls.length), sy ls ((i + 1) % ls.length)⟩ : Spot)
  let qr2 : Int := plane_spot_cross (⟨sx ls i, sy ls i⟩ : Spot) (⟨sx ls ((i + 1) % ls.length), sy ls ((i + 1) % ls.length)⟩ : Spot)
  if qr2 ≤ 0 then
    false
  else
    let qr3 : Int := plane_spot_cross qr0 qr1
    let qr4 : Int := plane_spot_span qr0
    let qr5 : Int := plane_spot_span qr1
    if qr3 < IntKind.i64.wrap (4 * IntKind.i64.wrap (qr4 + qr5)) then
      false
    else
      let qr6 : Nat × (Unit) × (Unit) := (iterO (plane_convex_R_L0_step i ls qr0) NN 0).getD default
      if qr6.1 = 0 then
        false
      else
        true
def plane_convex_R_P (ls : List Spot) (i : Nat) : Prop :=
  let qr0 : Spot := plane_spot_minus (⟨sx ls ((i + 1) % ls.length), sy ls ((i + 1) % ls.length)⟩ : Spot) (⟨sx ls i, sy ls i⟩ : Spot)
  let qr1 : Spot := plane_spot_minus (⟨sx ls ((i + 2) % ls.length), sy ls ((i + 2) % ls.length)⟩ : Spot) (⟨sx ls ((i + 1) % ls.length), sy ls ((i + 1) % ls.length)⟩ : Spot)
  let qr2 : Int := plane_spot_cross (⟨sx ls i, sy ls i⟩ : Spot) (⟨sx ls ((i + 1) % ls.length), sy ls ((i + 1) % ls.length)⟩ : Spot)
  if qr2 ≤ 0 then
    True
  else
    let qr3 : Int := plane_spot_cross qr0 qr1
    let qr4 : Int := plane_spot_span qr0
    let qr5 : Int := plane_spot_span qr1
    if qr3 < IntKind.i64.wrap (4 * IntKind.i64.wrap (qr4 + qr5)) then
      True
    else
      ((iterO (plane_convex_R_L0_step i ls qr0) NN 0).isSome = true) ∧ True
instance (ls : List Spot) (i : Nat) : Decidable (plane_convex_R_P ls i) :=
  let qr0 : Spot := plane_spot_minus (⟨sx ls ((i + 1) % ls.length), sy ls ((i + 1) % ls.length)⟩ : Spot) (⟨sx ls i, sy ls i⟩ : Spot)
  let qr1 : Spot := plane_spot_minus (⟨sx ls ((i + 2) % ls.length), sy ls ((i + 2) % ls.length)⟩ : Spot) (⟨sx ls ((i + 1) % ls.length), sy ls ((i + 1) % ls.length)⟩ : Spot)
  let qr2 : Int := plane_spot_cross (⟨sx ls i, sy ls i⟩ : Spot) (⟨sx ls ((i + 1) % ls.length), sy ls ((i + 1) % ls.length)⟩ : Spot)
  iteDec (c := qr2 ≤ 0) (instDecidableTrue) (let qr3 : Int := plane_spot_cross qr0 qr1
    let qr4 : Int := plane_spot_span qr0
    let qr5 : Int := plane_spot_span qr1
    iteDec (c := qr3 < IntKind.i64.wrap (4 * IntKind.i64.wrap (qr4 + qr5))) (instDecidableTrue) (@instDecidableAnd _ _ (inferInstanceAs (Decidable ((iterO (plane_convex_R_L0_step i ls qr0) NN 0).isSome = true))) (instDecidableTrue)))
def plane_convex (x : (List Spot)) : Bool :=
  if (List.range x.length).all (fun i => plane_convex_R_ok x i) = true then
    true
  else
    false
def P_plane_convex (x : (List Spot)) : Prop :=
  (x.length ≤ 1000) ∧ ((∀ i, i < x.length → plane_convex_R_P x i) ∧ True)
instance (x : (List Spot)) : Decidable (P_plane_convex x) :=
  @instDecidableAnd _ _ (inferInstanceAs (Decidable (x.length ≤ 1000))) (@instDecidableAnd _ _ (inferInstanceAs (Decidable (∀ i, i < x.length → plane_convex_R_P x i))) (instDecidableTrue))
def plane_CheckShape_L0_step (x : Shape) (s : Int) : Option ((Int) ⊕ (Nat × (Unit) × (Unit))) :=
  if s < ((x.Pts.length : Nat) : Int) then
    if ((0 : Int) ≤ s ∧ s < ((x.Pts.length : Nat) : Int)) then
    if max ((nth x.Pts s).X) ((nth x.Pts s).Y) > 4096 then
      some (.inr (0, (), default))
    else
      if min ((nth x.Pts s).X) ((nth x.Pts s).Y) < (-4096) then
        some (.inr (0, (), default))
      else
        some (.inl (IntKind.i64.wrap (s + 1)))
    else none
  else
    some (.inr (1, default, ()))
def plane_CheckShape (x : Shape) : Int :=
  if x.Kind = 1 then
    if x.W = 0 then
      if x.H = 0 then
        if ((x.Pts.length : Nat) : Int) = 0 then
          let r0 : Bool := plane_size x.R
          if r0 = true then
            0
          else
            3
        else
          4
      else
        4
    else
      4
  else
    if x.Kind = 2 then
      if x.R = 0 then
        if ((x.Pts.length : Nat) : Int) = 0 then
          let r0 : Bool := plane_size x.W
          if r0 = true then
            let r1 : Bool := plane_size x.H
            if r1 = true then
              0
            else
              3
          else
            3
        else
          4
      else
        4
    else
      if x.Kind = 3 then
        if x.R = 0 then
          if x.W = 0 then
            if x.H = 0 then
              if ((x.Pts.length : Nat) : Int) < 3 then
                4
              else
                if ((x.Pts.length : Nat) : Int) > 8 then
                  4
                else
                  let r0 : Nat × (Unit) × (Unit) := (iterO (plane_CheckShape_L0_step x) NN 0).getD default
                  if r0.1 = 0 then
                    3
                  else
                    let r1 : Bool := plane_convex x.Pts
                    if r1 = true then
                      0
                    else
                      5
            else
              4
          else
            4
        else
          4
      else
        8
def P_plane_CheckShape (x : Shape) : Prop :=
  if x.Kind = 1 then
    True
  else
    if x.Kind = 2 then
      True
    else
      if x.Kind = 3 then
        if x.R = 0 then
          if x.W = 0 then
            if x.H = 0 then
              if ((x.Pts.length : Nat) : Int) < 3 then
                True
              else
                if ((x.Pts.length : Nat) : Int) > 8 then
                  True
                else
                  ((iterO (plane_CheckShape_L0_step x) NN 0).isSome = true) ∧ (let r0 : Nat × (Unit) × (Unit) := (iterO (plane_CheckShape_L0_step x) NN 0).getD default
                  if r0.1 = 0 then
                    True
                  else
                    (P_plane_convex x.Pts) ∧ True)
            else
              True
          else
            True
        else
          True
      else
        True
instance (x : Shape) : Decidable (P_plane_CheckShape x) :=
  iteDec (c := x.Kind = 1) (instDecidableTrue) (iteDec (c := x.Kind = 2) (instDecidableTrue) (iteDec (c := x.Kind = 3) (iteDec (c := x.R = 0) (iteDec (c := x.W = 0) (iteDec (c := x.H = 0) (iteDec (c := ((x.Pts.length : Nat) : Int) < 3) (instDecidableTrue) (iteDec (c := ((x.Pts.length : Nat) : Int) > 8) (instDecidableTrue) (@instDecidableAnd _ _ (inferInstanceAs (Decidable ((iterO (plane_CheckShape_L0_step x) NN 0).isSome = true))) (let r0 : Nat × (Unit) × (Unit) := (iterO (plane_CheckShape_L0_step x) NN 0).getD default
                  iteDec (c := r0.1 = 0) (instDecidableTrue) (@instDecidableAnd _ _ (inferInstanceAs (Decidable (P_plane_convex x.Pts))) (instDecidableTrue)))))) (instDecidableTrue)) (instDecidableTrue)) (instDecidableTrue)) (instDecidableTrue)))
def plane_Corners (x : Shape) : (List Spot) :=
  let r0 : Int := plane_CheckShape x
  if r0 = 0 then
    if x.Kind = 2 then
      ([⟨IntKind.i64.wrap (0 - x.W), IntKind.i64.wrap (0 - x.H)⟩, ⟨x.W, IntKind.i64.wrap (0 - x.H)⟩, ⟨x.W, x.H⟩, ⟨IntKind.i64.wrap (0 - x.W), x.H⟩] : List Spot)
    else
      x.Pts
  else
    ([] : List Spot)
def P_plane_Corners (x : Shape) : Prop :=
  let r0 : Int := plane_CheckShape x
  (P_plane_CheckShape x) ∧ (if r0 = 0 then
    if x.Kind = 2 then
      True
    else
      (x.Pts.length * 16 ≤ 140737488355328) ∧ True
  else
    True)
instance (x : Shape) : Decidable (P_plane_Corners x) :=
  let r0 : Int := plane_CheckShape x
  @instDecidableAnd _ _ (inferInstanceAs (Decidable (P_plane_CheckShape x))) (iteDec (c := r0 = 0) (iteDec (c := x.Kind = 2) (instDecidableTrue) (@instDecidableAnd _ _ (inferInstanceAs (Decidable (x.Pts.length * 16 ≤ 140737488355328))) (instDecidableTrue))) (instDecidableTrue))
def K_plane_Corners_0 (x : Shape) : Option Nat :=
  let r0 : Int := plane_CheckShape x
  if r0 = 0 then
    if x.Kind = 2 then
      some 4
    else
      none
  else
    none
def plane_sound (x : Shape) : (Shape × Int) :=
  let r0 : Int := plane_CheckShape x
  if r0 = 0 then
    (x, 0)
  else
    ((⟨0, 0, 0, 0, ([] : List Spot)⟩ : Shape), r0)
def P_plane_sound (x : Shape) : Prop :=
  (P_plane_CheckShape x) ∧ True
instance (x : Shape) : Decidable (P_plane_sound x) :=
  @instDecidableAnd _ _ (inferInstanceAs (Decidable (P_plane_CheckShape x))) (instDecidableTrue)
def V_plane_sound (x : Shape) : Bool :=
  let r0 : Int := plane_CheckShape x
  if r0 = 0 then
    true
  else
    false
def plane_Square (x : Int) (y : Int) : (Shape × Int) :=
  if V_plane_sound (⟨2, 0, x, y, ([] : List Spot)⟩ : Shape) = true then
    let r0 : (Shape × Int) := plane_sound (⟨2, 0, x, y, ([] : List Spot)⟩ : Shape)
    ((⟨r0.1.Kind, r0.1.R, r0.1.W, r0.1.H, ([] : List Spot)⟩ : Shape), r0.2)
  else
    let r0 : (Shape × Int) := plane_sound (⟨2, 0, x, y, ([] : List Spot)⟩ : Shape)
    r0
def P_plane_Square (x : Int) (y : Int) : Prop :=
  if V_plane_sound (⟨2, 0, x, y, ([] : List Spot)⟩ : Shape) = true then
    (P_plane_sound (⟨2, 0, x, y, ([] : List Spot)⟩ : Shape)) ∧ True
  else
    (P_plane_sound (⟨2, 0, x, y, ([] : List Spot)⟩ : Shape)) ∧ True
instance (x : Int) (y : Int) : Decidable (P_plane_Square x y) :=
  iteDec (c := V_plane_sound (⟨2, 0, x, y, ([] : List Spot)⟩ : Shape) = true) (@instDecidableAnd _ _ (inferInstanceAs (Decidable (P_plane_sound (⟨2, 0, x, y, ([] : List Spot)⟩ : Shape)))) (instDecidableTrue)) (@instDecidableAnd _ _ (inferInstanceAs (Decidable (P_plane_sound (⟨2, 0, x, y, ([] : List Spot)⟩ : Shape)))) (instDecidableTrue))
def plane_Weigh_R_step (ls : List Spot) (i : Nat) (s : Int × Int) : Int × Int :=
  let qr0 : Int := plane_spot_cross (⟨sx ls i, sy ls i⟩ : Spot) (⟨sx ls ((i + 1) % ls.length), sy ls ((i + 1) % ls.length)⟩ : Spot)
  let qr1 : Int := plane_spot_dot (⟨sx ls i, sy ls i⟩ : Spot) (⟨sx ls i, sy ls i⟩ : Spot)
  let qr2 : Int := plane_spot_dot (⟨sx ls i, sy ls i⟩ : Spot) (⟨sx ls ((i + 1) % ls.length), sy ls ((i + 1) % ls.length)⟩ : Spot)
  let qr3 : Int := plane_spot_dot (⟨sx ls ((i + 1) % ls.length), sy ls ((i + 1) % ls.length)⟩ : Spot) (⟨sx ls ((i + 1) % ls.length), sy ls ((i + 1) % ls.length)⟩ : Spot)
  ((IntKind.i64.wrap (s.1 + qr0)), (IntKind.i64.wrap (s.2 + IntKind.i64.wrap (qr0 * IntKind.i64.wrap (IntKind.i64.wrap (qr1 + qr2) + qr3)))))
def plane_Weigh (x : Shape) (y : Int) : (Weight × Int) :=
  let r0 : Int := plane_CheckShape x
  if r0 = 0 then
    if y < 1 then
      ((⟨⟨0, false⟩, ⟨0, false⟩⟩ : Weight), 3)
    else
      if y > 1000 then
        ((⟨⟨0, false⟩, ⟨0, false⟩⟩ : Weight), 3)
      else
        let r1 : Num := fixed_Int y
        if x.Kind = 1 then
          let r2 : Num := fixed_Of 13493037704
          let r3 : Num := fixed_Ratio 65536 (IntKind.i64.wrap (x.R * x.R))
          let r4 : Num := fixed_Div r3 r2
          let r5 : Num := fixed_Ratio 8589934592 (IntKind.i64.wrap (IntKind.i64.wrap (IntKind.i64.wrap (x.R * x.R) * x.R) * x.R))
          let r6 : Num := fixed_Div r5 r2
          let r7 : Num := fixed_Div r4 r1
          let r8 : Num := fixed_Div r6 r1
          ((⟨r7, r8⟩ : Weight), 0)
        else
          let r3 : (List Spot) := plane_Corners x
          let r4 : Int × Int := (List.range r3.length).foldl (fun s i => plane_Weigh_R_step r3 i s) (0, 0)
          let r5 : Num := fixed_Ratio 131072 r4.1
          let r6 : Num := fixed_Div r5 r1
          let r7 : Num := fixed_Ratio 51539607552 r4.2
          let r8 : Num := fixed_Div r7 r1
          ((⟨r6, r8⟩ : Weight), 0)
  else
    ((⟨⟨0, false⟩, ⟨0, false⟩⟩ : Weight), r0)
def P_plane_Weigh (x : Shape) (y : Int) : Prop :=
  let r0 : Int := plane_CheckShape x
  (P_plane_CheckShape x) ∧ (if r0 = 0 then
    if y < 1 then
      True
    else
      if y > 1000 then
        True
      else
        let r1 : Num := fixed_Int y
        if x.Kind = 1 then
          let r2 : Num := fixed_Of 13493037704
          let r3 : Num := fixed_Ratio 65536 (IntKind.i64.wrap (x.R * x.R))
          (P_fixed_Ratio 65536 (IntKind.i64.wrap (x.R * x.R))) ∧ (let r4 : Num := fixed_Div r3 r2
          (P_fixed_Div r3 r2) ∧ (let r5 : Num := fixed_Ratio 8589934592 (IntKind.i64.wrap (IntKind.i64.wrap (IntKind.i64.wrap (x.R * x.R) * x.R) * x.R))
          (P_fixed_Ratio 8589934592 (IntKind.i64.wrap (IntKind.i64.wrap (IntKind.i64.wrap (x.R * x.R) * x.R) * x.R))) ∧ (let r6 : Num := fixed_Div r5 r2
          (P_fixed_Div r5 r2) ∧ ((P_fixed_Div r4 r1) ∧ ((P_fixed_Div r6 r1) ∧ True)))))
        else
          let r3 : (List Spot) := plane_Corners x
          (P_plane_Corners x) ∧ ((r3.length ≤ 1000) ∧ (let r4 : Int × Int := (List.range r3.length).foldl (fun s i => plane_Weigh_R_step r3 i s) (0, 0)
          let r5 : Num := fixed_Ratio 131072 r4.1
          (P_fixed_Ratio 131072 r4.1) ∧ ((P_fixed_Div r5 r1) ∧ (let r7 : Num := fixed_Ratio 51539607552 r4.2
          (P_fixed_Ratio 51539607552 r4.2) ∧ ((P_fixed_Div r7 r1) ∧ True)))))
  else
    True)
instance (x : Shape) (y : Int) : Decidable (P_plane_Weigh x y) :=
  let r0 : Int := plane_CheckShape x
  @instDecidableAnd _ _ (inferInstanceAs (Decidable (P_plane_CheckShape x))) (iteDec (c := r0 = 0) (iteDec (c := y < 1) (instDecidableTrue) (iteDec (c := y > 1000) (instDecidableTrue) (let r1 : Num := fixed_Int y
        iteDec (c := x.Kind = 1) (let r2 : Num := fixed_Of 13493037704
          let r3 : Num := fixed_Ratio 65536 (IntKind.i64.wrap (x.R * x.R))
          @instDecidableAnd _ _ (inferInstanceAs (Decidable (P_fixed_Ratio 65536 (IntKind.i64.wrap (x.R * x.R))))) (let r4 : Num := fixed_Div r3 r2
          @instDecidableAnd _ _ (inferInstanceAs (Decidable (P_fixed_Div r3 r2))) (let r5 : Num := fixed_Ratio 8589934592 (IntKind.i64.wrap (IntKind.i64.wrap (IntKind.i64.wrap (x.R * x.R) * x.R) * x.R))
          @instDecidableAnd _ _ (inferInstanceAs (Decidable (P_fixed_Ratio 8589934592 (IntKind.i64.wrap (IntKind.i64.wrap (IntKind.i64.wrap (x.R * x.R) * x.R) * x.R))))) (let r6 : Num := fixed_Div r5 r2
          @instDecidableAnd _ _ (inferInstanceAs (Decidable (P_fixed_Div r5 r2))) (@instDecidableAnd _ _ (inferInstanceAs (Decidable (P_fixed_Div r4 r1))) (@instDecidableAnd _ _ (inferInstanceAs (Decidable (P_fixed_Div r6 r1))) (instDecidableTrue))))))) (let r3 : (List Spot) := plane_Corners x
          @instDecidableAnd _ _ (inferInstanceAs (Decidable (P_plane_Corners x))) (@instDecidableAnd _ _ (inferInstanceAs (Decidable (r3.length ≤ 1000))) (let r4 : Int × Int := (List.range r3.length).foldl (fun s i => plane_Weigh_R_step r3 i s) (0, 0)
          let r5 : Num := fixed_Ratio 131072 r4.1
          @instDecidableAnd _ _ (inferInstanceAs (Decidable (P_fixed_Ratio 131072 r4.1))) (@instDecidableAnd _ _ (inferInstanceAs (Decidable (P_fixed_Div r5 r1))) (let r7 : Num := fixed_Ratio 51539607552 r4.2
          @instDecidableAnd _ _ (inferInstanceAs (Decidable (P_fixed_Ratio 51539607552 r4.2))) (@instDecidableAnd _ _ (inferInstanceAs (Decidable (P_fixed_Div r7 r1))) (instDecidableTrue)))))))))) (instDecidableTrue))
def P_law02_awake : Prop :=
  ∀ r0 : Vec, r0 = law02_vec 3 (-4) →
  ∀ r1 : (Vec × Bool), r1 = plane_Unit r0 →
  (P_plane_Unit r0) ∧
  (∀ r2 : (Shape × Int), r2 = plane_Square 256 256 →
  ∀ r3 : (Weight × Int), r3 = plane_Weigh r2.1 1 →
  (P_plane_Weigh r2.1 1) ∧
  (∀ r4 : Vec, r4 = plane_Of 3 (-4) →
  ∀ r5 : Vec, r5 = law02_vec 3 (-4) →
  (((r4.X.V == r5.X.V) && ((r4.X.F == r5.X.F) && ((r4.Y.V == r5.Y.V) && ((r4.Y.F == r5.Y.F) && true)))) = true) ∧
  (∀ r6 : Vec, r6 = law02_vec 3 (-4) →
  ∀ r7 : Num, r7 = plane_Len r6 →
  (P_plane_Len r6) ∧
  (∀ r8 : Num, r8 = law02_num 5 →
  (((r7.V == r8.V) && ((r7.F == r8.F) && true)) = true) ∧
  ((r1.2 = true) ∧
  ((((r1.1.X.V == 2576980377) && ((r1.1.X.F == false) && ((r1.1.Y.V == (-3435973836)) && ((r1.1.Y.F == false) && true)))) = true) ∧
  ((r2.2 = 0) ∧
  ((r3.2 = 0) ∧
  (((r3.1.M.V == 1073741824) && ((r3.1.M.F == false) && ((r3.1.I.V == 1610612736) && ((r3.1.I.F == false) && true)))) = true)))))))))
def law02_awake : Bool := true
def plane_Reach_R_step (ls : List Spot) (i : Nat) (s : Int) : Int :=
  let qr0 : Int := plane_spot_dot (⟨sx ls i, sy ls i⟩ : Spot) (⟨sx ls i, sy ls i⟩ : Spot)
  let qr1 : Int := plane_above qr0
  max s qr1
def plane_Reach_R_P (ls : List Spot) (i : Nat) : Prop :=
  let qr0 : Int := plane_spot_dot (⟨sx ls i, sy ls i⟩ : Spot) (⟨sx ls i, sy ls i⟩ : Spot)
  (P_plane_above qr0) ∧ True
instance (ls : List Spot) (i : Nat) : Decidable (plane_Reach_R_P ls i) :=
  let qr0 : Int := plane_spot_dot (⟨sx ls i, sy ls i⟩ : Spot) (⟨sx ls i, sy ls i⟩ : Spot)
  @instDecidableAnd _ _ (inferInstanceAs (Decidable (P_plane_above qr0))) (instDecidableTrue)
def plane_Reach (x : Shape) : Int :=
  let r0 : Int := plane_CheckShape x
  if r0 = 0 then
    let r2 : (List Spot) := plane_Corners x
    let r3 : Int := (List.range r2.length).foldl (fun s i => plane_Reach_R_step r2 i s) x.R
    r3
  else
    0
def P_plane_Reach (x : Shape) : Prop :=
  let r0 : Int := plane_CheckShape x
  (P_plane_CheckShape x) ∧ (if r0 = 0 then
    let r2 : (List Spot) := plane_Corners x
    (P_plane_Corners x) ∧ ((r2.length ≤ 1000) ∧ ((∀ i, i < r2.length → plane_Reach_R_P r2 i) ∧ True))
  else
    True)
instance (x : Shape) : Decidable (P_plane_Reach x) :=
  let r0 : Int := plane_CheckShape x
  @instDecidableAnd _ _ (inferInstanceAs (Decidable (P_plane_CheckShape x))) (iteDec (c := r0 = 0) (let r2 : (List Spot) := plane_Corners x
    @instDecidableAnd _ _ (inferInstanceAs (Decidable (P_plane_Corners x))) (@instDecidableAnd _ _ (inferInstanceAs (Decidable (r2.length ≤ 1000))) (@instDecidableAnd _ _ (inferInstanceAs (Decidable (∀ i, i < r2.length → plane_Reach_R_P r2 i))) (instDecidableTrue)))) (instDecidableTrue))
def law02_PlaneShapes_L0_step (s : List Spot × Int) : Option ((List Spot × Int) ⊕ (Unit)) :=
  if s.2 < ((s.1.length : Nat) : Int) then
    if ((0 : Int) ≤ s.2 ∧ s.2 < ((s.1.length : Nat) : Int)) then
    some (.inl (((s.1).set (s.2).toNat (⟨IntKind.i64.wrap ((nth s.1 s.2).X + 1), (nth s.1 s.2).Y⟩ : Spot)), (IntKind.i64.wrap (s.2 + 1))))
    else none
  else
    some (.inr ())
def P_law02_PlaneShapes (x : Shape) (y : Shape) : Prop :=
  if ((x.Pts.length : Nat) : Int) > 30 then
    ∀ r0 : Bool, r0 = law02_awake →
    r0 = true
  else
    if ((y.Pts.length : Nat) : Int) > 30 then
      ∀ r0 : Bool, r0 = law02_awake →
      r0 = true
    else
      ∀ r0 : Shape, r0 = kit_OwnShape x →
      (P_kit_OwnShape x) ∧
      (∀ r1 : Shape, r1 = kit_OwnShape y →
      (P_kit_OwnShape y) ∧
      (∀ r2 : Int, r2 = plane_CheckShape r0 →
      (P_plane_CheckShape r0) ∧
      (∀ r3 : Int, r3 = ref02_CheckShape x →
      (P_ref02_CheckShape x) ∧
      ((r2 = r3) ∧
      (∀ r4 : Option Nat, r4 = K_plane_Corners_0 r0 →
      ∀ r5 : (List Spot), r5 = plane_Corners r0 →
      (P_plane_Corners r0) ∧
      (∀ r6 : Option Nat, r6 = K_ref02_Corners_0 x →
      ∀ r7 : (List Spot), r7 = ref02_Corners x →
      (P_ref02_Corners x) ∧
      (∀ r8 : Bool, r8 = law02_sameSpots r5 r7 →
      (P_law02_sameSpots r5 r7) ∧
      ((r8 = true) ∧
      (∀ r9 : Int, r9 = plane_Reach r0 →
      (P_plane_Reach r0) ∧
      (∀ r10 : Int, r10 = ref02_Reach x →
      (P_ref02_Reach x) ∧
      ((r9 = r10) ∧
      (∀ r11 : Bool, r11 = plane_SameShape r0 r1 →
      (P_plane_SameShape r0 r1) ∧
      (∀ r12 : Bool, r12 = ref02_SameShape x y →
      (P_ref02_SameShape x y) ∧
      ((r11 = r12) ∧
      (∀ r13 : Bool, r13 = plane_SameShape r0 r0 →
      (P_plane_SameShape r0 r0) ∧
      ((r13 = true) ∧
      (∀ r14 : Shape, r14 = plane_CopyShape r0 →
      (P_plane_CopyShape r0) ∧
      (∀ r15 : Option Nat, r15 = K_plane_Corners_0 r0 →
      ∀ r16 : (List Spot), r16 = plane_Corners r0 →
      ∀ r17 : Bool, r17 = ref02_SameShape r14 x →
      (P_ref02_SameShape r14 x) ∧
      ((r17 = true) ∧
      (∀ r18 : Bool, r18 = ref02_SameShape r0 x →
      (P_ref02_SameShape r0 x) ∧
      ((r18 = true) ∧
      (∀ r19 : Bool, r19 = ref02_SameShape r1 y →
      (P_ref02_SameShape r1 y) ∧
      ((r19 = true) ∧
      (((iterO (law02_PlaneShapes_L0_step) NN (r0.Pts, 0)).isSome = true) ∧
      (∀ r20 : Unit, iterO (law02_PlaneShapes_L0_step) NN (r0.Pts, 0) = some r20 →
      ∀ r21 : Bool, r21 = ref02_SameShape r14 x →
      (r21 = true) ∧
      (∀ r22 : Option Nat, r22 = K_ref02_Corners_0 x →
      ∀ r23 : (List Spot), r23 = ref02_Corners x →
      ∀ r24 : Bool, r24 = law02_sameSpots r16 r23 →
      (P_law02_sameSpots r16 r23) ∧
      ((r24 = true) ∧
      (∀ r25 : Bool, r25 = law02_awake →
      r25 = true))))))))))))))))))))))))))))
def law02_PlaneShapes (x : Shape) (y : Shape) : Bool := true
end Go.Bag

