/- The seat's types, as the abstract machine needs them. -/
import Derived.Test.YtcbgfjidamoilaaProg
import Derived.Test.YtcbgfjidamoilaaQcoAbsL
namespace Go.Proofs.Ytcbgfjidamoilaa
open Go.AbsK

def tabL : List (Nat × TI) := [(2, ⟨.int .i64, 1, 8, [.i .i64 0]⟩),
  (3, ⟨.int .i64, 1, 8, [.i .i64 0]⟩),
  (4, ⟨.bool, 1, 1, [.b false]⟩),
  (5, ⟨.int .u8, 1, 1, [.i .u8 0]⟩),
  (9, ⟨.string, 1, 16, [.str ⟨#[]⟩]⟩),
  (21, ⟨.int .i32, 1, 4, [.i .i32 0]⟩),
  (23, ⟨.struct [(0, 1, false), (1, 1, false)], 2, 16, [.i .i64 0, .b false]⟩),
  (25, ⟨.struct [(0, 2, true), (2, 2, true)], 4, 32, [.i .i64 0, .b false, .i .i64 0, .b false]⟩),
  (30, ⟨.slice 48, 1, 24, [.nils]⟩),
  (32, ⟨.struct [(0, 1, false), (1, 1, false), (2, 1, false), (3, 1, false), (4, 1, false)], 5, 56, [.i .i64 0, .i .i64 0, .i .i64 0, .i .i64 0, .nils]⟩),
  (35, ⟨.struct [(0, 2, true), (2, 2, true)], 4, 32, [.i .i64 0, .b false, .i .i64 0, .b false]⟩),
  (36, ⟨.int .i64, 1, 8, [.i .i64 0]⟩),
  (45, ⟨.slice 32, 1, 24, [.nils]⟩),
  (48, ⟨.struct [(0, 1, false), (1, 1, false)], 2, 16, [.i .i64 0, .i .i64 0]⟩),
  (62, ⟨.slice 2, 1, 24, [.nils]⟩),
  (63, ⟨.slice 25, 1, 24, [.nils]⟩),
  (70, ⟨.struct [(0, 2, true), (2, 2, true)], 4, 32, [.i .i64 0, .b false, .i .i64 0, .b false]⟩),
  (72, ⟨.struct [(0, 4, true), (4, 4, true)], 8, 64, [.i .i64 0, .b false, .i .i64 0, .b false, .i .i64 0, .b false, .i .i64 0, .b false]⟩),
  (83, ⟨.int .u64, 1, 8, [.i .u64 0]⟩),
  (96, ⟨.struct [(0, 1, false), (1, 1, false)], 2, 16, [.i .i64 0, .i .i64 0]⟩),
  (98, ⟨.struct [(0, 1, false), (1, 2, true), (3, 2, true), (5, 2, true)], 7, 56, [.i .i64 0, .i .i64 0, .i .i64 0, .i .i64 0, .i .i64 0, .i .i64 0, .i .i64 0]⟩),
  (104, ⟨.slice 23, 1, 24, [.nils]⟩),
  (111, ⟨.struct [(0, 1, false), (1, 1, false), (2, 1, false), (3, 1, false)], 4, 32, [.i .i64 0, .i .i64 0, .i .i64 0, .i .i64 0]⟩),
  (116, ⟨.int .u64, 1, 8, [.i .u64 0]⟩),
  (117, ⟨.array 2 1 false, 2, 16, [.i .u64 0, .i .u64 0]⟩),
  (118, ⟨.array 2 1 false, 2, 16, [.i .u64 0, .i .u64 0]⟩),
  (120, ⟨.struct [(0, 1, false), (1, 2, true)], 3, 24, [.b false, .i .u64 0, .i .u64 0]⟩),
  (130, ⟨.struct [(0, 1, false), (1, 1, false), (2, 1, false)], 3, 24, [.b false, .i .u64 0, .i .u64 0]⟩),
  (158, ⟨.slice 3, 1, 24, [.nils]⟩),
  (169, ⟨.int .u32, 1, 4, [.i .u32 0]⟩)]
def eqL : List (Nat × Shp) := [(23, [some .i64, none]),
  (25, [some .i64, none, some .i64, none]),
  (35, [some .i64, none, some .i64, none]),
  (48, [some .i64, some .i64]),
  (70, [some .i64, none, some .i64, none]),
  (72, [some .i64, none, some .i64, none, some .i64, none, some .i64, none]),
  (96, [some .i64, some .i64]),
  (98, [some .i64, some .i64, some .i64, some .i64, some .i64, some .i64, some .i64]),
  (111, [some .i64, some .i64, some .i64, some .i64]),
  (130, [none, some .u64, some .u64])]
def tab : Tab := tabOf tabL
def EQ : TypeId → Option Shp := eqOf eqL
theorem tabOK : TabOK Try.prog tab := tabOf_ok (by kernel_rfl)
theorem eqOK : EqOK Try.prog EQ := eqOf_ok (by kernel_rfl)
theorem follows : Try.prog.follows .mixedOrders = true := by kernel_rfl
@[simp] theorem tab_2 : tab 2 = some ⟨.int .i64, 1, 8, [.i .i64 0]⟩ := rfl
@[simp] theorem tab_3 : tab 3 = some ⟨.int .i64, 1, 8, [.i .i64 0]⟩ := rfl
@[simp] theorem tab_4 : tab 4 = some ⟨.bool, 1, 1, [.b false]⟩ := rfl
@[simp] theorem tab_5 : tab 5 = some ⟨.int .u8, 1, 1, [.i .u8 0]⟩ := rfl
@[simp] theorem tab_9 : tab 9 = some ⟨.string, 1, 16, [.str ⟨#[]⟩]⟩ := rfl
@[simp] theorem tab_21 : tab 21 = some ⟨.int .i32, 1, 4, [.i .i32 0]⟩ := rfl
@[simp] theorem tab_23 : tab 23 = some ⟨.struct [(0, 1, false), (1, 1, false)], 2, 16, [.i .i64 0, .b false]⟩ := rfl
@[simp] theorem tab_25 : tab 25 = some ⟨.struct [(0, 2, true), (2, 2, true)], 4, 32, [.i .i64 0, .b false, .i .i64 0, .b false]⟩ := rfl
@[simp] theorem tab_30 : tab 30 = some ⟨.slice 48, 1, 24, [.nils]⟩ := rfl
@[simp] theorem tab_32 : tab 32 = some ⟨.struct [(0, 1, false), (1, 1, false), (2, 1, false), (3, 1, false), (4, 1, false)], 5, 56, [.i .i64 0, .i .i64 0, .i .i64 0, .i .i64 0, .nils]⟩ := rfl
@[simp] theorem tab_35 : tab 35 = some ⟨.struct [(0, 2, true), (2, 2, true)], 4, 32, [.i .i64 0, .b false, .i .i64 0, .b false]⟩ := rfl
@[simp] theorem tab_36 : tab 36 = some ⟨.int .i64, 1, 8, [.i .i64 0]⟩ := rfl
@[simp] theorem tab_45 : tab 45 = some ⟨.slice 32, 1, 24, [.nils]⟩ := rfl
@[simp] theorem tab_48 : tab 48 = some ⟨.struct [(0, 1, false), (1, 1, false)], 2, 16, [.i .i64 0, .i .i64 0]⟩ := rfl
@[simp] theorem tab_62 : tab 62 = some ⟨.slice 2, 1, 24, [.nils]⟩ := rfl
@[simp] theorem tab_63 : tab 63 = some ⟨.slice 25, 1, 24, [.nils]⟩ := rfl
@[simp] theorem tab_70 : tab 70 = some ⟨.struct [(0, 2, true), (2, 2, true)], 4, 32, [.i .i64 0, .b false, .i .i64 0, .b false]⟩ := rfl
@[simp] theorem tab_72 : tab 72 = some ⟨.struct [(0, 4, true), (4, 4, true)], 8, 64, [.i .i64 0, .b false, .i .i64 0, .b false, .i .i64 0, .b false, .i .i64 0, .b false]⟩ := rfl
@[simp] theorem tab_83 : tab 83 = some ⟨.int .u64, 1, 8, [.i .u64 0]⟩ := rfl
@[simp] theorem tab_96 : tab 96 = some ⟨.struct [(0, 1, false), (1, 1, false)], 2, 16, [.i .i64 0, .i .i64 0]⟩ := rfl
@[simp] theorem tab_98 : tab 98 = some ⟨.struct [(0, 1, false), (1, 2, true), (3, 2, true), (5, 2, true)], 7, 56, [.i .i64 0, .i .i64 0, .i .i64 0, .i .i64 0, .i .i64 0, .i .i64 0, .i .i64 0]⟩ := rfl
@[simp] theorem tab_104 : tab 104 = some ⟨.slice 23, 1, 24, [.nils]⟩ := rfl
@[simp] theorem tab_111 : tab 111 = some ⟨.struct [(0, 1, false), (1, 1, false), (2, 1, false), (3, 1, false)], 4, 32, [.i .i64 0, .i .i64 0, .i .i64 0, .i .i64 0]⟩ := rfl
@[simp] theorem tab_116 : tab 116 = some ⟨.int .u64, 1, 8, [.i .u64 0]⟩ := rfl
@[simp] theorem tab_117 : tab 117 = some ⟨.array 2 1 false, 2, 16, [.i .u64 0, .i .u64 0]⟩ := rfl
@[simp] theorem tab_118 : tab 118 = some ⟨.array 2 1 false, 2, 16, [.i .u64 0, .i .u64 0]⟩ := rfl
@[simp] theorem tab_120 : tab 120 = some ⟨.struct [(0, 1, false), (1, 2, true)], 3, 24, [.b false, .i .u64 0, .i .u64 0]⟩ := rfl
@[simp] theorem tab_130 : tab 130 = some ⟨.struct [(0, 1, false), (1, 1, false), (2, 1, false)], 3, 24, [.b false, .i .u64 0, .i .u64 0]⟩ := rfl
@[simp] theorem tab_158 : tab 158 = some ⟨.slice 3, 1, 24, [.nils]⟩ := rfl
@[simp] theorem tab_169 : tab 169 = some ⟨.int .u32, 1, 4, [.i .u32 0]⟩ := rfl
@[simp] theorem EQ_23 : EQ 23 = some [some .i64, none] := rfl
@[simp] theorem EQ_25 : EQ 25 = some [some .i64, none, some .i64, none] := rfl
@[simp] theorem EQ_35 : EQ 35 = some [some .i64, none, some .i64, none] := rfl
@[simp] theorem EQ_48 : EQ 48 = some [some .i64, some .i64] := rfl
@[simp] theorem EQ_70 : EQ 70 = some [some .i64, none, some .i64, none] := rfl
@[simp] theorem EQ_72 : EQ 72 = some [some .i64, none, some .i64, none, some .i64, none, some .i64, none] := rfl
@[simp] theorem EQ_96 : EQ 96 = some [some .i64, some .i64] := rfl
@[simp] theorem EQ_98 : EQ 98 = some [some .i64, some .i64, some .i64, some .i64, some .i64, some .i64, some .i64] := rfl
@[simp] theorem EQ_111 : EQ 111 = some [some .i64, some .i64, some .i64, some .i64] := rfl
@[simp] theorem EQ_130 : EQ 130 = some [none, some .u64, some .u64] := rfl
end Go.Proofs.Ytcbgfjidamoilaa

