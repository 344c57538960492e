/- The seat's types, as the abstract machine needs them. -/
import Derived.Test.YtcbgfjidamoilaaGreatProg
import Derived.Test.YtcbgfjidamoilaaGreatQroAbsL
namespace Go.Proofs.YtcbgfjidamoilaaGreat
open Go.AbsK

def tabL : List (Nat × TI) := [(2, ⟨.int .i64, 1, 8, [.i .i64 0]⟩),
  (3, ⟨.int .i64, 1, 8, [.i .i64 0]⟩),
  (4, ⟨.bool, 1, 1, [.b false]⟩),
  (5, ⟨.int .u8, 1, 1, [.i .u8 0]⟩),
  (9, ⟨.string, 1, 16, [.str ⟨#[]⟩]⟩),
  (21, ⟨.int .i32, 1, 4, [.i .i32 0]⟩),
  (23, ⟨.struct [(0, 1, false), (1, 1, false), (2, 1, false), (3, 1, false), (4, 1, false), (5, 1, false)], 6, 48, [.i .i64 0, .i .i64 0, .i .i64 0, .i .i64 0, .i .i64 0, .i .i64 0]⟩),
  (25, ⟨.struct [(0, 6, true), (6, 1, false), (7, 1, false), (8, 1, false), (9, 1, false), (10, 1, false)], 11, 88, [.i .i64 0, .i .i64 0, .i .i64 0, .i .i64 0, .i .i64 0, .i .i64 0, .i .i64 0, .i .i64 0, .i .i64 0, .i .i64 0, .i .i64 0]⟩),
  (26, ⟨.slice 53, 1, 24, [.nils]⟩),
  (28, ⟨.struct [(0, 1, false), (1, 1, false), (2, 1, false), (3, 1, false), (4, 1, false)], 5, 56, [.i .i64 0, .i .i64 0, .i .i64 0, .i .i64 0, .nils]⟩),
  (30, ⟨.struct [(0, 1, false), (1, 1, false)], 2, 16, [.i .i64 0, .b false]⟩),
  (32, ⟨.struct [(0, 2, true), (2, 2, true)], 4, 32, [.i .i64 0, .b false, .i .i64 0, .b false]⟩),
  (34, ⟨.struct [(0, 2, true), (2, 2, true)], 4, 32, [.i .i64 0, .b false, .i .i64 0, .b false]⟩),
  (36, ⟨.struct [(0, 4, true), (4, 4, true)], 8, 64, [.i .i64 0, .b false, .i .i64 0, .b false, .i .i64 0, .b false, .i .i64 0, .b false]⟩),
  (38, ⟨.struct [(0, 2, true), (2, 2, true)], 4, 32, [.i .i64 0, .b false, .i .i64 0, .b false]⟩),
  (40, ⟨.struct [(0, 5, true), (5, 8, true), (13, 4, true), (17, 2, true), (19, 4, true), (23, 1, false), (24, 1, false), (25, 1, false), (26, 1, false)], 27, 224, [.i .i64 0, .i .i64 0, .i .i64 0, .i .i64 0, .nils, .i .i64 0, .b false, .i .i64 0, .b false, .i .i64 0, .b false, .i .i64 0, .b false, .i .i64 0, .b false, .i .i64 0, .b false, .i .i64 0, .b false, .i .i64 0, .b false, .i .i64 0, .b false, .i .i64 0, .b false, .b false, .i .i64 0]⟩),
  (53, ⟨.struct [(0, 1, false), (1, 1, false)], 2, 16, [.i .i64 0, .i .i64 0]⟩),
  (55, ⟨.struct [(0, 1, false), (1, 2, true), (3, 1, false), (4, 1, false)], 5, 56, [.i .i64 0, .i .i64 0, .i .i64 0, .i .i64 0, .nils]⟩),
  (56, ⟨.int .i64, 1, 8, [.i .i64 0]⟩),
  (74, ⟨.struct [(0, 1, false), (1, 2, true), (3, 4, true)], 7, 56, [.b false, .i .i64 0, .b false, .i .i64 0, .b false, .i .i64 0, .b false]⟩),
  (88, ⟨.int .u64, 1, 8, [.i .u64 0]⟩),
  (89, ⟨.array 2 1 false, 2, 16, [.i .u64 0, .i .u64 0]⟩),
  (90, ⟨.array 2 1 false, 2, 16, [.i .u64 0, .i .u64 0]⟩),
  (92, ⟨.struct [(0, 1, false), (1, 2, true)], 3, 24, [.b false, .i .u64 0, .i .u64 0]⟩),
  (103, ⟨.struct [(0, 27, true)], 27, 224, [.i .i64 0, .i .i64 0, .i .i64 0, .i .i64 0, .nils, .i .i64 0, .b false, .i .i64 0, .b false, .i .i64 0, .b false, .i .i64 0, .b false, .i .i64 0, .b false, .i .i64 0, .b false, .i .i64 0, .b false, .i .i64 0, .b false, .i .i64 0, .b false, .i .i64 0, .b false, .b false, .i .i64 0]⟩),
  (106, ⟨.slice 32, 1, 24, [.nils]⟩),
  (107, ⟨.slice 30, 1, 24, [.nils]⟩),
  (113, ⟨.slice 5, 1, 24, [.nils]⟩),
  (115, ⟨.struct [(0, 1, false), (1, 1, false)], 2, 32, [.nilp, .nils]⟩),
  (122, ⟨.int .u64, 1, 8, [.i .u64 0]⟩),
  (131, ⟨.struct [(0, 1, false), (1, 1, false)], 2, 16, [.i .i64 0, .i .i64 0]⟩),
  (133, ⟨.struct [(0, 1, false), (1, 2, true), (3, 2, true), (5, 2, true)], 7, 56, [.i .i64 0, .i .i64 0, .i .i64 0, .i .i64 0, .i .i64 0, .i .i64 0, .i .i64 0]⟩),
  (155, ⟨.slice 2, 1, 24, [.nils]⟩),
  (160, ⟨.array 20 1 false, 20, 20, [.i .u8 0, .i .u8 0, .i .u8 0, .i .u8 0, .i .u8 0, .i .u8 0, .i .u8 0, .i .u8 0, .i .u8 0, .i .u8 0, .i .u8 0, .i .u8 0, .i .u8 0, .i .u8 0, .i .u8 0, .i .u8 0, .i .u8 0, .i .u8 0, .i .u8 0, .i .u8 0]⟩),
  (169, ⟨.struct [(0, 2, true), (2, 1, false)], 3, 24, [.i .i64 0, .i .i64 0, .i .i64 0]⟩),
  (171, ⟨.struct [(0, 1, false)], 1, 24, [.nils]⟩),
  (178, ⟨.struct [(0, 1, false), (1, 1, false), (2, 1, false)], 3, 24, [.b false, .i .u64 0, .i .u64 0]⟩),
  (187, ⟨.int .u32, 1, 4, [.i .u32 0]⟩),
  (190, ⟨.struct [(0, 1, false), (1, 1, false), (2, 1, false), (3, 1, false)], 4, 32, [.i .i64 0, .i .i64 0, .i .i64 0, .i .i64 0]⟩),
  (208, ⟨.slice 3, 1, 24, [.nils]⟩),
  (229, ⟨.struct [(0, 1, false), (1, 1, false)], 2, 16, [.i .i64 0, .i .i64 0]⟩)]
def eqL : List (Nat × Shp) := [(23, [some .i64, some .i64, some .i64, some .i64, some .i64, some .i64]),
  (25, [some .i64, some .i64, some .i64, some .i64, some .i64, some .i64, some .i64, some .i64, some .i64, some .i64, some .i64]),
  (30, [some .i64, none]),
  (32, [some .i64, none, some .i64, none]),
  (34, [some .i64, none, some .i64, none]),
  (36, [some .i64, none, some .i64, none, some .i64, none, some .i64, none]),
  (38, [some .i64, none, some .i64, none]),
  (53, [some .i64, some .i64]),
  (74, [none, some .i64, none, some .i64, none, some .i64, none]),
  (131, [some .i64, some .i64]),
  (133, [some .i64, some .i64, some .i64, some .i64, some .i64, some .i64, some .i64]),
  (169, [some .i64, some .i64, some .i64]),
  (178, [none, some .u64, some .u64]),
  (190, [some .i64, some .i64, some .i64, some .i64]),
  (229, [some .i64, some .i64])]
def tab : Tab := tabOf tabL
def EQ : TypeId → Option Shp := eqOf eqL
theorem tabOK : TabOK Tryz.prog tab := tabOf_ok (by kernel_rfl)
theorem eqOK : EqOK Tryz.prog EQ := eqOf_ok (by kernel_rfl)
theorem follows : Tryz.prog.follows .mixedOrders = true := by kernel_rfl
@[simp] theorem tab_2 : tab 2 = some ⟨.int .i64, 1, 8, [.i .i64 0]⟩ := rfl
@[simp] theorem tab_3 : tab 3 = some ⟨.int .i64, 1, 8, [.i .i64 0]⟩ := rfl
@[simp] theorem tab_4 : tab 4 = some ⟨.bool, 1, 1, [.b false]⟩ := rfl
@[simp] theorem tab_5 : tab 5 = some ⟨.int .u8, 1, 1, [.i .u8 0]⟩ := rfl
@[simp] theorem tab_9 : tab 9 = some ⟨.string, 1, 16, [.str ⟨#[]⟩]⟩ := rfl
@[simp] theorem tab_21 : tab 21 = some ⟨.int .i32, 1, 4, [.i .i32 0]⟩ := rfl
@[simp] theorem tab_23 : tab 23 = some ⟨.struct [(0, 1, false), (1, 1, false), (2, 1, false), (3, 1, false), (4, 1, false), (5, 1, false)], 6, 48, [.i .i64 0, .i .i64 0, .i .i64 0, .i .i64 0, .i .i64 0, .i .i64 0]⟩ := rfl
@[simp] theorem tab_25 : tab 25 = some ⟨.struct [(0, 6, true), (6, 1, false), (7, 1, false), (8, 1, false), (9, 1, false), (10, 1, false)], 11, 88, [.i .i64 0, .i .i64 0, .i .i64 0, .i .i64 0, .i .i64 0, .i .i64 0, .i .i64 0, .i .i64 0, .i .i64 0, .i .i64 0, .i .i64 0]⟩ := rfl
@[simp] theorem tab_26 : tab 26 = some ⟨.slice 53, 1, 24, [.nils]⟩ := rfl
@[simp] theorem tab_28 : tab 28 = some ⟨.struct [(0, 1, false), (1, 1, false), (2, 1, false), (3, 1, false), (4, 1, false)], 5, 56, [.i .i64 0, .i .i64 0, .i .i64 0, .i .i64 0, .nils]⟩ := rfl
@[simp] theorem tab_30 : tab 30 = some ⟨.struct [(0, 1, false), (1, 1, false)], 2, 16, [.i .i64 0, .b false]⟩ := rfl
@[simp] theorem tab_32 : tab 32 = some ⟨.struct [(0, 2, true), (2, 2, true)], 4, 32, [.i .i64 0, .b false, .i .i64 0, .b false]⟩ := rfl
@[simp] theorem tab_34 : tab 34 = some ⟨.struct [(0, 2, true), (2, 2, true)], 4, 32, [.i .i64 0, .b false, .i .i64 0, .b false]⟩ := rfl
@[simp] theorem tab_36 : tab 36 = some ⟨.struct [(0, 4, true), (4, 4, true)], 8, 64, [.i .i64 0, .b false, .i .i64 0, .b false, .i .i64 0, .b false, .i .i64 0, .b false]⟩ := rfl
@[simp] theorem tab_38 : tab 38 = some ⟨.struct [(0, 2, true), (2, 2, true)], 4, 32, [.i .i64 0, .b false, .i .i64 0, .b false]⟩ := rfl
@[simp] theorem tab_40 : tab 40 = some ⟨.struct [(0, 5, true), (5, 8, true), (13, 4, true), (17, 2, true), (19, 4, true), (23, 1, false), (24, 1, false), (25, 1, false), (26, 1, false)], 27, 224, [.i .i64 0, .i .i64 0, .i .i64 0, .i .i64 0, .nils, .i .i64 0, .b false, .i .i64 0, .b false, .i .i64 0, .b false, .i .i64 0, .b false, .i .i64 0, .b false, .i .i64 0, .b false, .i .i64 0, .b false, .i .i64 0, .b false, .i .i64 0, .b false, .i .i64 0, .b false, .b false, .i .i64 0]⟩ := rfl
@[simp] theorem tab_53 : tab 53 = some ⟨.struct [(0, 1, false), (1, 1, false)], 2, 16, [.i .i64 0, .i .i64 0]⟩ := rfl
@[simp] theorem tab_55 : tab 55 = some ⟨.struct [(0, 1, false), (1, 2, true), (3, 1, false), (4, 1, false)], 5, 56, [.i .i64 0, .i .i64 0, .i .i64 0, .i .i64 0, .nils]⟩ := rfl
@[simp] theorem tab_56 : tab 56 = some ⟨.int .i64, 1, 8, [.i .i64 0]⟩ := rfl
@[simp] theorem tab_74 : tab 74 = some ⟨.struct [(0, 1, false), (1, 2, true), (3, 4, true)], 7, 56, [.b false, .i .i64 0, .b false, .i .i64 0, .b false, .i .i64 0, .b false]⟩ := rfl
@[simp] theorem tab_88 : tab 88 = some ⟨.int .u64, 1, 8, [.i .u64 0]⟩ := rfl
@[simp] theorem tab_89 : tab 89 = some ⟨.array 2 1 false, 2, 16, [.i .u64 0, .i .u64 0]⟩ := rfl
@[simp] theorem tab_90 : tab 90 = some ⟨.array 2 1 false, 2, 16, [.i .u64 0, .i .u64 0]⟩ := rfl
@[simp] theorem tab_92 : tab 92 = some ⟨.struct [(0, 1, false), (1, 2, true)], 3, 24, [.b false, .i .u64 0, .i .u64 0]⟩ := rfl
@[simp] theorem tab_103 : tab 103 = some ⟨.struct [(0, 27, true)], 27, 224, [.i .i64 0, .i .i64 0, .i .i64 0, .i .i64 0, .nils, .i .i64 0, .b false, .i .i64 0, .b false, .i .i64 0, .b false, .i .i64 0, .b false, .i .i64 0, .b false, .i .i64 0, .b false, .i .i64 0, .b false, .i .i64 0, .b false, .i .i64 0, .b false, .i .i64 0, .b false, .b false, .i .i64 0]⟩ := rfl
@[simp] theorem tab_106 : tab 106 = some ⟨.slice 32, 1, 24, [.nils]⟩ := rfl
@[simp] theorem tab_107 : tab 107 = some ⟨.slice 30, 1, 24, [.nils]⟩ := rfl
@[simp] theorem tab_113 : tab 113 = some ⟨.slice 5, 1, 24, [.nils]⟩ := rfl
@[simp] theorem tab_115 : tab 115 = some ⟨.struct [(0, 1, false), (1, 1, false)], 2, 32, [.nilp, .nils]⟩ := rfl
@[simp] theorem tab_122 : tab 122 = some ⟨.int .u64, 1, 8, [.i .u64 0]⟩ := rfl
@[simp] theorem tab_131 : tab 131 = some ⟨.struct [(0, 1, false), (1, 1, false)], 2, 16, [.i .i64 0, .i .i64 0]⟩ := rfl
@[simp] theorem tab_133 : tab 133 = some ⟨.struct [(0, 1, false), (1, 2, true), (3, 2, true), (5, 2, true)], 7, 56, [.i .i64 0, .i .i64 0, .i .i64 0, .i .i64 0, .i .i64 0, .i .i64 0, .i .i64 0]⟩ := rfl
@[simp] theorem tab_155 : tab 155 = some ⟨.slice 2, 1, 24, [.nils]⟩ := rfl
@[simp] theorem tab_160 : tab 160 = some ⟨.array 20 1 false, 20, 20, [.i .u8 0, .i .u8 0, .i .u8 0, .i .u8 0, .i .u8 0, .i .u8 0, .i .u8 0, .i .u8 0, .i .u8 0, .i .u8 0, .i .u8 0, .i .u8 0, .i .u8 0, .i .u8 0, .i .u8 0, .i .u8 0, .i .u8 0, .i .u8 0, .i .u8 0, .i .u8 0]⟩ := rfl
@[simp] theorem tab_169 : tab 169 = some ⟨.struct [(0, 2, true), (2, 1, false)], 3, 24, [.i .i64 0, .i .i64 0, .i .i64 0]⟩ := rfl
@[simp] theorem tab_171 : tab 171 = some ⟨.struct [(0, 1, false)], 1, 24, [.nils]⟩ := rfl
@[simp] theorem tab_178 : tab 178 = some ⟨.struct [(0, 1, false), (1, 1, false), (2, 1, false)], 3, 24, [.b false, .i .u64 0, .i .u64 0]⟩ := rfl
@[simp] theorem tab_187 : tab 187 = some ⟨.int .u32, 1, 4, [.i .u32 0]⟩ := rfl
@[simp] theorem tab_190 : tab 190 = some ⟨.struct [(0, 1, false), (1, 1, false), (2, 1, false), (3, 1, false)], 4, 32, [.i .i64 0, .i .i64 0, .i .i64 0, .i .i64 0]⟩ := rfl
@[simp] theorem tab_208 : tab 208 = some ⟨.slice 3, 1, 24, [.nils]⟩ := rfl
@[simp] theorem tab_229 : tab 229 = some ⟨.struct [(0, 1, false), (1, 1, false)], 2, 16, [.i .i64 0, .i .i64 0]⟩ := rfl
@[simp] theorem EQ_23 : EQ 23 = some [some .i64, some .i64, some .i64, some .i64, some .i64, some .i64] := rfl
@[simp] theorem EQ_25 : EQ 25 = some [some .i64, some .i64, some .i64, some .i64, some .i64, some .i64, some .i64, some .i64, some .i64, some .i64, some .i64] := rfl
@[simp] theorem EQ_30 : EQ 30 = some [some .i64, none] := rfl
@[simp] theorem EQ_32 : EQ 32 = some [some .i64, none, some .i64, none] := rfl
@[simp] theorem EQ_34 : EQ 34 = some [some .i64, none, some .i64, none] := rfl
@[simp] theorem EQ_36 : EQ 36 = some [some .i64, none, some .i64, none, some .i64, none, some .i64, none] := rfl
@[simp] theorem EQ_38 : EQ 38 = some [some .i64, none, some .i64, none] := rfl
@[simp] theorem EQ_53 : EQ 53 = some [some .i64, some .i64] := rfl
@[simp] theorem EQ_74 : EQ 74 = some [none, some .i64, none, some .i64, none, some .i64, none] := rfl
@[simp] theorem EQ_131 : EQ 131 = some [some .i64, some .i64] := rfl
@[simp] theorem EQ_133 : EQ 133 = some [some .i64, some .i64, some .i64, some .i64, some .i64, some .i64, some .i64] := rfl
@[simp] theorem EQ_169 : EQ 169 = some [some .i64, some .i64, some .i64] := rfl
@[simp] theorem EQ_178 : EQ 178 = some [none, some .u64, some .u64] := rfl
@[simp] theorem EQ_190 : EQ 190 = some [some .i64, some .i64, some .i64, some .i64] := rfl
@[simp] theorem EQ_229 : EQ 229 = some [some .i64, some .i64] := rfl
end Go.Proofs.YtcbgfjidamoilaaGreat

