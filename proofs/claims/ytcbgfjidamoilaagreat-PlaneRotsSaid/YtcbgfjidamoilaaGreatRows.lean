/-
  No cell of these rows narrows 'for every input' (looked for: loops, veiled, ifaces, maps, wideKeys, modest, calm, conditions, laid).
  DERIVED. THE GIVEN ROWS OF THIS SEAT. 3 by the template 'for every input the law returns true; each argument reads behind the call as it read before'; 0 by the template 'total and deterministic' (their statements: YtcbgfjidamoilaaGreatTotals.lean).
  GIVEN WITH THE SEED: the statements are not yours to turn. If you find one false, say at which input.
  Laid BY PROGRAM, IN A SANDBOX (cutbox-rows.mjs): the forced cells as the released guide's own fill.sh prints them over the translation 4842cf9b46e63bac… (all of the seat's roots in one cut). By AI agents, Wed Nov 11 2026. No macro, syntax, notation, axiom, sorry.
-/
import Derived.Test.YtcbgfjidamoilaaGreatChecked
import GoSem.Claim
import GoSem.ClaimJoined
import GoSem.ClaimMapViews
import Derived.JoinedTies
import Derived.KernelRfl
namespace Go.Proofs.YtcbgfjidamoilaaGreat
/- THE CELL 'sum', in the pinned program and in every row, IS THE sha256 OF THE DUMP (.gsa) THAT YtcbgfjidamoilaaGreatProg.lean LOADS. Nothing in Lean hashes anything: it is a label: what it is worth is what the hold of that sum in a sandbox is worth. -/
noncomputable def Tryz.pinned : Pinned := { name := "ytcbgfjidamoilaagreat", sum := "4842cf9b46e63bac143334ea38e052c7c00a8af9e49947d2fb7312dadb2d6511", checked := Tryz.checked }
namespace Rows
def none {H : Type} : Left H := { results := [], args := [] }

/-- 'bagatelletop.TopFalls': WHATEVER THE INPUT: true; the input reads as it did. -/
def topFallsSpec : ChangeSpec := { name := "topFalls", fn := fun _ => fun
  | [d1, d2] => { results := [.lit (.bool true)], args := [d1, d2] }
  | _ => none }
def topFallsRow : OpenClaim := { program := "ytcbgfjidamoilaagreat", sum := "4842cf9b46e63bac143334ea38e052c7c00a8af9e49947d2fb7312dadb2d6511", func := "bagatelle/bagatelletop.TopFalls", spec := "topFalls", inPlace := ["math/bits.Add64", "math/bits.Sub64", "internal/abi.NoEscape"], unfollowed := true, recurses := true, named := ["math/bits.divideError", "math/bits.overflowError"], apart := false }
def TopFallsSaid : Prop := topFallsRow.holds Tryz.pinned (OpenSpec.ofChange topFallsSpec)

/-- ITS FALSE NEIGHBOUR: 'it returns false'. Refute it at one input. -/
def topFallsWrong : ChangeSpec := { name := "topFalls", fn := fun _ => fun
  | [d1, d2] => { results := [.lit (.bool false)], args := [d1, d2] }
  | _ => none }
def TopFallsWrongFalsely : Prop := topFallsRow.holds Tryz.pinned (OpenSpec.ofChange topFallsWrong)

/-- 'bagatelletop.TopPlaced': WHATEVER THE INPUT: true; the input reads as it did. -/
def topPlacedSpec : ChangeSpec := { name := "topPlaced", fn := fun _ => fun
  | [d] => { results := [.lit (.bool true)], args := [d] }
  | _ => none }
def topPlacedRow : OpenClaim := { program := "ytcbgfjidamoilaagreat", sum := "4842cf9b46e63bac143334ea38e052c7c00a8af9e49947d2fb7312dadb2d6511", func := "bagatelle/bagatelletop.TopPlaced", spec := "topPlaced", inPlace := ["math/bits.Add64", "math/bits.Sub64", "internal/abi.NoEscape"], unfollowed := true, recurses := true, named := ["math/bits.divideError", "math/bits.overflowError"], apart := false }
def TopPlacedSaid : Prop := topPlacedRow.holds Tryz.pinned (OpenSpec.ofChange topPlacedSpec)

/-- ITS FALSE NEIGHBOUR: 'it returns false'. Refute it at one input. -/
def topPlacedWrong : ChangeSpec := { name := "topPlaced", fn := fun _ => fun
  | [d] => { results := [.lit (.bool false)], args := [d] }
  | _ => none }
def TopPlacedWrongFalsely : Prop := topPlacedRow.holds Tryz.pinned (OpenSpec.ofChange topPlacedWrong)

/-- 'bagatellelaw02.PlaneRots': WHATEVER THE INPUT: true; the input reads as it did. -/
def planeRotsSpec : ChangeSpec := { name := "planeRots", fn := fun _ => fun
  | [d1, d2, d3, d4] => { results := [.lit (.bool true)], args := [d1, d2, d3, d4] }
  | _ => none }
def planeRotsRow : OpenClaim := { program := "ytcbgfjidamoilaagreat", sum := "4842cf9b46e63bac143334ea38e052c7c00a8af9e49947d2fb7312dadb2d6511", func := "bagatelle/bagatellelaw02.PlaneRots", spec := "planeRots", inPlace := ["math/bits.Add64", "math/bits.Sub64"], unfollowed := true, recurses := true, named := ["math/bits.divideError", "math/bits.overflowError"], apart := false }
def PlaneRotsSaid : Prop := planeRotsRow.holds Tryz.pinned (OpenSpec.ofChange planeRotsSpec)

/-- ITS FALSE NEIGHBOUR: 'it returns false'. Refute it at one input. -/
def planeRotsWrong : ChangeSpec := { name := "planeRots", fn := fun _ => fun
  | [d1, d2, d3, d4] => { results := [.lit (.bool false)], args := [d1, d2, d3, d4] }
  | _ => none }
def PlaneRotsWrongFalsely : Prop := planeRotsRow.holds Tryz.pinned (OpenSpec.ofChange planeRotsWrong)

/- THE SECOND FORM. 'bulk': how many values and letters a reading holds, each counted each time it is reached (what is shared counts as often as it is met; a slice's spare places count too). A statement '..UptoSaid' is the law's where the arguments, and the package variables that the reading takes, are together of bulk at most 1048576: NARROWER than '..Said'. Prove '..Said' where nothing that the law and all that it calls make is longer than what came in: it says more and counts as full. Else prove '..UptoSaid'. A law counts once. -/
mutual
def uptoBulk {H : Type} : DataW H → Nat
  | .lit (.string bytes) => bytes.length + 1
  | .lit _ => 1
  | .nil => 1
  | .ptr d => uptoBulk d + 1
  | .slice elems spare => uptoBulkAll elems + uptoBulkAll spare + 1
  | .agg parts => uptoBulkAll parts + 1
  | .iface _ d => uptoBulk d + 1
  | .map entries => uptoBulkEntries entries + 1
  | .held _ => 1
def uptoBulkAll {H : Type} : List (DataW H) → Nat
  | [] => 0
  | d :: r => uptoBulk d + uptoBulkAll r
def uptoBulkEntries {H : Type} : List (Lit × DataW H) → Nat
  | [] => 0
  | x :: r => uptoBulkEntry x + uptoBulkEntries r
def uptoBulkEntry {H : Type} : Lit × DataW H → Nat
  | (.string bytes, d) => bytes.length + uptoBulk d + 1
  | (_, d) => uptoBulk d + 1
 end
def uptoSmall : (H : Type) → List (DataW H) → Bool := fun _ ds => decide (uptoBulkAll ds ≤ 1048576)
def OpenSpec.upto (s : _root_.Go.ChangeSpec) : _root_.Go.OpenSpec := { _root_.Go.OpenSpec.ofChange s with cond := some uptoSmall }

/-- 'bagatelletop.TopFalls', WHERE WHAT IT READS IS OF BULK AT MOST 1048576: true; the input reads as it did. -/
def topFallsUptoRow : OpenClaim := { program := "ytcbgfjidamoilaagreat", sum := "4842cf9b46e63bac143334ea38e052c7c00a8af9e49947d2fb7312dadb2d6511", func := "bagatelle/bagatelletop.TopFalls", spec := "topFalls", inPlace := ["math/bits.Add64", "math/bits.Sub64", "internal/abi.NoEscape"], unfollowed := true, recurses := true, named := ["math/bits.divideError", "math/bits.overflowError"], apart := false, narrowed := true }
def TopFallsUptoSaid : Prop := topFallsUptoRow.holds Tryz.pinned (OpenSpec.upto topFallsSpec)

/-- 'bagatelletop.TopPlaced', WHERE WHAT IT READS IS OF BULK AT MOST 1048576: true; the input reads as it did. -/
def topPlacedUptoRow : OpenClaim := { program := "ytcbgfjidamoilaagreat", sum := "4842cf9b46e63bac143334ea38e052c7c00a8af9e49947d2fb7312dadb2d6511", func := "bagatelle/bagatelletop.TopPlaced", spec := "topPlaced", inPlace := ["math/bits.Add64", "math/bits.Sub64", "internal/abi.NoEscape"], unfollowed := true, recurses := true, named := ["math/bits.divideError", "math/bits.overflowError"], apart := false, narrowed := true }
def TopPlacedUptoSaid : Prop := topPlacedUptoRow.holds Tryz.pinned (OpenSpec.upto topPlacedSpec)

/-- 'bagatellelaw02.PlaneRots', WHERE WHAT IT READS IS OF BULK AT MOST 1048576: true; the input reads as it did. -/
def planeRotsUptoRow : OpenClaim := { program := "ytcbgfjidamoilaagreat", sum := "4842cf9b46e63bac143334ea38e052c7c00a8af9e49947d2fb7312dadb2d6511", func := "bagatelle/bagatellelaw02.PlaneRots", spec := "planeRots", inPlace := ["math/bits.Add64", "math/bits.Sub64"], unfollowed := true, recurses := true, named := ["math/bits.divideError", "math/bits.overflowError"], apart := false, narrowed := true }
def PlaneRotsUptoSaid : Prop := planeRotsUptoRow.holds Tryz.pinned (OpenSpec.upto planeRotsSpec)

end Rows
end Go.Proofs.YtcbgfjidamoilaaGreat
