/-
  No cell of these rows narrows 'for every input' (looked for: loops, veiled, ifaces, maps, wideKeys, modest, calm, conditions, laid).
  DERIVED. THE GIVEN ROWS OF THIS SEAT. 15 by the template 'for every input the law returns true; each argument reads behind the call as it read before'; 0 by the template 'total and deterministic' (their statements: YtcbgfjidamoilaaTotals.lean).
  GIVEN WITH THE SEED: the statements are not yours to turn. If you find one false, say at which input.
  Laid BY PROGRAM, IN A SANDBOX (cutbox-rows.mjs): the forced cells as the released guide's own fill.sh prints them over the translation ed895d35afbb456d… (all of the seat's roots in one cut). By AI agents, Wed Nov 11 2026. No macro, syntax, notation, axiom, sorry.
-/
import Derived.Test.YtcbgfjidamoilaaChecked
import GoSem.Claim
import GoSem.ClaimJoined
import GoSem.ClaimMapViews
import Derived.JoinedTies
import Derived.KernelRfl
namespace Go.Proofs.Ytcbgfjidamoilaa
/- THE CELL 'sum', in the pinned program and in every row, IS THE sha256 OF THE DUMP (.gsa) THAT YtcbgfjidamoilaaProg.lean LOADS. Nothing in Lean hashes anything: it is a label: what it is worth is what the hold of that sum in a sandbox is worth. -/
noncomputable def Try.pinned : Pinned := { name := "ytcbgfjidamoilaa", sum := "ed895d35afbb456ddb104129e51274c56e44e82f629059887391a3c72c836e21", checked := Try.checked }
namespace Rows
def none {H : Type} : Left H := { results := [], args := [] }

/-- 'bagatellelaw02.PlaneUnit': WHATEVER THE INPUT: true; the input reads as it did. -/
def planeUnitSpec : ChangeSpec := { name := "planeUnit", fn := fun _ => fun
  | [d] => { results := [.lit (.bool true)], args := [d] }
  | _ => none }
def planeUnitRow : OpenClaim := { program := "ytcbgfjidamoilaa", sum := "ed895d35afbb456ddb104129e51274c56e44e82f629059887391a3c72c836e21", func := "bagatelle/bagatellelaw02.PlaneUnit", spec := "planeUnit", inPlace := ["math/bits.Add64", "math/bits.Sub64"], unfollowed := true, recurses := true, named := ["math/bits.divideError", "math/bits.overflowError"], apart := false }
def PlaneUnitSaid : Prop := planeUnitRow.holds Try.pinned (OpenSpec.ofChange planeUnitSpec)

/-- ITS FALSE NEIGHBOUR: 'it returns false'. Refute it at one input. -/
def planeUnitWrong : ChangeSpec := { name := "planeUnit", fn := fun _ => fun
  | [d] => { results := [.lit (.bool false)], args := [d] }
  | _ => none }
def PlaneUnitWrongFalsely : Prop := planeUnitRow.holds Try.pinned (OpenSpec.ofChange planeUnitWrong)

/-- 'bagatellelaw02.PlaneWeighs': WHATEVER THE INPUT: true; the input reads as it did. -/
def planeWeighsSpec : ChangeSpec := { name := "planeWeighs", fn := fun _ => fun
  | [d1, d2] => { results := [.lit (.bool true)], args := [d1, d2] }
  | _ => none }
def planeWeighsRow : OpenClaim := { program := "ytcbgfjidamoilaa", sum := "ed895d35afbb456ddb104129e51274c56e44e82f629059887391a3c72c836e21", func := "bagatelle/bagatellelaw02.PlaneWeighs", spec := "planeWeighs", inPlace := ["math/bits.Add64", "math/bits.Sub64"], unfollowed := true, recurses := true, named := ["math/bits.divideError", "math/bits.overflowError"], apart := false }
def PlaneWeighsSaid : Prop := planeWeighsRow.holds Try.pinned (OpenSpec.ofChange planeWeighsSpec)

/-- ITS FALSE NEIGHBOUR: 'it returns false'. Refute it at one input. -/
def planeWeighsWrong : ChangeSpec := { name := "planeWeighs", fn := fun _ => fun
  | [d1, d2] => { results := [.lit (.bool false)], args := [d1, d2] }
  | _ => none }
def PlaneWeighsWrongFalsely : Prop := planeWeighsRow.holds Try.pinned (OpenSpec.ofChange planeWeighsWrong)

/-- 'bagatellelaw02.PlaneHeavy': WHATEVER THE INPUT: true; the input reads as it did. -/
def planeHeavySpec : ChangeSpec := { name := "planeHeavy", fn := fun _ => fun
  | [d1, d2, d3, d4, d5] => { results := [.lit (.bool true)], args := [d1, d2, d3, d4, d5] }
  | _ => none }
def planeHeavyRow : OpenClaim := { program := "ytcbgfjidamoilaa", sum := "ed895d35afbb456ddb104129e51274c56e44e82f629059887391a3c72c836e21", func := "bagatelle/bagatellelaw02.PlaneHeavy", spec := "planeHeavy", inPlace := ["math/bits.Add64", "math/bits.Sub64"], unfollowed := true, recurses := true, named := ["math/bits.divideError", "math/bits.overflowError"], apart := false }
def PlaneHeavySaid : Prop := planeHeavyRow.holds Try.pinned (OpenSpec.ofChange planeHeavySpec)

/-- ITS FALSE NEIGHBOUR: 'it returns false'. Refute it at one input. -/
def planeHeavyWrong : ChangeSpec := { name := "planeHeavy", fn := fun _ => fun
  | [d1, d2, d3, d4, d5] => { results := [.lit (.bool false)], args := [d1, d2, d3, d4, d5] }
  | _ => none }
def PlaneHeavyWrongFalsely : Prop := planeHeavyRow.holds Try.pinned (OpenSpec.ofChange planeHeavyWrong)

/-- 'bagatellelaw02.PlanePlaces': WHATEVER THE INPUT: true; the input reads as it did. -/
def planePlacesSpec : ChangeSpec := { name := "planePlaces", fn := fun _ => fun
  | [d1, d2] => { results := [.lit (.bool true)], args := [d1, d2] }
  | _ => none }
def planePlacesRow : OpenClaim := { program := "ytcbgfjidamoilaa", sum := "ed895d35afbb456ddb104129e51274c56e44e82f629059887391a3c72c836e21", func := "bagatelle/bagatellelaw02.PlanePlaces", spec := "planePlaces", inPlace := ["math/bits.Add64", "math/bits.Sub64"], unfollowed := true, recurses := true, named := ["math/bits.divideError", "math/bits.overflowError"], apart := false }
def PlanePlacesSaid : Prop := planePlacesRow.holds Try.pinned (OpenSpec.ofChange planePlacesSpec)

/-- ITS FALSE NEIGHBOUR: 'it returns false'. Refute it at one input. -/
def planePlacesWrong : ChangeSpec := { name := "planePlaces", fn := fun _ => fun
  | [d1, d2] => { results := [.lit (.bool false)], args := [d1, d2] }
  | _ => none }
def PlanePlacesWrongFalsely : Prop := planePlacesRow.holds Try.pinned (OpenSpec.ofChange planePlacesWrong)

/-- 'bagatellelaw02.PlaneMakes': WHATEVER THE INPUT: true; the input reads as it did. -/
def planeMakesSpec : ChangeSpec := { name := "planeMakes", fn := fun _ => fun
  | [d1, d2, d3, d4] => { results := [.lit (.bool true)], args := [d1, d2, d3, d4] }
  | _ => none }
def planeMakesRow : OpenClaim := { program := "ytcbgfjidamoilaa", sum := "ed895d35afbb456ddb104129e51274c56e44e82f629059887391a3c72c836e21", func := "bagatelle/bagatellelaw02.PlaneMakes", spec := "planeMakes", inPlace := ["math/bits.Add64", "math/bits.Sub64"], unfollowed := true, recurses := true, named := ["math/bits.divideError", "math/bits.overflowError"], apart := false }
def PlaneMakesSaid : Prop := planeMakesRow.holds Try.pinned (OpenSpec.ofChange planeMakesSpec)

/-- ITS FALSE NEIGHBOUR: 'it returns false'. Refute it at one input. -/
def planeMakesWrong : ChangeSpec := { name := "planeMakes", fn := fun _ => fun
  | [d1, d2, d3, d4] => { results := [.lit (.bool false)], args := [d1, d2, d3, d4] }
  | _ => none }
def PlaneMakesWrongFalsely : Prop := planeMakesRow.holds Try.pinned (OpenSpec.ofChange planeMakesWrong)

/-- 'bagatellelaw02.PlaneUnits': WHATEVER THE INPUT: true; the input reads as it did. -/
def planeUnitsSpec : ChangeSpec := { name := "planeUnits", fn := fun _ => fun
  | [d1, d2] => { results := [.lit (.bool true)], args := [d1, d2] }
  | _ => none }
def planeUnitsRow : OpenClaim := { program := "ytcbgfjidamoilaa", sum := "ed895d35afbb456ddb104129e51274c56e44e82f629059887391a3c72c836e21", func := "bagatelle/bagatellelaw02.PlaneUnits", spec := "planeUnits", inPlace := ["math/bits.Add64", "math/bits.Sub64"], unfollowed := true, recurses := true, named := ["math/bits.divideError", "math/bits.overflowError"], apart := false }
def PlaneUnitsSaid : Prop := planeUnitsRow.holds Try.pinned (OpenSpec.ofChange planeUnitsSpec)

/-- ITS FALSE NEIGHBOUR: 'it returns false'. Refute it at one input. -/
def planeUnitsWrong : ChangeSpec := { name := "planeUnits", fn := fun _ => fun
  | [d1, d2] => { results := [.lit (.bool false)], args := [d1, d2] }
  | _ => none }
def PlaneUnitsWrongFalsely : Prop := planeUnitsRow.holds Try.pinned (OpenSpec.ofChange planeUnitsWrong)

/-- 'bagatellelaw02.PlaneSolves': WHATEVER THE INPUT: true; the input reads as it did. -/
def planeSolvesSpec : ChangeSpec := { name := "planeSolves", fn := fun _ => fun
  | [d1, d2, d3, d4, d5] => { results := [.lit (.bool true)], args := [d1, d2, d3, d4, d5] }
  | _ => none }
def planeSolvesRow : OpenClaim := { program := "ytcbgfjidamoilaa", sum := "ed895d35afbb456ddb104129e51274c56e44e82f629059887391a3c72c836e21", func := "bagatelle/bagatellelaw02.PlaneSolves", spec := "planeSolves", inPlace := ["math/bits.Add64", "math/bits.Sub64"], unfollowed := true, recurses := true, named := ["math/bits.divideError", "math/bits.overflowError"], apart := false }
def PlaneSolvesSaid : Prop := planeSolvesRow.holds Try.pinned (OpenSpec.ofChange planeSolvesSpec)

/-- ITS FALSE NEIGHBOUR: 'it returns false'. Refute it at one input. -/
def planeSolvesWrong : ChangeSpec := { name := "planeSolves", fn := fun _ => fun
  | [d1, d2, d3, d4, d5] => { results := [.lit (.bool false)], args := [d1, d2, d3, d4, d5] }
  | _ => none }
def PlaneSolvesWrongFalsely : Prop := planeSolvesRow.holds Try.pinned (OpenSpec.ofChange planeSolvesWrong)

/-- 'bagatellelaw02.PlaneSums': WHATEVER THE INPUT: true; the input reads as it did. -/
def planeSumsSpec : ChangeSpec := { name := "planeSums", fn := fun _ => fun
  | [d] => { results := [.lit (.bool true)], args := [d] }
  | _ => none }
def planeSumsRow : OpenClaim := { program := "ytcbgfjidamoilaa", sum := "ed895d35afbb456ddb104129e51274c56e44e82f629059887391a3c72c836e21", func := "bagatelle/bagatellelaw02.PlaneSums", spec := "planeSums", inPlace := ["math/bits.Add64", "math/bits.Sub64"], unfollowed := true, recurses := true, named := ["math/bits.divideError", "math/bits.overflowError"], apart := false }
def PlaneSumsSaid : Prop := planeSumsRow.holds Try.pinned (OpenSpec.ofChange planeSumsSpec)

/-- ITS FALSE NEIGHBOUR: 'it returns false'. Refute it at one input. -/
def planeSumsWrong : ChangeSpec := { name := "planeSums", fn := fun _ => fun
  | [d] => { results := [.lit (.bool false)], args := [d] }
  | _ => none }
def PlaneSumsWrongFalsely : Prop := planeSumsRow.holds Try.pinned (OpenSpec.ofChange planeSumsWrong)

/-- 'bagatellelaw02.PlanePoses': WHATEVER THE INPUT: true; the input reads as it did. -/
def planePosesSpec : ChangeSpec := { name := "planePoses", fn := fun _ => fun
  | [d1, d2] => { results := [.lit (.bool true)], args := [d1, d2] }
  | _ => none }
def planePosesRow : OpenClaim := { program := "ytcbgfjidamoilaa", sum := "ed895d35afbb456ddb104129e51274c56e44e82f629059887391a3c72c836e21", func := "bagatelle/bagatellelaw02.PlanePoses", spec := "planePoses", inPlace := ["math/bits.Add64", "math/bits.Sub64"], unfollowed := true, recurses := true, named := ["math/bits.divideError", "math/bits.overflowError"], apart := false }
def PlanePosesSaid : Prop := planePosesRow.holds Try.pinned (OpenSpec.ofChange planePosesSpec)

/-- ITS FALSE NEIGHBOUR: 'it returns false'. Refute it at one input. -/
def planePosesWrong : ChangeSpec := { name := "planePoses", fn := fun _ => fun
  | [d1, d2] => { results := [.lit (.bool false)], args := [d1, d2] }
  | _ => none }
def PlanePosesWrongFalsely : Prop := planePosesRow.holds Try.pinned (OpenSpec.ofChange planePosesWrong)

/-- 'bagatellelaw02.PlaneVectors': WHATEVER THE INPUT: true; the input reads as it did. -/
def planeVectorsSpec : ChangeSpec := { name := "planeVectors", fn := fun _ => fun
  | [d1, d2, d3, d4] => { results := [.lit (.bool true)], args := [d1, d2, d3, d4] }
  | _ => none }
def planeVectorsRow : OpenClaim := { program := "ytcbgfjidamoilaa", sum := "ed895d35afbb456ddb104129e51274c56e44e82f629059887391a3c72c836e21", func := "bagatelle/bagatellelaw02.PlaneVectors", spec := "planeVectors", inPlace := ["math/bits.Add64", "math/bits.Sub64"], unfollowed := true, recurses := true, named := ["math/bits.divideError", "math/bits.overflowError"], apart := false }
def PlaneVectorsSaid : Prop := planeVectorsRow.holds Try.pinned (OpenSpec.ofChange planeVectorsSpec)

/-- ITS FALSE NEIGHBOUR: 'it returns false'. Refute it at one input. -/
def planeVectorsWrong : ChangeSpec := { name := "planeVectors", fn := fun _ => fun
  | [d1, d2, d3, d4] => { results := [.lit (.bool false)], args := [d1, d2, d3, d4] }
  | _ => none }
def PlaneVectorsWrongFalsely : Prop := planeVectorsRow.holds Try.pinned (OpenSpec.ofChange planeVectorsWrong)

/-- 'bagatellelaw02.PlaneShapes': WHATEVER THE INPUT: true; the input reads as it did. -/
def planeShapesSpec : ChangeSpec := { name := "planeShapes", fn := fun _ => fun
  | [d1, d2] => { results := [.lit (.bool true)], args := [d1, d2] }
  | _ => none }
def planeShapesRow : OpenClaim := { program := "ytcbgfjidamoilaa", sum := "ed895d35afbb456ddb104129e51274c56e44e82f629059887391a3c72c836e21", func := "bagatelle/bagatellelaw02.PlaneShapes", spec := "planeShapes", inPlace := ["math/bits.Add64", "math/bits.Sub64"], unfollowed := true, recurses := true, named := ["math/bits.divideError", "math/bits.overflowError"], apart := false }
def PlaneShapesSaid : Prop := planeShapesRow.holds Try.pinned (OpenSpec.ofChange planeShapesSpec)

/-- ITS FALSE NEIGHBOUR: 'it returns false'. Refute it at one input. -/
def planeShapesWrong : ChangeSpec := { name := "planeShapes", fn := fun _ => fun
  | [d1, d2] => { results := [.lit (.bool false)], args := [d1, d2] }
  | _ => none }
def PlaneShapesWrongFalsely : Prop := planeShapesRow.holds Try.pinned (OpenSpec.ofChange planeShapesWrong)

/-- 'bagatellelaw02.PlaneCorners': WHATEVER THE INPUT: true; the input reads as it did. -/
def planeCornersSpec : ChangeSpec := { name := "planeCorners", fn := fun _ => fun
  | [d1, d2, d3] => { results := [.lit (.bool true)], args := [d1, d2, d3] }
  | _ => none }
def planeCornersRow : OpenClaim := { program := "ytcbgfjidamoilaa", sum := "ed895d35afbb456ddb104129e51274c56e44e82f629059887391a3c72c836e21", func := "bagatelle/bagatellelaw02.PlaneCorners", spec := "planeCorners", inPlace := ["math/bits.Add64", "math/bits.Sub64"], unfollowed := true, recurses := true, named := ["math/bits.divideError", "math/bits.overflowError"], apart := false }
def PlaneCornersSaid : Prop := planeCornersRow.holds Try.pinned (OpenSpec.ofChange planeCornersSpec)

/-- ITS FALSE NEIGHBOUR: 'it returns false'. Refute it at one input. -/
def planeCornersWrong : ChangeSpec := { name := "planeCorners", fn := fun _ => fun
  | [d1, d2, d3] => { results := [.lit (.bool false)], args := [d1, d2, d3] }
  | _ => none }
def PlaneCornersWrongFalsely : Prop := planeCornersRow.holds Try.pinned (OpenSpec.ofChange planeCornersWrong)

/-- 'bagatellelaw02.PlaneFaults': WHATEVER THE INPUT: true; the input reads as it did. -/
def planeFaultsSpec : ChangeSpec := { name := "planeFaults", fn := fun _ => fun
  | [d1, d2, d3, d4, d5] => { results := [.lit (.bool true)], args := [d1, d2, d3, d4, d5] }
  | _ => none }
def planeFaultsRow : OpenClaim := { program := "ytcbgfjidamoilaa", sum := "ed895d35afbb456ddb104129e51274c56e44e82f629059887391a3c72c836e21", func := "bagatelle/bagatellelaw02.PlaneFaults", spec := "planeFaults", inPlace := ["math/bits.Add64", "math/bits.Sub64"], unfollowed := true, recurses := true, named := ["math/bits.divideError", "math/bits.overflowError"], apart := false }
def PlaneFaultsSaid : Prop := planeFaultsRow.holds Try.pinned (OpenSpec.ofChange planeFaultsSpec)

/-- ITS FALSE NEIGHBOUR: 'it returns false'. Refute it at one input. -/
def planeFaultsWrong : ChangeSpec := { name := "planeFaults", fn := fun _ => fun
  | [d1, d2, d3, d4, d5] => { results := [.lit (.bool false)], args := [d1, d2, d3, d4, d5] }
  | _ => none }
def PlaneFaultsWrongFalsely : Prop := planeFaultsRow.holds Try.pinned (OpenSpec.ofChange planeFaultsWrong)

/-- 'bagatellelaw02.PlaneKnown': WHATEVER THE INPUT: true; the input reads as it did. -/
def planeKnownSpec : ChangeSpec := { name := "planeKnown", fn := fun _ => fun
  | [] => { results := [.lit (.bool true)], args := [] }
  | _ => none }
def planeKnownRow : OpenClaim := { program := "ytcbgfjidamoilaa", sum := "ed895d35afbb456ddb104129e51274c56e44e82f629059887391a3c72c836e21", func := "bagatelle/bagatellelaw02.PlaneKnown", spec := "planeKnown", inPlace := ["math/bits.Add64", "math/bits.Sub64"], unfollowed := true, recurses := true, named := ["math/bits.divideError", "math/bits.overflowError"], apart := false }
def PlaneKnownSaid : Prop := planeKnownRow.holds Try.pinned (OpenSpec.ofChange planeKnownSpec)

/-- ITS FALSE NEIGHBOUR: 'it returns false'. Refute it at one input. -/
def planeKnownWrong : ChangeSpec := { name := "planeKnown", fn := fun _ => fun
  | [] => { results := [.lit (.bool false)], args := [] }
  | _ => none }
def PlaneKnownWrongFalsely : Prop := planeKnownRow.holds Try.pinned (OpenSpec.ofChange planeKnownWrong)

/-- 'bagatellelaw02.PlaneTurns': WHATEVER THE INPUT: true; the input reads as it did. -/
def planeTurnsSpec : ChangeSpec := { name := "planeTurns", fn := fun _ => fun
  | [d1, d2, d3, d4] => { results := [.lit (.bool true)], args := [d1, d2, d3, d4] }
  | _ => none }
def planeTurnsRow : OpenClaim := { program := "ytcbgfjidamoilaa", sum := "ed895d35afbb456ddb104129e51274c56e44e82f629059887391a3c72c836e21", func := "bagatelle/bagatellelaw02.PlaneTurns", spec := "planeTurns", inPlace := ["math/bits.Add64", "math/bits.Sub64"], unfollowed := true, recurses := true, named := ["math/bits.divideError", "math/bits.overflowError"], apart := false }
def PlaneTurnsSaid : Prop := planeTurnsRow.holds Try.pinned (OpenSpec.ofChange planeTurnsSpec)

/-- ITS FALSE NEIGHBOUR: 'it returns false'. Refute it at one input. -/
def planeTurnsWrong : ChangeSpec := { name := "planeTurns", fn := fun _ => fun
  | [d1, d2, d3, d4] => { results := [.lit (.bool false)], args := [d1, d2, d3, d4] }
  | _ => none }
def PlaneTurnsWrongFalsely : Prop := planeTurnsRow.holds Try.pinned (OpenSpec.ofChange planeTurnsWrong)

/- THE SECOND FORM. 'bulk': how many values and letters a reading holds, each counted each time it is reached (what is shared counts as often as it is met; a slice's spare places count too). A statement '..UptoSaid' is the law's where the arguments, and the package variables that the reading takes, are together of bulk at most 1048576: NARROWER than '..Said'. Prove '..Said' where nothing that the law and all that it calls make is longer than what came in: it says more and counts as full. Else prove '..UptoSaid'. A law counts once. -/
mutual
def uptoBulk {H : Type} : DataW H → Nat
  | .lit (.string bytes) => bytes.length + 1
  | .lit _ => 1
  | .nil => 1
  | .ptr d => uptoBulk d + 1
  | .slice elems spare => uptoBulkAll elems + uptoBulkAll spare + 1
  | .agg parts => uptoBulkAll parts + 1
  | .iface _ d => uptoBulk d + 1
  | .map entries => uptoBulkEntries entries + 1
  | .held _ => 1
def uptoBulkAll {H : Type} : List (DataW H) → Nat
  | [] => 0
  | d :: r => uptoBulk d + uptoBulkAll r
def uptoBulkEntries {H : Type} : List (Lit × DataW H) → Nat
  | [] => 0
  | x :: r => uptoBulkEntry x + uptoBulkEntries r
def uptoBulkEntry {H : Type} : Lit × DataW H → Nat
  | (.string bytes, d) => bytes.length + uptoBulk d + 1
  | (_, d) => uptoBulk d + 1
 end
def uptoSmall : (H : Type) → List (DataW H) → Bool := fun _ ds => decide (uptoBulkAll ds ≤ 1048576)
def OpenSpec.upto (s : _root_.Go.ChangeSpec) : _root_.Go.OpenSpec := { _root_.Go.OpenSpec.ofChange s with cond := some uptoSmall }

/-- 'bagatellelaw02.PlaneUnit', WHERE WHAT IT READS IS OF BULK AT MOST 1048576: true; the input reads as it did. -/
def planeUnitUptoRow : OpenClaim := { program := "ytcbgfjidamoilaa", sum := "ed895d35afbb456ddb104129e51274c56e44e82f629059887391a3c72c836e21", func := "bagatelle/bagatellelaw02.PlaneUnit", spec := "planeUnit", inPlace := ["math/bits.Add64", "math/bits.Sub64"], unfollowed := true, recurses := true, named := ["math/bits.divideError", "math/bits.overflowError"], apart := false, narrowed := true }
def PlaneUnitUptoSaid : Prop := planeUnitUptoRow.holds Try.pinned (OpenSpec.upto planeUnitSpec)

/-- 'bagatellelaw02.PlaneWeighs', WHERE WHAT IT READS IS OF BULK AT MOST 1048576: true; the input reads as it did. -/
def planeWeighsUptoRow : OpenClaim := { program := "ytcbgfjidamoilaa", sum := "ed895d35afbb456ddb104129e51274c56e44e82f629059887391a3c72c836e21", func := "bagatelle/bagatellelaw02.PlaneWeighs", spec := "planeWeighs", inPlace := ["math/bits.Add64", "math/bits.Sub64"], unfollowed := true, recurses := true, named := ["math/bits.divideError", "math/bits.overflowError"], apart := false, narrowed := true }
def PlaneWeighsUptoSaid : Prop := planeWeighsUptoRow.holds Try.pinned (OpenSpec.upto planeWeighsSpec)

/-- 'bagatellelaw02.PlaneHeavy', WHERE WHAT IT READS IS OF BULK AT MOST 1048576: true; the input reads as it did. -/
def planeHeavyUptoRow : OpenClaim := { program := "ytcbgfjidamoilaa", sum := "ed895d35afbb456ddb104129e51274c56e44e82f629059887391a3c72c836e21", func := "bagatelle/bagatellelaw02.PlaneHeavy", spec := "planeHeavy", inPlace := ["math/bits.Add64", "math/bits.Sub64"], unfollowed := true, recurses := true, named := ["math/bits.divideError", "math/bits.overflowError"], apart := false, narrowed := true }
def PlaneHeavyUptoSaid : Prop := planeHeavyUptoRow.holds Try.pinned (OpenSpec.upto planeHeavySpec)

/-- 'bagatellelaw02.PlanePlaces', WHERE WHAT IT READS IS OF BULK AT MOST 1048576: true; the input reads as it did. -/
def planePlacesUptoRow : OpenClaim := { program := "ytcbgfjidamoilaa", sum := "ed895d35afbb456ddb104129e51274c56e44e82f629059887391a3c72c836e21", func := "bagatelle/bagatellelaw02.PlanePlaces", spec := "planePlaces", inPlace := ["math/bits.Add64", "math/bits.Sub64"], unfollowed := true, recurses := true, named := ["math/bits.divideError", "math/bits.overflowError"], apart := false, narrowed := true }
def PlanePlacesUptoSaid : Prop := planePlacesUptoRow.holds Try.pinned (OpenSpec.upto planePlacesSpec)

/-- 'bagatellelaw02.PlaneMakes', WHERE WHAT IT READS IS OF BULK AT MOST 1048576: true; the input reads as it did. -/
def planeMakesUptoRow : OpenClaim := { program := "ytcbgfjidamoilaa", sum := "ed895d35afbb456ddb104129e51274c56e44e82f629059887391a3c72c836e21", func := "bagatelle/bagatellelaw02.PlaneMakes", spec := "planeMakes", inPlace := ["math/bits.Add64", "math/bits.Sub64"], unfollowed := true, recurses := true, named := ["math/bits.divideError", "math/bits.overflowError"], apart := false, narrowed := true }
def PlaneMakesUptoSaid : Prop := planeMakesUptoRow.holds Try.pinned (OpenSpec.upto planeMakesSpec)

/-- 'bagatellelaw02.PlaneUnits', WHERE WHAT IT READS IS OF BULK AT MOST 1048576: true; the input reads as it did. -/
def planeUnitsUptoRow : OpenClaim := { program := "ytcbgfjidamoilaa", sum := "ed895d35afbb456ddb104129e51274c56e44e82f629059887391a3c72c836e21", func := "bagatelle/bagatellelaw02.PlaneUnits", spec := "planeUnits", inPlace := ["math/bits.Add64", "math/bits.Sub64"], unfollowed := true, recurses := true, named := ["math/bits.divideError", "math/bits.overflowError"], apart := false, narrowed := true }
def PlaneUnitsUptoSaid : Prop := planeUnitsUptoRow.holds Try.pinned (OpenSpec.upto planeUnitsSpec)

/-- 'bagatellelaw02.PlaneSolves', WHERE WHAT IT READS IS OF BULK AT MOST 1048576: true; the input reads as it did. -/
def planeSolvesUptoRow : OpenClaim := { program := "ytcbgfjidamoilaa", sum := "ed895d35afbb456ddb104129e51274c56e44e82f629059887391a3c72c836e21", func := "bagatelle/bagatellelaw02.PlaneSolves", spec := "planeSolves", inPlace := ["math/bits.Add64", "math/bits.Sub64"], unfollowed := true, recurses := true, named := ["math/bits.divideError", "math/bits.overflowError"], apart := false, narrowed := true }
def PlaneSolvesUptoSaid : Prop := planeSolvesUptoRow.holds Try.pinned (OpenSpec.upto planeSolvesSpec)

/-- 'bagatellelaw02.PlaneSums', WHERE WHAT IT READS IS OF BULK AT MOST 1048576: true; the input reads as it did. -/
def planeSumsUptoRow : OpenClaim := { program := "ytcbgfjidamoilaa", sum := "ed895d35afbb456ddb104129e51274c56e44e82f629059887391a3c72c836e21", func := "bagatelle/bagatellelaw02.PlaneSums", spec := "planeSums", inPlace := ["math/bits.Add64", "math/bits.Sub64"], unfollowed := true, recurses := true, named := ["math/bits.divideError", "math/bits.overflowError"], apart := false, narrowed := true }
def PlaneSumsUptoSaid : Prop := planeSumsUptoRow.holds Try.pinned (OpenSpec.upto planeSumsSpec)

/-- 'bagatellelaw02.PlanePoses', WHERE WHAT IT READS IS OF BULK AT MOST 1048576: true; the input reads as it did. -/
def planePosesUptoRow : OpenClaim := { program := "ytcbgfjidamoilaa", sum := "ed895d35afbb456ddb104129e51274c56e44e82f629059887391a3c72c836e21", func := "bagatelle/bagatellelaw02.PlanePoses", spec := "planePoses", inPlace := ["math/bits.Add64", "math/bits.Sub64"], unfollowed := true, recurses := true, named := ["math/bits.divideError", "math/bits.overflowError"], apart := false, narrowed := true }
def PlanePosesUptoSaid : Prop := planePosesUptoRow.holds Try.pinned (OpenSpec.upto planePosesSpec)

/-- 'bagatellelaw02.PlaneVectors', WHERE WHAT IT READS IS OF BULK AT MOST 1048576: true; the input reads as it did. -/
def planeVectorsUptoRow : OpenClaim := { program := "ytcbgfjidamoilaa", sum := "ed895d35afbb456ddb104129e51274c56e44e82f629059887391a3c72c836e21", func := "bagatelle/bagatellelaw02.PlaneVectors", spec := "planeVectors", inPlace := ["math/bits.Add64", "math/bits.Sub64"], unfollowed := true, recurses := true, named := ["math/bits.divideError", "math/bits.overflowError"], apart := false, narrowed := true }
def PlaneVectorsUptoSaid : Prop := planeVectorsUptoRow.holds Try.pinned (OpenSpec.upto planeVectorsSpec)

/-- 'bagatellelaw02.PlaneShapes', WHERE WHAT IT READS IS OF BULK AT MOST 1048576: true; the input reads as it did. -/
def planeShapesUptoRow : OpenClaim := { program := "ytcbgfjidamoilaa", sum := "ed895d35afbb456ddb104129e51274c56e44e82f629059887391a3c72c836e21", func := "bagatelle/bagatellelaw02.PlaneShapes", spec := "planeShapes", inPlace := ["math/bits.Add64", "math/bits.Sub64"], unfollowed := true, recurses := true, named := ["math/bits.divideError", "math/bits.overflowError"], apart := false, narrowed := true }
def PlaneShapesUptoSaid : Prop := planeShapesUptoRow.holds Try.pinned (OpenSpec.upto planeShapesSpec)

/-- 'bagatellelaw02.PlaneCorners', WHERE WHAT IT READS IS OF BULK AT MOST 1048576: true; the input reads as it did. -/
def planeCornersUptoRow : OpenClaim := { program := "ytcbgfjidamoilaa", sum := "ed895d35afbb456ddb104129e51274c56e44e82f629059887391a3c72c836e21", func := "bagatelle/bagatellelaw02.PlaneCorners", spec := "planeCorners", inPlace := ["math/bits.Add64", "math/bits.Sub64"], unfollowed := true, recurses := true, named := ["math/bits.divideError", "math/bits.overflowError"], apart := false, narrowed := true }
def PlaneCornersUptoSaid : Prop := planeCornersUptoRow.holds Try.pinned (OpenSpec.upto planeCornersSpec)

/-- 'bagatellelaw02.PlaneFaults', WHERE WHAT IT READS IS OF BULK AT MOST 1048576: true; the input reads as it did. -/
def planeFaultsUptoRow : OpenClaim := { program := "ytcbgfjidamoilaa", sum := "ed895d35afbb456ddb104129e51274c56e44e82f629059887391a3c72c836e21", func := "bagatelle/bagatellelaw02.PlaneFaults", spec := "planeFaults", inPlace := ["math/bits.Add64", "math/bits.Sub64"], unfollowed := true, recurses := true, named := ["math/bits.divideError", "math/bits.overflowError"], apart := false, narrowed := true }
def PlaneFaultsUptoSaid : Prop := planeFaultsUptoRow.holds Try.pinned (OpenSpec.upto planeFaultsSpec)

/-- 'bagatellelaw02.PlaneKnown', WHERE WHAT IT READS IS OF BULK AT MOST 1048576: true; the input reads as it did. -/
def planeKnownUptoRow : OpenClaim := { program := "ytcbgfjidamoilaa", sum := "ed895d35afbb456ddb104129e51274c56e44e82f629059887391a3c72c836e21", func := "bagatelle/bagatellelaw02.PlaneKnown", spec := "planeKnown", inPlace := ["math/bits.Add64", "math/bits.Sub64"], unfollowed := true, recurses := true, named := ["math/bits.divideError", "math/bits.overflowError"], apart := false, narrowed := true }
def PlaneKnownUptoSaid : Prop := planeKnownUptoRow.holds Try.pinned (OpenSpec.upto planeKnownSpec)

/-- 'bagatellelaw02.PlaneTurns', WHERE WHAT IT READS IS OF BULK AT MOST 1048576: true; the input reads as it did. -/
def planeTurnsUptoRow : OpenClaim := { program := "ytcbgfjidamoilaa", sum := "ed895d35afbb456ddb104129e51274c56e44e82f629059887391a3c72c836e21", func := "bagatelle/bagatellelaw02.PlaneTurns", spec := "planeTurns", inPlace := ["math/bits.Add64", "math/bits.Sub64"], unfollowed := true, recurses := true, named := ["math/bits.divideError", "math/bits.overflowError"], apart := false, narrowed := true }
def PlaneTurnsUptoSaid : Prop := planeTurnsUptoRow.holds Try.pinned (OpenSpec.upto planeTurnsSpec)

end Rows
end Go.Proofs.Ytcbgfjidamoilaa
