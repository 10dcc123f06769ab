/-
  No cell of these rows narrows 'for every input' (looked for: loops, veiled, ifaces, maps, wideKeys, modest, calm, conditions, laid).
  DERIVED. THE GIVEN ROWS OF THIS SEAT. 27 by the template 'for every input the law returns true; each argument reads behind the call as it read before'; 0 by the template 'total and deterministic' (their statements: YtefnlalldgbcaaaTotals.lean).
  GIVEN WITH THE SEED: the statements are not yours to turn. If you find one false, say at which input.
  Laid BY PROGRAM, IN A SANDBOX (cutbox-rows.mjs): the forced cells as the released guide's own fill.sh prints them over the translation cadc61458f31eafc… (all of the seat's roots in one cut). By AI agents, Wed Nov 11 2026. No macro, syntax, notation, axiom, sorry.
-/
import Derived.Test.YtefnlalldgbcaaaChecked
import GoSem.Claim
import GoSem.ClaimJoined
import GoSem.ClaimMapViews
import Derived.JoinedTies
import Derived.KernelRfl
namespace Go.Proofs.Ytefnlalldgbcaaa
/- THE CELL 'sum', in the pinned program and in every row, IS THE sha256 OF THE DUMP (.gsa) THAT YtefnlalldgbcaaaProg.lean LOADS. Nothing in Lean hashes anything: it is a label: what it is worth is what the hold of that sum in a sandbox is worth. -/
noncomputable def Try.pinned : Pinned := { name := "ytefnlalldgbcaaa", sum := "cadc61458f31eafc4b3e3dc77a4a9a74c614e9e889173284be758fbcb5e0f000", checked := Try.checked }
namespace Rows
def none {H : Type} : Left H := { results := [], args := [] }

/-- 'laws.FnExactIsSpot': WHATEVER THE INPUT: true; the input reads as it did. -/
def fnExactIsSpotSpec : ChangeSpec := { name := "fnExactIsSpot", fn := fun _ => fun
  | [d] => { results := [.lit (.bool true)], args := [d] }
  | _ => none }
def fnExactIsSpotRow : OpenClaim := { program := "ytefnlalldgbcaaa", sum := "cadc61458f31eafc4b3e3dc77a4a9a74c614e9e889173284be758fbcb5e0f000", func := "loop.example/g01328/laws.FnExactIsSpot", spec := "fnExactIsSpot", unfollowed := true, recurses := true, apart := false }
def FnExactIsSpotSaid : Prop := fnExactIsSpotRow.holds Try.pinned (OpenSpec.ofChange fnExactIsSpotSpec)

/-- ITS FALSE NEIGHBOUR: 'it returns false'. Refute it at one input. -/
def fnExactIsSpotWrong : ChangeSpec := { name := "fnExactIsSpot", fn := fun _ => fun
  | [d] => { results := [.lit (.bool false)], args := [d] }
  | _ => none }
def FnExactIsSpotWrongFalsely : Prop := fnExactIsSpotRow.holds Try.pinned (OpenSpec.ofChange fnExactIsSpotWrong)

/-- 'laws.FnExactSameSpot': WHATEVER THE INPUT: true; the input reads as it did. -/
def fnExactSameSpotSpec : ChangeSpec := { name := "fnExactSameSpot", fn := fun _ => fun
  | [d1, d2] => { results := [.lit (.bool true)], args := [d1, d2] }
  | _ => none }
def fnExactSameSpotRow : OpenClaim := { program := "ytefnlalldgbcaaa", sum := "cadc61458f31eafc4b3e3dc77a4a9a74c614e9e889173284be758fbcb5e0f000", func := "loop.example/g01328/laws.FnExactSameSpot", spec := "fnExactSameSpot", inPlace := ["math.Float32bits", "math.Float64bits"], apart := false }
def FnExactSameSpotSaid : Prop := fnExactSameSpotRow.holds Try.pinned (OpenSpec.ofChange fnExactSameSpotSpec)

/-- ITS FALSE NEIGHBOUR: 'it returns false'. Refute it at one input. -/
def fnExactSameSpotWrong : ChangeSpec := { name := "fnExactSameSpot", fn := fun _ => fun
  | [d1, d2] => { results := [.lit (.bool false)], args := [d1, d2] }
  | _ => none }
def FnExactSameSpotWrongFalsely : Prop := fnExactSameSpotRow.holds Try.pinned (OpenSpec.ofChange fnExactSameSpotWrong)

/-- 'laws.FnExactTrianglesOf': WHATEVER THE INPUT: true; the input reads as it did. -/
def fnExactTrianglesOfSpec : ChangeSpec := { name := "fnExactTrianglesOf", fn := fun _ => fun
  | [d1, d2] => { results := [.lit (.bool true)], args := [d1, d2] }
  | _ => none }
def fnExactTrianglesOfRow : OpenClaim := { program := "ytefnlalldgbcaaa", sum := "cadc61458f31eafc4b3e3dc77a4a9a74c614e9e889173284be758fbcb5e0f000", func := "loop.example/g01328/laws.FnExactTrianglesOf", spec := "fnExactTrianglesOf", apart := false }
def FnExactTrianglesOfSaid : Prop := fnExactTrianglesOfRow.holds Try.pinned (OpenSpec.ofChange fnExactTrianglesOfSpec)

/-- ITS FALSE NEIGHBOUR: 'it returns false'. Refute it at one input. -/
def fnExactTrianglesOfWrong : ChangeSpec := { name := "fnExactTrianglesOf", fn := fun _ => fun
  | [d1, d2] => { results := [.lit (.bool false)], args := [d1, d2] }
  | _ => none }
def FnExactTrianglesOfWrongFalsely : Prop := fnExactTrianglesOfRow.holds Try.pinned (OpenSpec.ofChange fnExactTrianglesOfWrong)

/-- 'laws.FnExactCrossSpots': WHATEVER THE INPUT: true; the input reads as it did. -/
def fnExactCrossSpotsSpec : ChangeSpec := { name := "fnExactCrossSpots", fn := fun _ => fun
  | [d1, d2] => { results := [.lit (.bool true)], args := [d1, d2] }
  | _ => none }
def fnExactCrossSpotsRow : OpenClaim := { program := "ytefnlalldgbcaaa", sum := "cadc61458f31eafc4b3e3dc77a4a9a74c614e9e889173284be758fbcb5e0f000", func := "loop.example/g01328/laws.FnExactCrossSpots", spec := "fnExactCrossSpots", unfollowed := true, recurses := true, apart := false }
def FnExactCrossSpotsSaid : Prop := fnExactCrossSpotsRow.holds Try.pinned (OpenSpec.ofChange fnExactCrossSpotsSpec)

/-- ITS FALSE NEIGHBOUR: 'it returns false'. Refute it at one input. -/
def fnExactCrossSpotsWrong : ChangeSpec := { name := "fnExactCrossSpots", fn := fun _ => fun
  | [d1, d2] => { results := [.lit (.bool false)], args := [d1, d2] }
  | _ => none }
def FnExactCrossSpotsWrongFalsely : Prop := fnExactCrossSpotsRow.holds Try.pinned (OpenSpec.ofChange fnExactCrossSpotsWrong)

/-- 'laws.FnExactValidSheet': WHATEVER THE INPUT: true; the input reads as it did. -/
def fnExactValidSheetSpec : ChangeSpec := { name := "fnExactValidSheet", fn := fun _ => fun
  | [d] => { results := [.lit (.bool true)], args := [d] }
  | _ => none }
def fnExactValidSheetRow : OpenClaim := { program := "ytefnlalldgbcaaa", sum := "cadc61458f31eafc4b3e3dc77a4a9a74c614e9e889173284be758fbcb5e0f000", func := "loop.example/g01328/laws.FnExactValidSheet", spec := "fnExactValidSheet", unfollowed := true, recurses := true, apart := false }
def FnExactValidSheetSaid : Prop := fnExactValidSheetRow.holds Try.pinned (OpenSpec.ofChange fnExactValidSheetSpec)

/-- ITS FALSE NEIGHBOUR: 'it returns false'. Refute it at one input. -/
def fnExactValidSheetWrong : ChangeSpec := { name := "fnExactValidSheet", fn := fun _ => fun
  | [d] => { results := [.lit (.bool false)], args := [d] }
  | _ => none }
def FnExactValidSheetWrongFalsely : Prop := fnExactValidSheetRow.holds Try.pinned (OpenSpec.ofChange fnExactValidSheetWrong)

/-- 'laws.FnExactSameSheet': WHATEVER THE INPUT: true; the input reads as it did. -/
def fnExactSameSheetSpec : ChangeSpec := { name := "fnExactSameSheet", fn := fun _ => fun
  | [d1, d2] => { results := [.lit (.bool true)], args := [d1, d2] }
  | _ => none }
def fnExactSameSheetRow : OpenClaim := { program := "ytefnlalldgbcaaa", sum := "cadc61458f31eafc4b3e3dc77a4a9a74c614e9e889173284be758fbcb5e0f000", func := "loop.example/g01328/laws.FnExactSameSheet", spec := "fnExactSameSheet", inPlace := ["math.Float32bits", "math.Float64bits"], unfollowed := true, recurses := true, apart := false }
def FnExactSameSheetSaid : Prop := fnExactSameSheetRow.holds Try.pinned (OpenSpec.ofChange fnExactSameSheetSpec)

/-- ITS FALSE NEIGHBOUR: 'it returns false'. Refute it at one input. -/
def fnExactSameSheetWrong : ChangeSpec := { name := "fnExactSameSheet", fn := fun _ => fun
  | [d1, d2] => { results := [.lit (.bool false)], args := [d1, d2] }
  | _ => none }
def FnExactSameSheetWrongFalsely : Prop := fnExactSameSheetRow.holds Try.pinned (OpenSpec.ofChange fnExactSameSheetWrong)

/-- 'laws.FnExactBoxOfSpots': WHATEVER THE INPUT: true; the input reads as it did. -/
def fnExactBoxOfSpotsSpec : ChangeSpec := { name := "fnExactBoxOfSpots", fn := fun _ => fun
  | [d] => { results := [.lit (.bool true)], args := [d] }
  | _ => none }
def fnExactBoxOfSpotsRow : OpenClaim := { program := "ytefnlalldgbcaaa", sum := "cadc61458f31eafc4b3e3dc77a4a9a74c614e9e889173284be758fbcb5e0f000", func := "loop.example/g01328/laws.FnExactBoxOfSpots", spec := "fnExactBoxOfSpots", unfollowed := true, recurses := true, apart := false }
def FnExactBoxOfSpotsSaid : Prop := fnExactBoxOfSpotsRow.holds Try.pinned (OpenSpec.ofChange fnExactBoxOfSpotsSpec)

/-- ITS FALSE NEIGHBOUR: 'it returns false'. Refute it at one input. -/
def fnExactBoxOfSpotsWrong : ChangeSpec := { name := "fnExactBoxOfSpots", fn := fun _ => fun
  | [d] => { results := [.lit (.bool false)], args := [d] }
  | _ => none }
def FnExactBoxOfSpotsWrongFalsely : Prop := fnExactBoxOfSpotsRow.holds Try.pinned (OpenSpec.ofChange fnExactBoxOfSpotsWrong)

/-- 'laws.FnPatches': WHATEVER THE INPUT: true; the input reads as it did. -/
def fnPatchesSpec : ChangeSpec := { name := "fnPatches", fn := fun _ => fun
  | [d1, d2] => { results := [.lit (.bool true)], args := [d1, d2] }
  | _ => none }
def fnPatchesRow : OpenClaim := { program := "ytefnlalldgbcaaa", sum := "cadc61458f31eafc4b3e3dc77a4a9a74c614e9e889173284be758fbcb5e0f000", func := "loop.example/g01328/laws.FnPatches", spec := "fnPatches", unfollowed := true, recurses := true, apart := false }
def FnPatchesSaid : Prop := fnPatchesRow.holds Try.pinned (OpenSpec.ofChange fnPatchesSpec)

/-- ITS FALSE NEIGHBOUR: 'it returns false'. Refute it at one input. -/
def fnPatchesWrong : ChangeSpec := { name := "fnPatches", fn := fun _ => fun
  | [d1, d2] => { results := [.lit (.bool false)], args := [d1, d2] }
  | _ => none }
def FnPatchesWrongFalsely : Prop := fnPatchesRow.holds Try.pinned (OpenSpec.ofChange fnPatchesWrong)

/-- 'laws.FnExactLongOfSpot': WHATEVER THE INPUT: true; the input reads as it did. -/
def fnExactLongOfSpotSpec : ChangeSpec := { name := "fnExactLongOfSpot", fn := fun _ => fun
  | [d] => { results := [.lit (.bool true)], args := [d] }
  | _ => none }
def fnExactLongOfSpotRow : OpenClaim := { program := "ytefnlalldgbcaaa", sum := "cadc61458f31eafc4b3e3dc77a4a9a74c614e9e889173284be758fbcb5e0f000", func := "loop.example/g01328/laws.FnExactLongOfSpot", spec := "fnExactLongOfSpot", inPlace := ["math.sqrt"], unfollowed := true, recurses := true, apart := false }
def FnExactLongOfSpotSaid : Prop := fnExactLongOfSpotRow.holds Try.pinned (OpenSpec.ofChange fnExactLongOfSpotSpec)

/-- ITS FALSE NEIGHBOUR: 'it returns false'. Refute it at one input. -/
def fnExactLongOfSpotWrong : ChangeSpec := { name := "fnExactLongOfSpot", fn := fun _ => fun
  | [d] => { results := [.lit (.bool false)], args := [d] }
  | _ => none }
def FnExactLongOfSpotWrongFalsely : Prop := fnExactLongOfSpotRow.holds Try.pinned (OpenSpec.ofChange fnExactLongOfSpotWrong)

/-- 'laws.FnExactCornerSheet': WHATEVER THE INPUT: true; the input reads as it did. -/
def fnExactCornerSheetSpec : ChangeSpec := { name := "fnExactCornerSheet", fn := fun _ => fun
  | [d1, d2, d3, d4] => { results := [.lit (.bool true)], args := [d1, d2, d3, d4] }
  | _ => none }
def fnExactCornerSheetRow : OpenClaim := { program := "ytefnlalldgbcaaa", sum := "cadc61458f31eafc4b3e3dc77a4a9a74c614e9e889173284be758fbcb5e0f000", func := "loop.example/g01328/laws.FnExactCornerSheet", spec := "fnExactCornerSheet", unfollowed := true, recurses := true, apart := false }
def FnExactCornerSheetSaid : Prop := fnExactCornerSheetRow.holds Try.pinned (OpenSpec.ofChange fnExactCornerSheetSpec)

/-- ITS FALSE NEIGHBOUR: 'it returns false'. Refute it at one input. -/
def fnExactCornerSheetWrong : ChangeSpec := { name := "fnExactCornerSheet", fn := fun _ => fun
  | [d1, d2, d3, d4] => { results := [.lit (.bool false)], args := [d1, d2, d3, d4] }
  | _ => none }
def FnExactCornerSheetWrongFalsely : Prop := fnExactCornerSheetRow.holds Try.pinned (OpenSpec.ofChange fnExactCornerSheetWrong)

/-- 'laws.FnExactPatchAt': WHATEVER THE INPUT: true; the input reads as it did. -/
def fnExactPatchAtSpec : ChangeSpec := { name := "fnExactPatchAt", fn := fun _ => fun
  | [d1, d2, d3, d4] => { results := [.lit (.bool true)], args := [d1, d2, d3, d4] }
  | _ => none }
def fnExactPatchAtRow : OpenClaim := { program := "ytefnlalldgbcaaa", sum := "cadc61458f31eafc4b3e3dc77a4a9a74c614e9e889173284be758fbcb5e0f000", func := "loop.example/g01328/laws.FnExactPatchAt", spec := "fnExactPatchAt", unfollowed := true, recurses := true, apart := false }
def FnExactPatchAtSaid : Prop := fnExactPatchAtRow.holds Try.pinned (OpenSpec.ofChange fnExactPatchAtSpec)

/-- ITS FALSE NEIGHBOUR: 'it returns false'. Refute it at one input. -/
def fnExactPatchAtWrong : ChangeSpec := { name := "fnExactPatchAt", fn := fun _ => fun
  | [d1, d2, d3, d4] => { results := [.lit (.bool false)], args := [d1, d2, d3, d4] }
  | _ => none }
def FnExactPatchAtWrongFalsely : Prop := fnExactPatchAtRow.holds Try.pinned (OpenSpec.ofChange fnExactPatchAtWrong)

/-- 'laws.FnExactFlatSheet': WHATEVER THE INPUT: true; the input reads as it did. -/
def fnExactFlatSheetSpec : ChangeSpec := { name := "fnExactFlatSheet", fn := fun _ => fun
  | [d1, d2, d3, d4] => { results := [.lit (.bool true)], args := [d1, d2, d3, d4] }
  | _ => none }
def fnExactFlatSheetRow : OpenClaim := { program := "ytefnlalldgbcaaa", sum := "cadc61458f31eafc4b3e3dc77a4a9a74c614e9e889173284be758fbcb5e0f000", func := "loop.example/g01328/laws.FnExactFlatSheet", spec := "fnExactFlatSheet", unfollowed := true, recurses := true, apart := false }
def FnExactFlatSheetSaid : Prop := fnExactFlatSheetRow.holds Try.pinned (OpenSpec.ofChange fnExactFlatSheetSpec)

/-- ITS FALSE NEIGHBOUR: 'it returns false'. Refute it at one input. -/
def fnExactFlatSheetWrong : ChangeSpec := { name := "fnExactFlatSheet", fn := fun _ => fun
  | [d1, d2, d3, d4] => { results := [.lit (.bool false)], args := [d1, d2, d3, d4] }
  | _ => none }
def FnExactFlatSheetWrongFalsely : Prop := fnExactFlatSheetRow.holds Try.pinned (OpenSpec.ofChange fnExactFlatSheetWrong)

/-- 'laws.FnExactMoveSpot': WHATEVER THE INPUT: true; the input reads as it did. -/
def fnExactMoveSpotSpec : ChangeSpec := { name := "fnExactMoveSpot", fn := fun _ => fun
  | [d1, d2, d3] => { results := [.lit (.bool true)], args := [d1, d2, d3] }
  | _ => none }
def fnExactMoveSpotRow : OpenClaim := { program := "ytefnlalldgbcaaa", sum := "cadc61458f31eafc4b3e3dc77a4a9a74c614e9e889173284be758fbcb5e0f000", func := "loop.example/g01328/laws.FnExactMoveSpot", spec := "fnExactMoveSpot", unfollowed := true, recurses := true, apart := false }
def FnExactMoveSpotSaid : Prop := fnExactMoveSpotRow.holds Try.pinned (OpenSpec.ofChange fnExactMoveSpotSpec)

/-- ITS FALSE NEIGHBOUR: 'it returns false'. Refute it at one input. -/
def fnExactMoveSpotWrong : ChangeSpec := { name := "fnExactMoveSpot", fn := fun _ => fun
  | [d1, d2, d3] => { results := [.lit (.bool false)], args := [d1, d2, d3] }
  | _ => none }
def FnExactMoveSpotWrongFalsely : Prop := fnExactMoveSpotRow.holds Try.pinned (OpenSpec.ofChange fnExactMoveSpotWrong)

/-- 'laws.FnExactFlipSheet': WHATEVER THE INPUT: true; the input reads as it did. -/
def fnExactFlipSheetSpec : ChangeSpec := { name := "fnExactFlipSheet", fn := fun _ => fun
  | [d] => { results := [.lit (.bool true)], args := [d] }
  | _ => none }
def fnExactFlipSheetRow : OpenClaim := { program := "ytefnlalldgbcaaa", sum := "cadc61458f31eafc4b3e3dc77a4a9a74c614e9e889173284be758fbcb5e0f000", func := "loop.example/g01328/laws.FnExactFlipSheet", spec := "fnExactFlipSheet", unfollowed := true, recurses := true, apart := false }
def FnExactFlipSheetSaid : Prop := fnExactFlipSheetRow.holds Try.pinned (OpenSpec.ofChange fnExactFlipSheetSpec)

/-- ITS FALSE NEIGHBOUR: 'it returns false'. Refute it at one input. -/
def fnExactFlipSheetWrong : ChangeSpec := { name := "fnExactFlipSheet", fn := fun _ => fun
  | [d] => { results := [.lit (.bool false)], args := [d] }
  | _ => none }
def FnExactFlipSheetWrongFalsely : Prop := fnExactFlipSheetRow.holds Try.pinned (OpenSpec.ofChange fnExactFlipSheetWrong)

/-- 'laws.FnExactRaisePatch': WHATEVER THE INPUT: true; the input reads as it did. -/
def fnExactRaisePatchSpec : ChangeSpec := { name := "fnExactRaisePatch", fn := fun _ => fun
  | [d1, d2] => { results := [.lit (.bool true)], args := [d1, d2] }
  | _ => none }
def fnExactRaisePatchRow : OpenClaim := { program := "ytefnlalldgbcaaa", sum := "cadc61458f31eafc4b3e3dc77a4a9a74c614e9e889173284be758fbcb5e0f000", func := "loop.example/g01328/laws.FnExactRaisePatch", spec := "fnExactRaisePatch", unfollowed := true, recurses := true, apart := false }
def FnExactRaisePatchSaid : Prop := fnExactRaisePatchRow.holds Try.pinned (OpenSpec.ofChange fnExactRaisePatchSpec)

/-- ITS FALSE NEIGHBOUR: 'it returns false'. Refute it at one input. -/
def fnExactRaisePatchWrong : ChangeSpec := { name := "fnExactRaisePatch", fn := fun _ => fun
  | [d1, d2] => { results := [.lit (.bool false)], args := [d1, d2] }
  | _ => none }
def FnExactRaisePatchWrongFalsely : Prop := fnExactRaisePatchRow.holds Try.pinned (OpenSpec.ofChange fnExactRaisePatchWrong)

/-- 'laws.FnExactEdgeOfSheet': WHATEVER THE INPUT: true; the input reads as it did. -/
def fnExactEdgeOfSheetSpec : ChangeSpec := { name := "fnExactEdgeOfSheet", fn := fun _ => fun
  | [d1, d2] => { results := [.lit (.bool true)], args := [d1, d2] }
  | _ => none }
def fnExactEdgeOfSheetRow : OpenClaim := { program := "ytefnlalldgbcaaa", sum := "cadc61458f31eafc4b3e3dc77a4a9a74c614e9e889173284be758fbcb5e0f000", func := "loop.example/g01328/laws.FnExactEdgeOfSheet", spec := "fnExactEdgeOfSheet", unfollowed := true, recurses := true, apart := false }
def FnExactEdgeOfSheetSaid : Prop := fnExactEdgeOfSheetRow.holds Try.pinned (OpenSpec.ofChange fnExactEdgeOfSheetSpec)

/-- ITS FALSE NEIGHBOUR: 'it returns false'. Refute it at one input. -/
def fnExactEdgeOfSheetWrong : ChangeSpec := { name := "fnExactEdgeOfSheet", fn := fun _ => fun
  | [d1, d2] => { results := [.lit (.bool false)], args := [d1, d2] }
  | _ => none }
def FnExactEdgeOfSheetWrongFalsely : Prop := fnExactEdgeOfSheetRow.holds Try.pinned (OpenSpec.ofChange fnExactEdgeOfSheetWrong)

/-- 'laws.FnExactSheetAt': WHATEVER THE INPUT: true; the input reads as it did. -/
def fnExactSheetAtSpec : ChangeSpec := { name := "fnExactSheetAt", fn := fun _ => fun
  | [d1, d2, d3] => { results := [.lit (.bool true)], args := [d1, d2, d3] }
  | _ => none }
def fnExactSheetAtRow : OpenClaim := { program := "ytefnlalldgbcaaa", sum := "cadc61458f31eafc4b3e3dc77a4a9a74c614e9e889173284be758fbcb5e0f000", func := "loop.example/g01328/laws.FnExactSheetAt", spec := "fnExactSheetAt", unfollowed := true, recurses := true, apart := false }
def FnExactSheetAtSaid : Prop := fnExactSheetAtRow.holds Try.pinned (OpenSpec.ofChange fnExactSheetAtSpec)

/-- ITS FALSE NEIGHBOUR: 'it returns false'. Refute it at one input. -/
def fnExactSheetAtWrong : ChangeSpec := { name := "fnExactSheetAt", fn := fun _ => fun
  | [d1, d2, d3] => { results := [.lit (.bool false)], args := [d1, d2, d3] }
  | _ => none }
def FnExactSheetAtWrongFalsely : Prop := fnExactSheetAtRow.holds Try.pinned (OpenSpec.ofChange fnExactSheetAtWrong)

/-- 'laws.FnExactLevelCuts': WHATEVER THE INPUT: true; the input reads as it did. -/
def fnExactLevelCutsSpec : ChangeSpec := { name := "fnExactLevelCuts", fn := fun _ => fun
  | [d1, d2, d3, d4, d5] => { results := [.lit (.bool true)], args := [d1, d2, d3, d4, d5] }
  | _ => none }
def fnExactLevelCutsRow : OpenClaim := { program := "ytefnlalldgbcaaa", sum := "cadc61458f31eafc4b3e3dc77a4a9a74c614e9e889173284be758fbcb5e0f000", func := "loop.example/g01328/laws.FnExactLevelCuts", spec := "fnExactLevelCuts", unfollowed := true, recurses := true, apart := false }
def FnExactLevelCutsSaid : Prop := fnExactLevelCutsRow.holds Try.pinned (OpenSpec.ofChange fnExactLevelCutsSpec)

/-- ITS FALSE NEIGHBOUR: 'it returns false'. Refute it at one input. -/
def fnExactLevelCutsWrong : ChangeSpec := { name := "fnExactLevelCuts", fn := fun _ => fun
  | [d1, d2, d3, d4, d5] => { results := [.lit (.bool false)], args := [d1, d2, d3, d4, d5] }
  | _ => none }
def FnExactLevelCutsWrongFalsely : Prop := fnExactLevelCutsRow.holds Try.pinned (OpenSpec.ofChange fnExactLevelCutsWrong)

/-- 'laws.FnExactNearestTile': WHATEVER THE INPUT: true; the input reads as it did. -/
def fnExactNearestTileSpec : ChangeSpec := { name := "fnExactNearestTile", fn := fun _ => fun
  | [d1, d2] => { results := [.lit (.bool true)], args := [d1, d2] }
  | _ => none }
def fnExactNearestTileRow : OpenClaim := { program := "ytefnlalldgbcaaa", sum := "cadc61458f31eafc4b3e3dc77a4a9a74c614e9e889173284be758fbcb5e0f000", func := "loop.example/g01328/laws.FnExactNearestTile", spec := "fnExactNearestTile", inPlace := ["math.sqrt"], unfollowed := true, recurses := true, apart := false }
def FnExactNearestTileSaid : Prop := fnExactNearestTileRow.holds Try.pinned (OpenSpec.ofChange fnExactNearestTileSpec)

/-- ITS FALSE NEIGHBOUR: 'it returns false'. Refute it at one input. -/
def fnExactNearestTileWrong : ChangeSpec := { name := "fnExactNearestTile", fn := fun _ => fun
  | [d1, d2] => { results := [.lit (.bool false)], args := [d1, d2] }
  | _ => none }
def FnExactNearestTileWrongFalsely : Prop := fnExactNearestTileRow.holds Try.pinned (OpenSpec.ofChange fnExactNearestTileWrong)

/-- 'laws.FnExactSlopesAt': WHATEVER THE INPUT: true; the input reads as it did. -/
def fnExactSlopesAtSpec : ChangeSpec := { name := "fnExactSlopesAt", fn := fun _ => fun
  | [d1, d2, d3] => { results := [.lit (.bool true)], args := [d1, d2, d3] }
  | _ => none }
def fnExactSlopesAtRow : OpenClaim := { program := "ytefnlalldgbcaaa", sum := "cadc61458f31eafc4b3e3dc77a4a9a74c614e9e889173284be758fbcb5e0f000", func := "loop.example/g01328/laws.FnExactSlopesAt", spec := "fnExactSlopesAt", unfollowed := true, recurses := true, apart := false }
def FnExactSlopesAtSaid : Prop := fnExactSlopesAtRow.holds Try.pinned (OpenSpec.ofChange fnExactSlopesAtSpec)

/-- ITS FALSE NEIGHBOUR: 'it returns false'. Refute it at one input. -/
def fnExactSlopesAtWrong : ChangeSpec := { name := "fnExactSlopesAt", fn := fun _ => fun
  | [d1, d2, d3] => { results := [.lit (.bool false)], args := [d1, d2, d3] }
  | _ => none }
def FnExactSlopesAtWrongFalsely : Prop := fnExactSlopesAtRow.holds Try.pinned (OpenSpec.ofChange fnExactSlopesAtWrong)

/-- 'laws.FnExactCutSheet': WHATEVER THE INPUT: true; the input reads as it did. -/
def fnExactCutSheetSpec : ChangeSpec := { name := "fnExactCutSheet", fn := fun _ => fun
  | [d1, d2] => { results := [.lit (.bool true)], args := [d1, d2] }
  | _ => none }
def fnExactCutSheetRow : OpenClaim := { program := "ytefnlalldgbcaaa", sum := "cadc61458f31eafc4b3e3dc77a4a9a74c614e9e889173284be758fbcb5e0f000", func := "loop.example/g01328/laws.FnExactCutSheet", spec := "fnExactCutSheet", unfollowed := true, recurses := true, apart := false }
def FnExactCutSheetSaid : Prop := fnExactCutSheetRow.holds Try.pinned (OpenSpec.ofChange fnExactCutSheetSpec)

/-- ITS FALSE NEIGHBOUR: 'it returns false'. Refute it at one input. -/
def fnExactCutSheetWrong : ChangeSpec := { name := "fnExactCutSheet", fn := fun _ => fun
  | [d1, d2] => { results := [.lit (.bool false)], args := [d1, d2] }
  | _ => none }
def FnExactCutSheetWrongFalsely : Prop := fnExactCutSheetRow.holds Try.pinned (OpenSpec.ofChange fnExactCutSheetWrong)

/-- 'laws.FnExactTilesOf': WHATEVER THE INPUT: true; the input reads as it did. -/
def fnExactTilesOfSpec : ChangeSpec := { name := "fnExactTilesOf", fn := fun _ => fun
  | [d1, d2, d3] => { results := [.lit (.bool true)], args := [d1, d2, d3] }
  | _ => none }
def fnExactTilesOfRow : OpenClaim := { program := "ytefnlalldgbcaaa", sum := "cadc61458f31eafc4b3e3dc77a4a9a74c614e9e889173284be758fbcb5e0f000", func := "loop.example/g01328/laws.FnExactTilesOf", spec := "fnExactTilesOf", unfollowed := true, recurses := true, apart := false }
def FnExactTilesOfSaid : Prop := fnExactTilesOfRow.holds Try.pinned (OpenSpec.ofChange fnExactTilesOfSpec)

/-- ITS FALSE NEIGHBOUR: 'it returns false'. Refute it at one input. -/
def fnExactTilesOfWrong : ChangeSpec := { name := "fnExactTilesOf", fn := fun _ => fun
  | [d1, d2, d3] => { results := [.lit (.bool false)], args := [d1, d2, d3] }
  | _ => none }
def FnExactTilesOfWrongFalsely : Prop := fnExactTilesOfRow.holds Try.pinned (OpenSpec.ofChange fnExactTilesOfWrong)

/-- 'laws.FnExactTilesShared': WHATEVER THE INPUT: true; the input reads as it did. -/
def fnExactTilesSharedSpec : ChangeSpec := { name := "fnExactTilesShared", fn := fun _ => fun
  | [d1, d2, d3, d4] => { results := [.lit (.bool true)], args := [d1, d2, d3, d4] }
  | _ => none }
def fnExactTilesSharedRow : OpenClaim := { program := "ytefnlalldgbcaaa", sum := "cadc61458f31eafc4b3e3dc77a4a9a74c614e9e889173284be758fbcb5e0f000", func := "loop.example/g01328/laws.FnExactTilesShared", spec := "fnExactTilesShared", unfollowed := true, recurses := true, apart := false }
def FnExactTilesSharedSaid : Prop := fnExactTilesSharedRow.holds Try.pinned (OpenSpec.ofChange fnExactTilesSharedSpec)

/-- ITS FALSE NEIGHBOUR: 'it returns false'. Refute it at one input. -/
def fnExactTilesSharedWrong : ChangeSpec := { name := "fnExactTilesShared", fn := fun _ => fun
  | [d1, d2, d3, d4] => { results := [.lit (.bool false)], args := [d1, d2, d3, d4] }
  | _ => none }
def FnExactTilesSharedWrongFalsely : Prop := fnExactTilesSharedRow.holds Try.pinned (OpenSpec.ofChange fnExactTilesSharedWrong)

/-- 'laws.FnExactAreaOfTiles': WHATEVER THE INPUT: true; the input reads as it did. -/
def fnExactAreaOfTilesSpec : ChangeSpec := { name := "fnExactAreaOfTiles", fn := fun _ => fun
  | [d1, d2, d3] => { results := [.lit (.bool true)], args := [d1, d2, d3] }
  | _ => none }
def fnExactAreaOfTilesRow : OpenClaim := { program := "ytefnlalldgbcaaa", sum := "cadc61458f31eafc4b3e3dc77a4a9a74c614e9e889173284be758fbcb5e0f000", func := "loop.example/g01328/laws.FnExactAreaOfTiles", spec := "fnExactAreaOfTiles", inPlace := ["math.sqrt"], unfollowed := true, recurses := true, apart := false }
def FnExactAreaOfTilesSaid : Prop := fnExactAreaOfTilesRow.holds Try.pinned (OpenSpec.ofChange fnExactAreaOfTilesSpec)

/-- ITS FALSE NEIGHBOUR: 'it returns false'. Refute it at one input. -/
def fnExactAreaOfTilesWrong : ChangeSpec := { name := "fnExactAreaOfTiles", fn := fun _ => fun
  | [d1, d2, d3] => { results := [.lit (.bool false)], args := [d1, d2, d3] }
  | _ => none }
def FnExactAreaOfTilesWrongFalsely : Prop := fnExactAreaOfTilesRow.holds Try.pinned (OpenSpec.ofChange fnExactAreaOfTilesWrong)

/-- 'laws.FnExactNormalAt': WHATEVER THE INPUT: true; the input reads as it did. -/
def fnExactNormalAtSpec : ChangeSpec := { name := "fnExactNormalAt", fn := fun _ => fun
  | [d1, d2, d3] => { results := [.lit (.bool true)], args := [d1, d2, d3] }
  | _ => none }
def fnExactNormalAtRow : OpenClaim := { program := "ytefnlalldgbcaaa", sum := "cadc61458f31eafc4b3e3dc77a4a9a74c614e9e889173284be758fbcb5e0f000", func := "loop.example/g01328/laws.FnExactNormalAt", spec := "fnExactNormalAt", inPlace := ["math.sqrt"], unfollowed := true, recurses := true, apart := false }
def FnExactNormalAtSaid : Prop := fnExactNormalAtRow.holds Try.pinned (OpenSpec.ofChange fnExactNormalAtSpec)

/-- ITS FALSE NEIGHBOUR: 'it returns false'. Refute it at one input. -/
def fnExactNormalAtWrong : ChangeSpec := { name := "fnExactNormalAt", fn := fun _ => fun
  | [d1, d2, d3] => { results := [.lit (.bool false)], args := [d1, d2, d3] }
  | _ => none }
def FnExactNormalAtWrongFalsely : Prop := fnExactNormalAtRow.holds Try.pinned (OpenSpec.ofChange fnExactNormalAtWrong)

/-- 'laws.FnFlats': WHATEVER THE INPUT: true; the input reads as it did. -/
def fnFlatsSpec : ChangeSpec := { name := "fnFlats", fn := fun _ => fun
  | [d1, d2] => { results := [.lit (.bool true)], args := [d1, d2] }
  | _ => none }
def fnFlatsRow : OpenClaim := { program := "ytefnlalldgbcaaa", sum := "cadc61458f31eafc4b3e3dc77a4a9a74c614e9e889173284be758fbcb5e0f000", func := "loop.example/g01328/laws.FnFlats", spec := "fnFlats", inPlace := ["math.sqrt", "math.Float64bits"], unfollowed := true, recurses := true, apart := false }
def FnFlatsSaid : Prop := fnFlatsRow.holds Try.pinned (OpenSpec.ofChange fnFlatsSpec)

/-- ITS FALSE NEIGHBOUR: 'it returns false'. Refute it at one input. -/
def fnFlatsWrong : ChangeSpec := { name := "fnFlats", fn := fun _ => fun
  | [d1, d2] => { results := [.lit (.bool false)], args := [d1, d2] }
  | _ => none }
def FnFlatsWrongFalsely : Prop := fnFlatsRow.holds Try.pinned (OpenSpec.ofChange fnFlatsWrong)

/-- 'laws.FnSheets': WHATEVER THE INPUT: true; the input reads as it did. -/
def fnSheetsSpec : ChangeSpec := { name := "fnSheets", fn := fun _ => fun
  | [d1, d2] => { results := [.lit (.bool true)], args := [d1, d2] }
  | _ => none }
def fnSheetsRow : OpenClaim := { program := "ytefnlalldgbcaaa", sum := "cadc61458f31eafc4b3e3dc77a4a9a74c614e9e889173284be758fbcb5e0f000", func := "loop.example/g01328/laws.FnSheets", spec := "fnSheets", inPlace := ["math.Float64bits", "math.sqrt"], unfollowed := true, recurses := true, apart := false }
def FnSheetsSaid : Prop := fnSheetsRow.holds Try.pinned (OpenSpec.ofChange fnSheetsSpec)

/-- ITS FALSE NEIGHBOUR: 'it returns false'. Refute it at one input. -/
def fnSheetsWrong : ChangeSpec := { name := "fnSheets", fn := fun _ => fun
  | [d1, d2] => { results := [.lit (.bool false)], args := [d1, d2] }
  | _ => none }
def FnSheetsWrongFalsely : Prop := fnSheetsRow.holds Try.pinned (OpenSpec.ofChange fnSheetsWrong)

/- THE SECOND FORM. 'bulk': how many values and letters a reading holds, each counted each time it is reached (what is shared counts as often as it is met; a slice's spare places count too). A statement '..UptoSaid' is the law's where the arguments, and the package variables that the reading takes, are together of bulk at most 1048576: NARROWER than '..Said'. Prove '..Said' where nothing that the law and all that it calls make is longer than what came in: it says more and counts as full. Else prove '..UptoSaid'. A law counts once. -/
mutual
def uptoBulk {H : Type} : DataW H → Nat
  | .lit (.string bytes) => bytes.length + 1
  | .lit _ => 1
  | .nil => 1
  | .ptr d => uptoBulk d + 1
  | .slice elems spare => uptoBulkAll elems + uptoBulkAll spare + 1
  | .agg parts => uptoBulkAll parts + 1
  | .iface _ d => uptoBulk d + 1
  | .map entries => uptoBulkEntries entries + 1
  | .held _ => 1
def uptoBulkAll {H : Type} : List (DataW H) → Nat
  | [] => 0
  | d :: r => uptoBulk d + uptoBulkAll r
def uptoBulkEntries {H : Type} : List (Lit × DataW H) → Nat
  | [] => 0
  | x :: r => uptoBulkEntry x + uptoBulkEntries r
def uptoBulkEntry {H : Type} : Lit × DataW H → Nat
  | (.string bytes, d) => bytes.length + uptoBulk d + 1
  | (_, d) => uptoBulk d + 1
 end
def uptoSmall : (H : Type) → List (DataW H) → Bool := fun _ ds => decide (uptoBulkAll ds ≤ 1048576)
def OpenSpec.upto (s : _root_.Go.ChangeSpec) : _root_.Go.OpenSpec := { _root_.Go.OpenSpec.ofChange s with cond := some uptoSmall }

/-- 'laws.FnExactIsSpot', WHERE WHAT IT READS IS OF BULK AT MOST 1048576: true; the input reads as it did. -/
def fnExactIsSpotUptoRow : OpenClaim := { program := "ytefnlalldgbcaaa", sum := "cadc61458f31eafc4b3e3dc77a4a9a74c614e9e889173284be758fbcb5e0f000", func := "loop.example/g01328/laws.FnExactIsSpot", spec := "fnExactIsSpot", unfollowed := true, recurses := true, apart := false, narrowed := true }
def FnExactIsSpotUptoSaid : Prop := fnExactIsSpotUptoRow.holds Try.pinned (OpenSpec.upto fnExactIsSpotSpec)

/-- 'laws.FnExactSameSpot', WHERE WHAT IT READS IS OF BULK AT MOST 1048576: true; the input reads as it did. -/
def fnExactSameSpotUptoRow : OpenClaim := { program := "ytefnlalldgbcaaa", sum := "cadc61458f31eafc4b3e3dc77a4a9a74c614e9e889173284be758fbcb5e0f000", func := "loop.example/g01328/laws.FnExactSameSpot", spec := "fnExactSameSpot", inPlace := ["math.Float32bits", "math.Float64bits"], apart := false, narrowed := true }
def FnExactSameSpotUptoSaid : Prop := fnExactSameSpotUptoRow.holds Try.pinned (OpenSpec.upto fnExactSameSpotSpec)

/-- 'laws.FnExactTrianglesOf', WHERE WHAT IT READS IS OF BULK AT MOST 1048576: true; the input reads as it did. -/
def fnExactTrianglesOfUptoRow : OpenClaim := { program := "ytefnlalldgbcaaa", sum := "cadc61458f31eafc4b3e3dc77a4a9a74c614e9e889173284be758fbcb5e0f000", func := "loop.example/g01328/laws.FnExactTrianglesOf", spec := "fnExactTrianglesOf", apart := false, narrowed := true }
def FnExactTrianglesOfUptoSaid : Prop := fnExactTrianglesOfUptoRow.holds Try.pinned (OpenSpec.upto fnExactTrianglesOfSpec)

/-- 'laws.FnExactCrossSpots', WHERE WHAT IT READS IS OF BULK AT MOST 1048576: true; the input reads as it did. -/
def fnExactCrossSpotsUptoRow : OpenClaim := { program := "ytefnlalldgbcaaa", sum := "cadc61458f31eafc4b3e3dc77a4a9a74c614e9e889173284be758fbcb5e0f000", func := "loop.example/g01328/laws.FnExactCrossSpots", spec := "fnExactCrossSpots", unfollowed := true, recurses := true, apart := false, narrowed := true }
def FnExactCrossSpotsUptoSaid : Prop := fnExactCrossSpotsUptoRow.holds Try.pinned (OpenSpec.upto fnExactCrossSpotsSpec)

/-- 'laws.FnExactValidSheet', WHERE WHAT IT READS IS OF BULK AT MOST 1048576: true; the input reads as it did. -/
def fnExactValidSheetUptoRow : OpenClaim := { program := "ytefnlalldgbcaaa", sum := "cadc61458f31eafc4b3e3dc77a4a9a74c614e9e889173284be758fbcb5e0f000", func := "loop.example/g01328/laws.FnExactValidSheet", spec := "fnExactValidSheet", unfollowed := true, recurses := true, apart := false, narrowed := true }
def FnExactValidSheetUptoSaid : Prop := fnExactValidSheetUptoRow.holds Try.pinned (OpenSpec.upto fnExactValidSheetSpec)

/-- 'laws.FnExactSameSheet', WHERE WHAT IT READS IS OF BULK AT MOST 1048576: true; the input reads as it did. -/
def fnExactSameSheetUptoRow : OpenClaim := { program := "ytefnlalldgbcaaa", sum := "cadc61458f31eafc4b3e3dc77a4a9a74c614e9e889173284be758fbcb5e0f000", func := "loop.example/g01328/laws.FnExactSameSheet", spec := "fnExactSameSheet", inPlace := ["math.Float32bits", "math.Float64bits"], unfollowed := true, recurses := true, apart := false, narrowed := true }
def FnExactSameSheetUptoSaid : Prop := fnExactSameSheetUptoRow.holds Try.pinned (OpenSpec.upto fnExactSameSheetSpec)

/-- 'laws.FnExactBoxOfSpots', WHERE WHAT IT READS IS OF BULK AT MOST 1048576: true; the input reads as it did. -/
def fnExactBoxOfSpotsUptoRow : OpenClaim := { program := "ytefnlalldgbcaaa", sum := "cadc61458f31eafc4b3e3dc77a4a9a74c614e9e889173284be758fbcb5e0f000", func := "loop.example/g01328/laws.FnExactBoxOfSpots", spec := "fnExactBoxOfSpots", unfollowed := true, recurses := true, apart := false, narrowed := true }
def FnExactBoxOfSpotsUptoSaid : Prop := fnExactBoxOfSpotsUptoRow.holds Try.pinned (OpenSpec.upto fnExactBoxOfSpotsSpec)

/-- 'laws.FnPatches', WHERE WHAT IT READS IS OF BULK AT MOST 1048576: true; the input reads as it did. -/
def fnPatchesUptoRow : OpenClaim := { program := "ytefnlalldgbcaaa", sum := "cadc61458f31eafc4b3e3dc77a4a9a74c614e9e889173284be758fbcb5e0f000", func := "loop.example/g01328/laws.FnPatches", spec := "fnPatches", unfollowed := true, recurses := true, apart := false, narrowed := true }
def FnPatchesUptoSaid : Prop := fnPatchesUptoRow.holds Try.pinned (OpenSpec.upto fnPatchesSpec)

/-- 'laws.FnExactLongOfSpot', WHERE WHAT IT READS IS OF BULK AT MOST 1048576: true; the input reads as it did. -/
def fnExactLongOfSpotUptoRow : OpenClaim := { program := "ytefnlalldgbcaaa", sum := "cadc61458f31eafc4b3e3dc77a4a9a74c614e9e889173284be758fbcb5e0f000", func := "loop.example/g01328/laws.FnExactLongOfSpot", spec := "fnExactLongOfSpot", inPlace := ["math.sqrt"], unfollowed := true, recurses := true, apart := false, narrowed := true }
def FnExactLongOfSpotUptoSaid : Prop := fnExactLongOfSpotUptoRow.holds Try.pinned (OpenSpec.upto fnExactLongOfSpotSpec)

/-- 'laws.FnExactCornerSheet', WHERE WHAT IT READS IS OF BULK AT MOST 1048576: true; the input reads as it did. -/
def fnExactCornerSheetUptoRow : OpenClaim := { program := "ytefnlalldgbcaaa", sum := "cadc61458f31eafc4b3e3dc77a4a9a74c614e9e889173284be758fbcb5e0f000", func := "loop.example/g01328/laws.FnExactCornerSheet", spec := "fnExactCornerSheet", unfollowed := true, recurses := true, apart := false, narrowed := true }
def FnExactCornerSheetUptoSaid : Prop := fnExactCornerSheetUptoRow.holds Try.pinned (OpenSpec.upto fnExactCornerSheetSpec)

/-- 'laws.FnExactPatchAt', WHERE WHAT IT READS IS OF BULK AT MOST 1048576: true; the input reads as it did. -/
def fnExactPatchAtUptoRow : OpenClaim := { program := "ytefnlalldgbcaaa", sum := "cadc61458f31eafc4b3e3dc77a4a9a74c614e9e889173284be758fbcb5e0f000", func := "loop.example/g01328/laws.FnExactPatchAt", spec := "fnExactPatchAt", unfollowed := true, recurses := true, apart := false, narrowed := true }
def FnExactPatchAtUptoSaid : Prop := fnExactPatchAtUptoRow.holds Try.pinned (OpenSpec.upto fnExactPatchAtSpec)

/-- 'laws.FnExactFlatSheet', WHERE WHAT IT READS IS OF BULK AT MOST 1048576: true; the input reads as it did. -/
def fnExactFlatSheetUptoRow : OpenClaim := { program := "ytefnlalldgbcaaa", sum := "cadc61458f31eafc4b3e3dc77a4a9a74c614e9e889173284be758fbcb5e0f000", func := "loop.example/g01328/laws.FnExactFlatSheet", spec := "fnExactFlatSheet", unfollowed := true, recurses := true, apart := false, narrowed := true }
def FnExactFlatSheetUptoSaid : Prop := fnExactFlatSheetUptoRow.holds Try.pinned (OpenSpec.upto fnExactFlatSheetSpec)

/-- 'laws.FnExactMoveSpot', WHERE WHAT IT READS IS OF BULK AT MOST 1048576: true; the input reads as it did. -/
def fnExactMoveSpotUptoRow : OpenClaim := { program := "ytefnlalldgbcaaa", sum := "cadc61458f31eafc4b3e3dc77a4a9a74c614e9e889173284be758fbcb5e0f000", func := "loop.example/g01328/laws.FnExactMoveSpot", spec := "fnExactMoveSpot", unfollowed := true, recurses := true, apart := false, narrowed := true }
def FnExactMoveSpotUptoSaid : Prop := fnExactMoveSpotUptoRow.holds Try.pinned (OpenSpec.upto fnExactMoveSpotSpec)

/-- 'laws.FnExactFlipSheet', WHERE WHAT IT READS IS OF BULK AT MOST 1048576: true; the input reads as it did. -/
def fnExactFlipSheetUptoRow : OpenClaim := { program := "ytefnlalldgbcaaa", sum := "cadc61458f31eafc4b3e3dc77a4a9a74c614e9e889173284be758fbcb5e0f000", func := "loop.example/g01328/laws.FnExactFlipSheet", spec := "fnExactFlipSheet", unfollowed := true, recurses := true, apart := false, narrowed := true }
def FnExactFlipSheetUptoSaid : Prop := fnExactFlipSheetUptoRow.holds Try.pinned (OpenSpec.upto fnExactFlipSheetSpec)

/-- 'laws.FnExactRaisePatch', WHERE WHAT IT READS IS OF BULK AT MOST 1048576: true; the input reads as it did. -/
def fnExactRaisePatchUptoRow : OpenClaim := { program := "ytefnlalldgbcaaa", sum := "cadc61458f31eafc4b3e3dc77a4a9a74c614e9e889173284be758fbcb5e0f000", func := "loop.example/g01328/laws.FnExactRaisePatch", spec := "fnExactRaisePatch", unfollowed := true, recurses := true, apart := false, narrowed := true }
def FnExactRaisePatchUptoSaid : Prop := fnExactRaisePatchUptoRow.holds Try.pinned (OpenSpec.upto fnExactRaisePatchSpec)

/-- 'laws.FnExactEdgeOfSheet', WHERE WHAT IT READS IS OF BULK AT MOST 1048576: true; the input reads as it did. -/
def fnExactEdgeOfSheetUptoRow : OpenClaim := { program := "ytefnlalldgbcaaa", sum := "cadc61458f31eafc4b3e3dc77a4a9a74c614e9e889173284be758fbcb5e0f000", func := "loop.example/g01328/laws.FnExactEdgeOfSheet", spec := "fnExactEdgeOfSheet", unfollowed := true, recurses := true, apart := false, narrowed := true }
def FnExactEdgeOfSheetUptoSaid : Prop := fnExactEdgeOfSheetUptoRow.holds Try.pinned (OpenSpec.upto fnExactEdgeOfSheetSpec)

/-- 'laws.FnExactSheetAt', WHERE WHAT IT READS IS OF BULK AT MOST 1048576: true; the input reads as it did. -/
def fnExactSheetAtUptoRow : OpenClaim := { program := "ytefnlalldgbcaaa", sum := "cadc61458f31eafc4b3e3dc77a4a9a74c614e9e889173284be758fbcb5e0f000", func := "loop.example/g01328/laws.FnExactSheetAt", spec := "fnExactSheetAt", unfollowed := true, recurses := true, apart := false, narrowed := true }
def FnExactSheetAtUptoSaid : Prop := fnExactSheetAtUptoRow.holds Try.pinned (OpenSpec.upto fnExactSheetAtSpec)

/-- 'laws.FnExactLevelCuts', WHERE WHAT IT READS IS OF BULK AT MOST 1048576: true; the input reads as it did. -/
def fnExactLevelCutsUptoRow : OpenClaim := { program := "ytefnlalldgbcaaa", sum := "cadc61458f31eafc4b3e3dc77a4a9a74c614e9e889173284be758fbcb5e0f000", func := "loop.example/g01328/laws.FnExactLevelCuts", spec := "fnExactLevelCuts", unfollowed := true, recurses := true, apart := false, narrowed := true }
def FnExactLevelCutsUptoSaid : Prop := fnExactLevelCutsUptoRow.holds Try.pinned (OpenSpec.upto fnExactLevelCutsSpec)

/-- 'laws.FnExactNearestTile', WHERE WHAT IT READS IS OF BULK AT MOST 1048576: true; the input reads as it did. -/
def fnExactNearestTileUptoRow : OpenClaim := { program := "ytefnlalldgbcaaa", sum := "cadc61458f31eafc4b3e3dc77a4a9a74c614e9e889173284be758fbcb5e0f000", func := "loop.example/g01328/laws.FnExactNearestTile", spec := "fnExactNearestTile", inPlace := ["math.sqrt"], unfollowed := true, recurses := true, apart := false, narrowed := true }
def FnExactNearestTileUptoSaid : Prop := fnExactNearestTileUptoRow.holds Try.pinned (OpenSpec.upto fnExactNearestTileSpec)

/-- 'laws.FnExactSlopesAt', WHERE WHAT IT READS IS OF BULK AT MOST 1048576: true; the input reads as it did. -/
def fnExactSlopesAtUptoRow : OpenClaim := { program := "ytefnlalldgbcaaa", sum := "cadc61458f31eafc4b3e3dc77a4a9a74c614e9e889173284be758fbcb5e0f000", func := "loop.example/g01328/laws.FnExactSlopesAt", spec := "fnExactSlopesAt", unfollowed := true, recurses := true, apart := false, narrowed := true }
def FnExactSlopesAtUptoSaid : Prop := fnExactSlopesAtUptoRow.holds Try.pinned (OpenSpec.upto fnExactSlopesAtSpec)

/-- 'laws.FnExactCutSheet', WHERE WHAT IT READS IS OF BULK AT MOST 1048576: true; the input reads as it did. -/
def fnExactCutSheetUptoRow : OpenClaim := { program := "ytefnlalldgbcaaa", sum := "cadc61458f31eafc4b3e3dc77a4a9a74c614e9e889173284be758fbcb5e0f000", func := "loop.example/g01328/laws.FnExactCutSheet", spec := "fnExactCutSheet", unfollowed := true, recurses := true, apart := false, narrowed := true }
def FnExactCutSheetUptoSaid : Prop := fnExactCutSheetUptoRow.holds Try.pinned (OpenSpec.upto fnExactCutSheetSpec)

/-- 'laws.FnExactTilesOf', WHERE WHAT IT READS IS OF BULK AT MOST 1048576: true; the input reads as it did. -/
def fnExactTilesOfUptoRow : OpenClaim := { program := "ytefnlalldgbcaaa", sum := "cadc61458f31eafc4b3e3dc77a4a9a74c614e9e889173284be758fbcb5e0f000", func := "loop.example/g01328/laws.FnExactTilesOf", spec := "fnExactTilesOf", unfollowed := true, recurses := true, apart := false, narrowed := true }
def FnExactTilesOfUptoSaid : Prop := fnExactTilesOfUptoRow.holds Try.pinned (OpenSpec.upto fnExactTilesOfSpec)

/-- 'laws.FnExactTilesShared', WHERE WHAT IT READS IS OF BULK AT MOST 1048576: true; the input reads as it did. -/
def fnExactTilesSharedUptoRow : OpenClaim := { program := "ytefnlalldgbcaaa", sum := "cadc61458f31eafc4b3e3dc77a4a9a74c614e9e889173284be758fbcb5e0f000", func := "loop.example/g01328/laws.FnExactTilesShared", spec := "fnExactTilesShared", unfollowed := true, recurses := true, apart := false, narrowed := true }
def FnExactTilesSharedUptoSaid : Prop := fnExactTilesSharedUptoRow.holds Try.pinned (OpenSpec.upto fnExactTilesSharedSpec)

/-- 'laws.FnExactAreaOfTiles', WHERE WHAT IT READS IS OF BULK AT MOST 1048576: true; the input reads as it did. -/
def fnExactAreaOfTilesUptoRow : OpenClaim := { program := "ytefnlalldgbcaaa", sum := "cadc61458f31eafc4b3e3dc77a4a9a74c614e9e889173284be758fbcb5e0f000", func := "loop.example/g01328/laws.FnExactAreaOfTiles", spec := "fnExactAreaOfTiles", inPlace := ["math.sqrt"], unfollowed := true, recurses := true, apart := false, narrowed := true }
def FnExactAreaOfTilesUptoSaid : Prop := fnExactAreaOfTilesUptoRow.holds Try.pinned (OpenSpec.upto fnExactAreaOfTilesSpec)

/-- 'laws.FnExactNormalAt', WHERE WHAT IT READS IS OF BULK AT MOST 1048576: true; the input reads as it did. -/
def fnExactNormalAtUptoRow : OpenClaim := { program := "ytefnlalldgbcaaa", sum := "cadc61458f31eafc4b3e3dc77a4a9a74c614e9e889173284be758fbcb5e0f000", func := "loop.example/g01328/laws.FnExactNormalAt", spec := "fnExactNormalAt", inPlace := ["math.sqrt"], unfollowed := true, recurses := true, apart := false, narrowed := true }
def FnExactNormalAtUptoSaid : Prop := fnExactNormalAtUptoRow.holds Try.pinned (OpenSpec.upto fnExactNormalAtSpec)

/-- 'laws.FnFlats', WHERE WHAT IT READS IS OF BULK AT MOST 1048576: true; the input reads as it did. -/
def fnFlatsUptoRow : OpenClaim := { program := "ytefnlalldgbcaaa", sum := "cadc61458f31eafc4b3e3dc77a4a9a74c614e9e889173284be758fbcb5e0f000", func := "loop.example/g01328/laws.FnFlats", spec := "fnFlats", inPlace := ["math.sqrt", "math.Float64bits"], unfollowed := true, recurses := true, apart := false, narrowed := true }
def FnFlatsUptoSaid : Prop := fnFlatsUptoRow.holds Try.pinned (OpenSpec.upto fnFlatsSpec)

/-- 'laws.FnSheets', WHERE WHAT IT READS IS OF BULK AT MOST 1048576: true; the input reads as it did. -/
def fnSheetsUptoRow : OpenClaim := { program := "ytefnlalldgbcaaa", sum := "cadc61458f31eafc4b3e3dc77a4a9a74c614e9e889173284be758fbcb5e0f000", func := "loop.example/g01328/laws.FnSheets", spec := "fnSheets", inPlace := ["math.Float64bits", "math.sqrt"], unfollowed := true, recurses := true, apart := false, narrowed := true }
def FnSheetsUptoSaid : Prop := fnSheetsUptoRow.holds Try.pinned (OpenSpec.upto fnSheetsSpec)

end Rows
end Go.Proofs.Ytefnlalldgbcaaa
