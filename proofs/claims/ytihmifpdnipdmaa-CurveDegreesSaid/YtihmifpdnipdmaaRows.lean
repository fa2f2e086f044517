/-
  No cell of these rows narrows 'for every input' (looked for: loops, veiled, ifaces, maps, wideKeys, modest, calm, conditions, laid).
  DERIVED. THE GIVEN ROWS OF THIS SEAT. 26 by the template 'for every input the law returns true; each argument reads behind the call as it read before'; 0 by the template 'total and deterministic' (their statements: YtihmifpdnipdmaaTotals.lean).
  GIVEN WITH THE SEED: the statements are not yours to turn. If you find one false, say at which input.
  Laid BY PROGRAM, IN A SANDBOX (cutbox-rows.mjs): the forced cells as the released guide's own fill.sh prints them over the translation bf58111e86db1ea4… (all of the seat's roots in one cut). By AI agents, Wed Nov 11 2026. No macro, syntax, notation, axiom, sorry.
-/
import Derived.Test.YtihmifpdnipdmaaChecked
import GoSem.Claim
import GoSem.ClaimJoined
import GoSem.ClaimMapViews
import Derived.JoinedTies
import Derived.KernelRfl
namespace Go.Proofs.Ytihmifpdnipdmaa
/- THE CELL 'sum', in the pinned program and in every row, IS THE sha256 OF THE DUMP (.gsa) THAT YtihmifpdnipdmaaProg.lean LOADS. Nothing in Lean hashes anything: it is a label: what it is worth is what the hold of that sum in a sandbox is worth. -/
noncomputable def Try.pinned : Pinned := { name := "ytihmifpdnipdmaa", sum := "bf58111e86db1ea400c927f5eefc29ae695c4e1cf90c7818168c42e8025b849e", checked := Try.checked }
namespace Rows
def none {H : Type} : Left H := { results := [], args := [] }

/-- 'garmentlaw12.TurnResults': WHATEVER THE INPUT: true; the input reads as it did. -/
def turnResultsSpec : ChangeSpec := { name := "turnResults", fn := fun _ => fun
  | [d1, d2, d3] => { results := [.lit (.bool true)], args := [d1, d2, d3] }
  | _ => none }
def turnResultsRow : OpenClaim := { program := "ytihmifpdnipdmaa", sum := "bf58111e86db1ea400c927f5eefc29ae695c4e1cf90c7818168c42e8025b849e", func := "garment/garmentlaw12.TurnResults", spec := "turnResults", apart := false }
def TurnResultsSaid : Prop := turnResultsRow.holds Try.pinned (OpenSpec.ofChange turnResultsSpec)

/-- ITS FALSE NEIGHBOUR: 'it returns false'. Refute it at one input. -/
def turnResultsWrong : ChangeSpec := { name := "turnResults", fn := fun _ => fun
  | [d1, d2, d3] => { results := [.lit (.bool false)], args := [d1, d2, d3] }
  | _ => none }
def TurnResultsWrongFalsely : Prop := turnResultsRow.holds Try.pinned (OpenSpec.ofChange turnResultsWrong)

/-- 'garmentlaw12.TurnPoints': WHATEVER THE INPUT: true; the input reads as it did. -/
def turnPointsSpec : ChangeSpec := { name := "turnPoints", fn := fun _ => fun
  | [d1, d2] => { results := [.lit (.bool true)], args := [d1, d2] }
  | _ => none }
def turnPointsRow : OpenClaim := { program := "ytihmifpdnipdmaa", sum := "bf58111e86db1ea400c927f5eefc29ae695c4e1cf90c7818168c42e8025b849e", func := "garment/garmentlaw12.TurnPoints", spec := "turnPoints", apart := false }
def TurnPointsSaid : Prop := turnPointsRow.holds Try.pinned (OpenSpec.ofChange turnPointsSpec)

/-- ITS FALSE NEIGHBOUR: 'it returns false'. Refute it at one input. -/
def turnPointsWrong : ChangeSpec := { name := "turnPoints", fn := fun _ => fun
  | [d1, d2] => { results := [.lit (.bool false)], args := [d1, d2] }
  | _ => none }
def TurnPointsWrongFalsely : Prop := turnPointsRow.holds Try.pinned (OpenSpec.ofChange turnPointsWrong)

/-- 'garmentlaw12.TurnPolys': WHATEVER THE INPUT: true; the input reads as it did. -/
def turnPolysSpec : ChangeSpec := { name := "turnPolys", fn := fun _ => fun
  | [d1, d2] => { results := [.lit (.bool true)], args := [d1, d2] }
  | _ => none }
def turnPolysRow : OpenClaim := { program := "ytihmifpdnipdmaa", sum := "bf58111e86db1ea400c927f5eefc29ae695c4e1cf90c7818168c42e8025b849e", func := "garment/garmentlaw12.TurnPolys", spec := "turnPolys", apart := false }
def TurnPolysSaid : Prop := turnPolysRow.holds Try.pinned (OpenSpec.ofChange turnPolysSpec)

/-- ITS FALSE NEIGHBOUR: 'it returns false'. Refute it at one input. -/
def turnPolysWrong : ChangeSpec := { name := "turnPolys", fn := fun _ => fun
  | [d1, d2] => { results := [.lit (.bool false)], args := [d1, d2] }
  | _ => none }
def TurnPolysWrongFalsely : Prop := turnPolysRow.holds Try.pinned (OpenSpec.ofChange turnPolysWrong)

/-- 'garmentlaw12.TurnGrains': WHATEVER THE INPUT: true; the input reads as it did. -/
def turnGrainsSpec : ChangeSpec := { name := "turnGrains", fn := fun _ => fun
  | [d1, d2, d3] => { results := [.lit (.bool true)], args := [d1, d2, d3] }
  | _ => none }
def turnGrainsRow : OpenClaim := { program := "ytihmifpdnipdmaa", sum := "bf58111e86db1ea400c927f5eefc29ae695c4e1cf90c7818168c42e8025b849e", func := "garment/garmentlaw12.TurnGrains", spec := "turnGrains", apart := false }
def TurnGrainsSaid : Prop := turnGrainsRow.holds Try.pinned (OpenSpec.ofChange turnGrainsSpec)

/-- ITS FALSE NEIGHBOUR: 'it returns false'. Refute it at one input. -/
def turnGrainsWrong : ChangeSpec := { name := "turnGrains", fn := fun _ => fun
  | [d1, d2, d3] => { results := [.lit (.bool false)], args := [d1, d2, d3] }
  | _ => none }
def TurnGrainsWrongFalsely : Prop := turnGrainsRow.holds Try.pinned (OpenSpec.ofChange turnGrainsWrong)

/-- 'garmentlaw12.TurnGroup': WHATEVER THE INPUT: true; the input reads as it did. -/
def turnGroupSpec : ChangeSpec := { name := "turnGroup", fn := fun _ => fun
  | [d1, d2, d3, d4] => { results := [.lit (.bool true)], args := [d1, d2, d3, d4] }
  | _ => none }
def turnGroupRow : OpenClaim := { program := "ytihmifpdnipdmaa", sum := "bf58111e86db1ea400c927f5eefc29ae695c4e1cf90c7818168c42e8025b849e", func := "garment/garmentlaw12.TurnGroup", spec := "turnGroup", apart := false }
def TurnGroupSaid : Prop := turnGroupRow.holds Try.pinned (OpenSpec.ofChange turnGroupSpec)

/-- ITS FALSE NEIGHBOUR: 'it returns false'. Refute it at one input. -/
def turnGroupWrong : ChangeSpec := { name := "turnGroup", fn := fun _ => fun
  | [d1, d2, d3, d4] => { results := [.lit (.bool false)], args := [d1, d2, d3, d4] }
  | _ => none }
def TurnGroupWrongFalsely : Prop := turnGroupRow.holds Try.pinned (OpenSpec.ofChange turnGroupWrong)

/-- 'garmentlaw12.TurnEight': WHATEVER THE INPUT: true; the input reads as it did. -/
def turnEightSpec : ChangeSpec := { name := "turnEight", fn := fun _ => fun
  | [d1, d2] => { results := [.lit (.bool true)], args := [d1, d2] }
  | _ => none }
def turnEightRow : OpenClaim := { program := "ytihmifpdnipdmaa", sum := "bf58111e86db1ea400c927f5eefc29ae695c4e1cf90c7818168c42e8025b849e", func := "garment/garmentlaw12.TurnEight", spec := "turnEight", apart := false }
def TurnEightSaid : Prop := turnEightRow.holds Try.pinned (OpenSpec.ofChange turnEightSpec)

/-- ITS FALSE NEIGHBOUR: 'it returns false'. Refute it at one input. -/
def turnEightWrong : ChangeSpec := { name := "turnEight", fn := fun _ => fun
  | [d1, d2] => { results := [.lit (.bool false)], args := [d1, d2] }
  | _ => none }
def TurnEightWrongFalsely : Prop := turnEightRow.holds Try.pinned (OpenSpec.ofChange turnEightWrong)

/-- 'garmentlaw09.CurveEnds': WHATEVER THE INPUT: true; the input reads as it did. -/
def curveEndsSpec : ChangeSpec := { name := "curveEnds", fn := fun _ => fun
  | [d1, d2] => { results := [.lit (.bool true)], args := [d1, d2] }
  | _ => none }
def curveEndsRow : OpenClaim := { program := "ytihmifpdnipdmaa", sum := "bf58111e86db1ea400c927f5eefc29ae695c4e1cf90c7818168c42e8025b849e", func := "garment/garmentlaw09.CurveEnds", spec := "curveEnds", apart := false }
def CurveEndsSaid : Prop := curveEndsRow.holds Try.pinned (OpenSpec.ofChange curveEndsSpec)

/-- ITS FALSE NEIGHBOUR: 'it returns false'. Refute it at one input. -/
def curveEndsWrong : ChangeSpec := { name := "curveEnds", fn := fun _ => fun
  | [d1, d2] => { results := [.lit (.bool false)], args := [d1, d2] }
  | _ => none }
def CurveEndsWrongFalsely : Prop := curveEndsRow.holds Try.pinned (OpenSpec.ofChange curveEndsWrong)

/-- 'garmentlaw12.TurnKeeps': WHATEVER THE INPUT: true; the input reads as it did. -/
def turnKeepsSpec : ChangeSpec := { name := "turnKeeps", fn := fun _ => fun
  | [d1, d2, d3] => { results := [.lit (.bool true)], args := [d1, d2, d3] }
  | _ => none }
def turnKeepsRow : OpenClaim := { program := "ytihmifpdnipdmaa", sum := "bf58111e86db1ea400c927f5eefc29ae695c4e1cf90c7818168c42e8025b849e", func := "garment/garmentlaw12.TurnKeeps", spec := "turnKeeps", apart := false }
def TurnKeepsSaid : Prop := turnKeepsRow.holds Try.pinned (OpenSpec.ofChange turnKeepsSpec)

/-- ITS FALSE NEIGHBOUR: 'it returns false'. Refute it at one input. -/
def turnKeepsWrong : ChangeSpec := { name := "turnKeeps", fn := fun _ => fun
  | [d1, d2, d3] => { results := [.lit (.bool false)], args := [d1, d2, d3] }
  | _ => none }
def TurnKeepsWrongFalsely : Prop := turnKeepsRow.holds Try.pinned (OpenSpec.ofChange turnKeepsWrong)

/-- 'garmentlaw12.TurnAgrees': WHATEVER THE INPUT: true; the input reads as it did. -/
def turnAgreesSpec : ChangeSpec := { name := "turnAgrees", fn := fun _ => fun
  | [d1, d2] => { results := [.lit (.bool true)], args := [d1, d2] }
  | _ => none }
def turnAgreesRow : OpenClaim := { program := "ytihmifpdnipdmaa", sum := "bf58111e86db1ea400c927f5eefc29ae695c4e1cf90c7818168c42e8025b849e", func := "garment/garmentlaw12.TurnAgrees", spec := "turnAgrees", apart := false }
def TurnAgreesSaid : Prop := turnAgreesRow.holds Try.pinned (OpenSpec.ofChange turnAgreesSpec)

/-- ITS FALSE NEIGHBOUR: 'it returns false'. Refute it at one input. -/
def turnAgreesWrong : ChangeSpec := { name := "turnAgrees", fn := fun _ => fun
  | [d1, d2] => { results := [.lit (.bool false)], args := [d1, d2] }
  | _ => none }
def TurnAgreesWrongFalsely : Prop := turnAgreesRow.holds Try.pinned (OpenSpec.ofChange turnAgreesWrong)

/-- 'garmentlaw12.TurnPolygons': WHATEVER THE INPUT: true; the input reads as it did. -/
def turnPolygonsSpec : ChangeSpec := { name := "turnPolygons", fn := fun _ => fun
  | [d1, d2] => { results := [.lit (.bool true)], args := [d1, d2] }
  | _ => none }
def turnPolygonsRow : OpenClaim := { program := "ytihmifpdnipdmaa", sum := "bf58111e86db1ea400c927f5eefc29ae695c4e1cf90c7818168c42e8025b849e", func := "garment/garmentlaw12.TurnPolygons", spec := "turnPolygons", unfollowed := true, recurses := true, apart := false }
def TurnPolygonsSaid : Prop := turnPolygonsRow.holds Try.pinned (OpenSpec.ofChange turnPolygonsSpec)

/-- ITS FALSE NEIGHBOUR: 'it returns false'. Refute it at one input. -/
def turnPolygonsWrong : ChangeSpec := { name := "turnPolygons", fn := fun _ => fun
  | [d1, d2] => { results := [.lit (.bool false)], args := [d1, d2] }
  | _ => none }
def TurnPolygonsWrongFalsely : Prop := turnPolygonsRow.holds Try.pinned (OpenSpec.ofChange turnPolygonsWrong)

/-- 'garmentlaw12.TurnAllowed': WHATEVER THE INPUT: true; the input reads as it did. -/
def turnAllowedSpec : ChangeSpec := { name := "turnAllowed", fn := fun _ => fun
  | [d1, d2, d3, d4] => { results := [.lit (.bool true)], args := [d1, d2, d3, d4] }
  | _ => none }
def turnAllowedRow : OpenClaim := { program := "ytihmifpdnipdmaa", sum := "bf58111e86db1ea400c927f5eefc29ae695c4e1cf90c7818168c42e8025b849e", func := "garment/garmentlaw12.TurnAllowed", spec := "turnAllowed", apart := false }
def TurnAllowedSaid : Prop := turnAllowedRow.holds Try.pinned (OpenSpec.ofChange turnAllowedSpec)

/-- ITS FALSE NEIGHBOUR: 'it returns false'. Refute it at one input. -/
def turnAllowedWrong : ChangeSpec := { name := "turnAllowed", fn := fun _ => fun
  | [d1, d2, d3, d4] => { results := [.lit (.bool false)], args := [d1, d2, d3, d4] }
  | _ => none }
def TurnAllowedWrongFalsely : Prop := turnAllowedRow.holds Try.pinned (OpenSpec.ofChange turnAllowedWrong)

/-- 'garmentlaw08.PointGrids': WHATEVER THE INPUT: true; the input reads as it did. -/
def pointGridsSpec : ChangeSpec := { name := "pointGrids", fn := fun _ => fun
  | [d1, d2, d3] => { results := [.lit (.bool true)], args := [d1, d2, d3] }
  | _ => none }
def pointGridsRow : OpenClaim := { program := "ytihmifpdnipdmaa", sum := "bf58111e86db1ea400c927f5eefc29ae695c4e1cf90c7818168c42e8025b849e", func := "garment/garmentlaw08.PointGrids", spec := "pointGrids", apart := false }
def PointGridsSaid : Prop := pointGridsRow.holds Try.pinned (OpenSpec.ofChange pointGridsSpec)

/-- ITS FALSE NEIGHBOUR: 'it returns false'. Refute it at one input. -/
def pointGridsWrong : ChangeSpec := { name := "pointGrids", fn := fun _ => fun
  | [d1, d2, d3] => { results := [.lit (.bool false)], args := [d1, d2, d3] }
  | _ => none }
def PointGridsWrongFalsely : Prop := pointGridsRow.holds Try.pinned (OpenSpec.ofChange pointGridsWrong)

/-- 'garmentlaw08.PointSpots': WHATEVER THE INPUT: true; the input reads as it did. -/
def pointSpotsSpec : ChangeSpec := { name := "pointSpots", fn := fun _ => fun
  | [d1, d2] => { results := [.lit (.bool true)], args := [d1, d2] }
  | _ => none }
def pointSpotsRow : OpenClaim := { program := "ytihmifpdnipdmaa", sum := "bf58111e86db1ea400c927f5eefc29ae695c4e1cf90c7818168c42e8025b849e", func := "garment/garmentlaw08.PointSpots", spec := "pointSpots", apart := false }
def PointSpotsSaid : Prop := pointSpotsRow.holds Try.pinned (OpenSpec.ofChange pointSpotsSpec)

/-- ITS FALSE NEIGHBOUR: 'it returns false'. Refute it at one input. -/
def pointSpotsWrong : ChangeSpec := { name := "pointSpots", fn := fun _ => fun
  | [d1, d2] => { results := [.lit (.bool false)], args := [d1, d2] }
  | _ => none }
def PointSpotsWrongFalsely : Prop := pointSpotsRow.holds Try.pinned (OpenSpec.ofChange pointSpotsWrong)

/-- 'garmentlaw08.PointMeets': WHATEVER THE INPUT: true; the input reads as it did. -/
def pointMeetsSpec : ChangeSpec := { name := "pointMeets", fn := fun _ => fun
  | [d] => { results := [.lit (.bool true)], args := [d] }
  | _ => none }
def pointMeetsRow : OpenClaim := { program := "ytihmifpdnipdmaa", sum := "bf58111e86db1ea400c927f5eefc29ae695c4e1cf90c7818168c42e8025b849e", func := "garment/garmentlaw08.PointMeets", spec := "pointMeets", apart := false }
def PointMeetsSaid : Prop := pointMeetsRow.holds Try.pinned (OpenSpec.ofChange pointMeetsSpec)

/-- ITS FALSE NEIGHBOUR: 'it returns false'. Refute it at one input. -/
def pointMeetsWrong : ChangeSpec := { name := "pointMeets", fn := fun _ => fun
  | [d] => { results := [.lit (.bool false)], args := [d] }
  | _ => none }
def PointMeetsWrongFalsely : Prop := pointMeetsRow.holds Try.pinned (OpenSpec.ofChange pointMeetsWrong)

/-- 'garmentlaw08.PointVectors': WHATEVER THE INPUT: true; the input reads as it did. -/
def pointVectorsSpec : ChangeSpec := { name := "pointVectors", fn := fun _ => fun
  | [d1, d2, d3] => { results := [.lit (.bool true)], args := [d1, d2, d3] }
  | _ => none }
def pointVectorsRow : OpenClaim := { program := "ytihmifpdnipdmaa", sum := "bf58111e86db1ea400c927f5eefc29ae695c4e1cf90c7818168c42e8025b849e", func := "garment/garmentlaw08.PointVectors", spec := "pointVectors", apart := false }
def PointVectorsSaid : Prop := pointVectorsRow.holds Try.pinned (OpenSpec.ofChange pointVectorsSpec)

/-- ITS FALSE NEIGHBOUR: 'it returns false'. Refute it at one input. -/
def pointVectorsWrong : ChangeSpec := { name := "pointVectors", fn := fun _ => fun
  | [d1, d2, d3] => { results := [.lit (.bool false)], args := [d1, d2, d3] }
  | _ => none }
def PointVectorsWrongFalsely : Prop := pointVectorsRow.holds Try.pinned (OpenSpec.ofChange pointVectorsWrong)

/-- 'garmentlaw08.PointMirror': WHATEVER THE INPUT: true; the input reads as it did. -/
def pointMirrorSpec : ChangeSpec := { name := "pointMirror", fn := fun _ => fun
  | [d1, d2, d3] => { results := [.lit (.bool true)], args := [d1, d2, d3] }
  | _ => none }
def pointMirrorRow : OpenClaim := { program := "ytihmifpdnipdmaa", sum := "bf58111e86db1ea400c927f5eefc29ae695c4e1cf90c7818168c42e8025b849e", func := "garment/garmentlaw08.PointMirror", spec := "pointMirror", apart := false }
def PointMirrorSaid : Prop := pointMirrorRow.holds Try.pinned (OpenSpec.ofChange pointMirrorSpec)

/-- ITS FALSE NEIGHBOUR: 'it returns false'. Refute it at one input. -/
def pointMirrorWrong : ChangeSpec := { name := "pointMirror", fn := fun _ => fun
  | [d1, d2, d3] => { results := [.lit (.bool false)], args := [d1, d2, d3] }
  | _ => none }
def PointMirrorWrongFalsely : Prop := pointMirrorRow.holds Try.pinned (OpenSpec.ofChange pointMirrorWrong)

/-- 'garmentlaw08.PointNearest': WHATEVER THE INPUT: true; the input reads as it did. -/
def pointNearestSpec : ChangeSpec := { name := "pointNearest", fn := fun _ => fun
  | [d1, d2, d3] => { results := [.lit (.bool true)], args := [d1, d2, d3] }
  | _ => none }
def pointNearestRow : OpenClaim := { program := "ytihmifpdnipdmaa", sum := "bf58111e86db1ea400c927f5eefc29ae695c4e1cf90c7818168c42e8025b849e", func := "garment/garmentlaw08.PointNearest", spec := "pointNearest", apart := false }
def PointNearestSaid : Prop := pointNearestRow.holds Try.pinned (OpenSpec.ofChange pointNearestSpec)

/-- ITS FALSE NEIGHBOUR: 'it returns false'. Refute it at one input. -/
def pointNearestWrong : ChangeSpec := { name := "pointNearest", fn := fun _ => fun
  | [d1, d2, d3] => { results := [.lit (.bool false)], args := [d1, d2, d3] }
  | _ => none }
def PointNearestWrongFalsely : Prop := pointNearestRow.holds Try.pinned (OpenSpec.ofChange pointNearestWrong)

/-- 'garmentlaw08.PointAlgebra': WHATEVER THE INPUT: true; the input reads as it did. -/
def pointAlgebraSpec : ChangeSpec := { name := "pointAlgebra", fn := fun _ => fun
  | [d1, d2, d3] => { results := [.lit (.bool true)], args := [d1, d2, d3] }
  | _ => none }
def pointAlgebraRow : OpenClaim := { program := "ytihmifpdnipdmaa", sum := "bf58111e86db1ea400c927f5eefc29ae695c4e1cf90c7818168c42e8025b849e", func := "garment/garmentlaw08.PointAlgebra", spec := "pointAlgebra", apart := false }
def PointAlgebraSaid : Prop := pointAlgebraRow.holds Try.pinned (OpenSpec.ofChange pointAlgebraSpec)

/-- ITS FALSE NEIGHBOUR: 'it returns false'. Refute it at one input. -/
def pointAlgebraWrong : ChangeSpec := { name := "pointAlgebra", fn := fun _ => fun
  | [d1, d2, d3] => { results := [.lit (.bool false)], args := [d1, d2, d3] }
  | _ => none }
def PointAlgebraWrongFalsely : Prop := pointAlgebraRow.holds Try.pinned (OpenSpec.ofChange pointAlgebraWrong)

/-- 'garmentlaw08.PointSides': WHATEVER THE INPUT: true; the input reads as it did. -/
def pointSidesSpec : ChangeSpec := { name := "pointSides", fn := fun _ => fun
  | [d1, d2, d3, d4] => { results := [.lit (.bool true)], args := [d1, d2, d3, d4] }
  | _ => none }
def pointSidesRow : OpenClaim := { program := "ytihmifpdnipdmaa", sum := "bf58111e86db1ea400c927f5eefc29ae695c4e1cf90c7818168c42e8025b849e", func := "garment/garmentlaw08.PointSides", spec := "pointSides", apart := false }
def PointSidesSaid : Prop := pointSidesRow.holds Try.pinned (OpenSpec.ofChange pointSidesSpec)

/-- ITS FALSE NEIGHBOUR: 'it returns false'. Refute it at one input. -/
def pointSidesWrong : ChangeSpec := { name := "pointSides", fn := fun _ => fun
  | [d1, d2, d3, d4] => { results := [.lit (.bool false)], args := [d1, d2, d3, d4] }
  | _ => none }
def PointSidesWrongFalsely : Prop := pointSidesRow.holds Try.pinned (OpenSpec.ofChange pointSidesWrong)

/-- 'garmentlaw09.CurveResults': WHATEVER THE INPUT: true; the input reads as it did. -/
def curveResultsSpec : ChangeSpec := { name := "curveResults", fn := fun _ => fun
  | [d1, d2] => { results := [.lit (.bool true)], args := [d1, d2] }
  | _ => none }
def curveResultsRow : OpenClaim := { program := "ytihmifpdnipdmaa", sum := "bf58111e86db1ea400c927f5eefc29ae695c4e1cf90c7818168c42e8025b849e", func := "garment/garmentlaw09.CurveResults", spec := "curveResults", apart := false }
def CurveResultsSaid : Prop := curveResultsRow.holds Try.pinned (OpenSpec.ofChange curveResultsSpec)

/-- ITS FALSE NEIGHBOUR: 'it returns false'. Refute it at one input. -/
def curveResultsWrong : ChangeSpec := { name := "curveResults", fn := fun _ => fun
  | [d1, d2] => { results := [.lit (.bool false)], args := [d1, d2] }
  | _ => none }
def CurveResultsWrongFalsely : Prop := curveResultsRow.holds Try.pinned (OpenSpec.ofChange curveResultsWrong)

/-- 'garmentlaw09.CurveFlattens': WHATEVER THE INPUT: true; the input reads as it did. -/
def curveFlattensSpec : ChangeSpec := { name := "curveFlattens", fn := fun _ => fun
  | [d1, d2] => { results := [.lit (.bool true)], args := [d1, d2] }
  | _ => none }
def curveFlattensRow : OpenClaim := { program := "ytihmifpdnipdmaa", sum := "bf58111e86db1ea400c927f5eefc29ae695c4e1cf90c7818168c42e8025b849e", func := "garment/garmentlaw09.CurveFlattens", spec := "curveFlattens", apart := false }
def CurveFlattensSaid : Prop := curveFlattensRow.holds Try.pinned (OpenSpec.ofChange curveFlattensSpec)

/-- ITS FALSE NEIGHBOUR: 'it returns false'. Refute it at one input. -/
def curveFlattensWrong : ChangeSpec := { name := "curveFlattens", fn := fun _ => fun
  | [d1, d2] => { results := [.lit (.bool false)], args := [d1, d2] }
  | _ => none }
def CurveFlattensWrongFalsely : Prop := curveFlattensRow.holds Try.pinned (OpenSpec.ofChange curveFlattensWrong)

/-- 'garmentlaw09.CurveSplits': WHATEVER THE INPUT: true; the input reads as it did. -/
def curveSplitsSpec : ChangeSpec := { name := "curveSplits", fn := fun _ => fun
  | [d1, d2, d3] => { results := [.lit (.bool true)], args := [d1, d2, d3] }
  | _ => none }
def curveSplitsRow : OpenClaim := { program := "ytihmifpdnipdmaa", sum := "bf58111e86db1ea400c927f5eefc29ae695c4e1cf90c7818168c42e8025b849e", func := "garment/garmentlaw09.CurveSplits", spec := "curveSplits", apart := false }
def CurveSplitsSaid : Prop := curveSplitsRow.holds Try.pinned (OpenSpec.ofChange curveSplitsSpec)

/-- ITS FALSE NEIGHBOUR: 'it returns false'. Refute it at one input. -/
def curveSplitsWrong : ChangeSpec := { name := "curveSplits", fn := fun _ => fun
  | [d1, d2, d3] => { results := [.lit (.bool false)], args := [d1, d2, d3] }
  | _ => none }
def CurveSplitsWrongFalsely : Prop := curveSplitsRow.holds Try.pinned (OpenSpec.ofChange curveSplitsWrong)

/-- 'garmentlaw09.CurveBoxed': WHATEVER THE INPUT: true; the input reads as it did. -/
def curveBoxedSpec : ChangeSpec := { name := "curveBoxed", fn := fun _ => fun
  | [d1, d2] => { results := [.lit (.bool true)], args := [d1, d2] }
  | _ => none }
def curveBoxedRow : OpenClaim := { program := "ytihmifpdnipdmaa", sum := "bf58111e86db1ea400c927f5eefc29ae695c4e1cf90c7818168c42e8025b849e", func := "garment/garmentlaw09.CurveBoxed", spec := "curveBoxed", apart := false }
def CurveBoxedSaid : Prop := curveBoxedRow.holds Try.pinned (OpenSpec.ofChange curveBoxedSpec)

/-- ITS FALSE NEIGHBOUR: 'it returns false'. Refute it at one input. -/
def curveBoxedWrong : ChangeSpec := { name := "curveBoxed", fn := fun _ => fun
  | [d1, d2] => { results := [.lit (.bool false)], args := [d1, d2] }
  | _ => none }
def CurveBoxedWrongFalsely : Prop := curveBoxedRow.holds Try.pinned (OpenSpec.ofChange curveBoxedWrong)

/-- 'garmentlaw09.CurveMoves': WHATEVER THE INPUT: true; the input reads as it did. -/
def curveMovesSpec : ChangeSpec := { name := "curveMoves", fn := fun _ => fun
  | [d1, d2, d3] => { results := [.lit (.bool true)], args := [d1, d2, d3] }
  | _ => none }
def curveMovesRow : OpenClaim := { program := "ytihmifpdnipdmaa", sum := "bf58111e86db1ea400c927f5eefc29ae695c4e1cf90c7818168c42e8025b849e", func := "garment/garmentlaw09.CurveMoves", spec := "curveMoves", apart := false }
def CurveMovesSaid : Prop := curveMovesRow.holds Try.pinned (OpenSpec.ofChange curveMovesSpec)

/-- ITS FALSE NEIGHBOUR: 'it returns false'. Refute it at one input. -/
def curveMovesWrong : ChangeSpec := { name := "curveMoves", fn := fun _ => fun
  | [d1, d2, d3] => { results := [.lit (.bool false)], args := [d1, d2, d3] }
  | _ => none }
def CurveMovesWrongFalsely : Prop := curveMovesRow.holds Try.pinned (OpenSpec.ofChange curveMovesWrong)

/-- 'garmentlaw09.CurveDegrees': WHATEVER THE INPUT: true; the input reads as it did. -/
def curveDegreesSpec : ChangeSpec := { name := "curveDegrees", fn := fun _ => fun
  | [d1, d2] => { results := [.lit (.bool true)], args := [d1, d2] }
  | _ => none }
def curveDegreesRow : OpenClaim := { program := "ytihmifpdnipdmaa", sum := "bf58111e86db1ea400c927f5eefc29ae695c4e1cf90c7818168c42e8025b849e", func := "garment/garmentlaw09.CurveDegrees", spec := "curveDegrees", apart := false }
def CurveDegreesSaid : Prop := curveDegreesRow.holds Try.pinned (OpenSpec.ofChange curveDegreesSpec)

/-- ITS FALSE NEIGHBOUR: 'it returns false'. Refute it at one input. -/
def curveDegreesWrong : ChangeSpec := { name := "curveDegrees", fn := fun _ => fun
  | [d1, d2] => { results := [.lit (.bool false)], args := [d1, d2] }
  | _ => none }
def CurveDegreesWrongFalsely : Prop := curveDegreesRow.holds Try.pinned (OpenSpec.ofChange curveDegreesWrong)

/-- 'garmentlaw09.CurveRefines': WHATEVER THE INPUT: true; the input reads as it did. -/
def curveRefinesSpec : ChangeSpec := { name := "curveRefines", fn := fun _ => fun
  | [d1, d2] => { results := [.lit (.bool true)], args := [d1, d2] }
  | _ => none }
def curveRefinesRow : OpenClaim := { program := "ytihmifpdnipdmaa", sum := "bf58111e86db1ea400c927f5eefc29ae695c4e1cf90c7818168c42e8025b849e", func := "garment/garmentlaw09.CurveRefines", spec := "curveRefines", apart := false }
def CurveRefinesSaid : Prop := curveRefinesRow.holds Try.pinned (OpenSpec.ofChange curveRefinesSpec)

/-- ITS FALSE NEIGHBOUR: 'it returns false'. Refute it at one input. -/
def curveRefinesWrong : ChangeSpec := { name := "curveRefines", fn := fun _ => fun
  | [d1, d2] => { results := [.lit (.bool false)], args := [d1, d2] }
  | _ => none }
def CurveRefinesWrongFalsely : Prop := curveRefinesRow.holds Try.pinned (OpenSpec.ofChange curveRefinesWrong)

/- THE SECOND FORM. 'bulk': how many values and letters a reading holds, each counted each time it is reached (what is shared counts as often as it is met; a slice's spare places count too). A statement '..UptoSaid' is the law's where the arguments, and the package variables that the reading takes, are together of bulk at most 1048576: NARROWER than '..Said'. Prove '..Said' where nothing that the law and all that it calls make is longer than what came in: it says more and counts as full. Else prove '..UptoSaid'. A law counts once. -/
mutual
def uptoBulk {H : Type} : DataW H → Nat
  | .lit (.string bytes) => bytes.length + 1
  | .lit _ => 1
  | .nil => 1
  | .ptr d => uptoBulk d + 1
  | .slice elems spare => uptoBulkAll elems + uptoBulkAll spare + 1
  | .agg parts => uptoBulkAll parts + 1
  | .iface _ d => uptoBulk d + 1
  | .map entries => uptoBulkEntries entries + 1
  | .held _ => 1
def uptoBulkAll {H : Type} : List (DataW H) → Nat
  | [] => 0
  | d :: r => uptoBulk d + uptoBulkAll r
def uptoBulkEntries {H : Type} : List (Lit × DataW H) → Nat
  | [] => 0
  | x :: r => uptoBulkEntry x + uptoBulkEntries r
def uptoBulkEntry {H : Type} : Lit × DataW H → Nat
  | (.string bytes, d) => bytes.length + uptoBulk d + 1
  | (_, d) => uptoBulk d + 1
 end
def uptoSmall : (H : Type) → List (DataW H) → Bool := fun _ ds => decide (uptoBulkAll ds ≤ 1048576)
def OpenSpec.upto (s : _root_.Go.ChangeSpec) : _root_.Go.OpenSpec := { _root_.Go.OpenSpec.ofChange s with cond := some uptoSmall }

/-- 'garmentlaw12.TurnResults', WHERE WHAT IT READS IS OF BULK AT MOST 1048576: true; the input reads as it did. -/
def turnResultsUptoRow : OpenClaim := { program := "ytihmifpdnipdmaa", sum := "bf58111e86db1ea400c927f5eefc29ae695c4e1cf90c7818168c42e8025b849e", func := "garment/garmentlaw12.TurnResults", spec := "turnResults", apart := false, narrowed := true }
def TurnResultsUptoSaid : Prop := turnResultsUptoRow.holds Try.pinned (OpenSpec.upto turnResultsSpec)

/-- 'garmentlaw12.TurnPoints', WHERE WHAT IT READS IS OF BULK AT MOST 1048576: true; the input reads as it did. -/
def turnPointsUptoRow : OpenClaim := { program := "ytihmifpdnipdmaa", sum := "bf58111e86db1ea400c927f5eefc29ae695c4e1cf90c7818168c42e8025b849e", func := "garment/garmentlaw12.TurnPoints", spec := "turnPoints", apart := false, narrowed := true }
def TurnPointsUptoSaid : Prop := turnPointsUptoRow.holds Try.pinned (OpenSpec.upto turnPointsSpec)

/-- 'garmentlaw12.TurnPolys', WHERE WHAT IT READS IS OF BULK AT MOST 1048576: true; the input reads as it did. -/
def turnPolysUptoRow : OpenClaim := { program := "ytihmifpdnipdmaa", sum := "bf58111e86db1ea400c927f5eefc29ae695c4e1cf90c7818168c42e8025b849e", func := "garment/garmentlaw12.TurnPolys", spec := "turnPolys", apart := false, narrowed := true }
def TurnPolysUptoSaid : Prop := turnPolysUptoRow.holds Try.pinned (OpenSpec.upto turnPolysSpec)

/-- 'garmentlaw12.TurnGrains', WHERE WHAT IT READS IS OF BULK AT MOST 1048576: true; the input reads as it did. -/
def turnGrainsUptoRow : OpenClaim := { program := "ytihmifpdnipdmaa", sum := "bf58111e86db1ea400c927f5eefc29ae695c4e1cf90c7818168c42e8025b849e", func := "garment/garmentlaw12.TurnGrains", spec := "turnGrains", apart := false, narrowed := true }
def TurnGrainsUptoSaid : Prop := turnGrainsUptoRow.holds Try.pinned (OpenSpec.upto turnGrainsSpec)

/-- 'garmentlaw12.TurnGroup', WHERE WHAT IT READS IS OF BULK AT MOST 1048576: true; the input reads as it did. -/
def turnGroupUptoRow : OpenClaim := { program := "ytihmifpdnipdmaa", sum := "bf58111e86db1ea400c927f5eefc29ae695c4e1cf90c7818168c42e8025b849e", func := "garment/garmentlaw12.TurnGroup", spec := "turnGroup", apart := false, narrowed := true }
def TurnGroupUptoSaid : Prop := turnGroupUptoRow.holds Try.pinned (OpenSpec.upto turnGroupSpec)

/-- 'garmentlaw12.TurnEight', WHERE WHAT IT READS IS OF BULK AT MOST 1048576: true; the input reads as it did. -/
def turnEightUptoRow : OpenClaim := { program := "ytihmifpdnipdmaa", sum := "bf58111e86db1ea400c927f5eefc29ae695c4e1cf90c7818168c42e8025b849e", func := "garment/garmentlaw12.TurnEight", spec := "turnEight", apart := false, narrowed := true }
def TurnEightUptoSaid : Prop := turnEightUptoRow.holds Try.pinned (OpenSpec.upto turnEightSpec)

/-- 'garmentlaw09.CurveEnds', WHERE WHAT IT READS IS OF BULK AT MOST 1048576: true; the input reads as it did. -/
def curveEndsUptoRow : OpenClaim := { program := "ytihmifpdnipdmaa", sum := "bf58111e86db1ea400c927f5eefc29ae695c4e1cf90c7818168c42e8025b849e", func := "garment/garmentlaw09.CurveEnds", spec := "curveEnds", apart := false, narrowed := true }
def CurveEndsUptoSaid : Prop := curveEndsUptoRow.holds Try.pinned (OpenSpec.upto curveEndsSpec)

/-- 'garmentlaw12.TurnKeeps', WHERE WHAT IT READS IS OF BULK AT MOST 1048576: true; the input reads as it did. -/
def turnKeepsUptoRow : OpenClaim := { program := "ytihmifpdnipdmaa", sum := "bf58111e86db1ea400c927f5eefc29ae695c4e1cf90c7818168c42e8025b849e", func := "garment/garmentlaw12.TurnKeeps", spec := "turnKeeps", apart := false, narrowed := true }
def TurnKeepsUptoSaid : Prop := turnKeepsUptoRow.holds Try.pinned (OpenSpec.upto turnKeepsSpec)

/-- 'garmentlaw12.TurnAgrees', WHERE WHAT IT READS IS OF BULK AT MOST 1048576: true; the input reads as it did. -/
def turnAgreesUptoRow : OpenClaim := { program := "ytihmifpdnipdmaa", sum := "bf58111e86db1ea400c927f5eefc29ae695c4e1cf90c7818168c42e8025b849e", func := "garment/garmentlaw12.TurnAgrees", spec := "turnAgrees", apart := false, narrowed := true }
def TurnAgreesUptoSaid : Prop := turnAgreesUptoRow.holds Try.pinned (OpenSpec.upto turnAgreesSpec)

/-- 'garmentlaw12.TurnPolygons', WHERE WHAT IT READS IS OF BULK AT MOST 1048576: true; the input reads as it did. -/
def turnPolygonsUptoRow : OpenClaim := { program := "ytihmifpdnipdmaa", sum := "bf58111e86db1ea400c927f5eefc29ae695c4e1cf90c7818168c42e8025b849e", func := "garment/garmentlaw12.TurnPolygons", spec := "turnPolygons", unfollowed := true, recurses := true, apart := false, narrowed := true }
def TurnPolygonsUptoSaid : Prop := turnPolygonsUptoRow.holds Try.pinned (OpenSpec.upto turnPolygonsSpec)

/-- 'garmentlaw12.TurnAllowed', WHERE WHAT IT READS IS OF BULK AT MOST 1048576: true; the input reads as it did. -/
def turnAllowedUptoRow : OpenClaim := { program := "ytihmifpdnipdmaa", sum := "bf58111e86db1ea400c927f5eefc29ae695c4e1cf90c7818168c42e8025b849e", func := "garment/garmentlaw12.TurnAllowed", spec := "turnAllowed", apart := false, narrowed := true }
def TurnAllowedUptoSaid : Prop := turnAllowedUptoRow.holds Try.pinned (OpenSpec.upto turnAllowedSpec)

/-- 'garmentlaw08.PointGrids', WHERE WHAT IT READS IS OF BULK AT MOST 1048576: true; the input reads as it did. -/
def pointGridsUptoRow : OpenClaim := { program := "ytihmifpdnipdmaa", sum := "bf58111e86db1ea400c927f5eefc29ae695c4e1cf90c7818168c42e8025b849e", func := "garment/garmentlaw08.PointGrids", spec := "pointGrids", apart := false, narrowed := true }
def PointGridsUptoSaid : Prop := pointGridsUptoRow.holds Try.pinned (OpenSpec.upto pointGridsSpec)

/-- 'garmentlaw08.PointSpots', WHERE WHAT IT READS IS OF BULK AT MOST 1048576: true; the input reads as it did. -/
def pointSpotsUptoRow : OpenClaim := { program := "ytihmifpdnipdmaa", sum := "bf58111e86db1ea400c927f5eefc29ae695c4e1cf90c7818168c42e8025b849e", func := "garment/garmentlaw08.PointSpots", spec := "pointSpots", apart := false, narrowed := true }
def PointSpotsUptoSaid : Prop := pointSpotsUptoRow.holds Try.pinned (OpenSpec.upto pointSpotsSpec)

/-- 'garmentlaw08.PointMeets', WHERE WHAT IT READS IS OF BULK AT MOST 1048576: true; the input reads as it did. -/
def pointMeetsUptoRow : OpenClaim := { program := "ytihmifpdnipdmaa", sum := "bf58111e86db1ea400c927f5eefc29ae695c4e1cf90c7818168c42e8025b849e", func := "garment/garmentlaw08.PointMeets", spec := "pointMeets", apart := false, narrowed := true }
def PointMeetsUptoSaid : Prop := pointMeetsUptoRow.holds Try.pinned (OpenSpec.upto pointMeetsSpec)

/-- 'garmentlaw08.PointVectors', WHERE WHAT IT READS IS OF BULK AT MOST 1048576: true; the input reads as it did. -/
def pointVectorsUptoRow : OpenClaim := { program := "ytihmifpdnipdmaa", sum := "bf58111e86db1ea400c927f5eefc29ae695c4e1cf90c7818168c42e8025b849e", func := "garment/garmentlaw08.PointVectors", spec := "pointVectors", apart := false, narrowed := true }
def PointVectorsUptoSaid : Prop := pointVectorsUptoRow.holds Try.pinned (OpenSpec.upto pointVectorsSpec)

/-- 'garmentlaw08.PointMirror', WHERE WHAT IT READS IS OF BULK AT MOST 1048576: true; the input reads as it did. -/
def pointMirrorUptoRow : OpenClaim := { program := "ytihmifpdnipdmaa", sum := "bf58111e86db1ea400c927f5eefc29ae695c4e1cf90c7818168c42e8025b849e", func := "garment/garmentlaw08.PointMirror", spec := "pointMirror", apart := false, narrowed := true }
def PointMirrorUptoSaid : Prop := pointMirrorUptoRow.holds Try.pinned (OpenSpec.upto pointMirrorSpec)

/-- 'garmentlaw08.PointNearest', WHERE WHAT IT READS IS OF BULK AT MOST 1048576: true; the input reads as it did. -/
def pointNearestUptoRow : OpenClaim := { program := "ytihmifpdnipdmaa", sum := "bf58111e86db1ea400c927f5eefc29ae695c4e1cf90c7818168c42e8025b849e", func := "garment/garmentlaw08.PointNearest", spec := "pointNearest", apart := false, narrowed := true }
def PointNearestUptoSaid : Prop := pointNearestUptoRow.holds Try.pinned (OpenSpec.upto pointNearestSpec)

/-- 'garmentlaw08.PointAlgebra', WHERE WHAT IT READS IS OF BULK AT MOST 1048576: true; the input reads as it did. -/
def pointAlgebraUptoRow : OpenClaim := { program := "ytihmifpdnipdmaa", sum := "bf58111e86db1ea400c927f5eefc29ae695c4e1cf90c7818168c42e8025b849e", func := "garment/garmentlaw08.PointAlgebra", spec := "pointAlgebra", apart := false, narrowed := true }
def PointAlgebraUptoSaid : Prop := pointAlgebraUptoRow.holds Try.pinned (OpenSpec.upto pointAlgebraSpec)

/-- 'garmentlaw08.PointSides', WHERE WHAT IT READS IS OF BULK AT MOST 1048576: true; the input reads as it did. -/
def pointSidesUptoRow : OpenClaim := { program := "ytihmifpdnipdmaa", sum := "bf58111e86db1ea400c927f5eefc29ae695c4e1cf90c7818168c42e8025b849e", func := "garment/garmentlaw08.PointSides", spec := "pointSides", apart := false, narrowed := true }
def PointSidesUptoSaid : Prop := pointSidesUptoRow.holds Try.pinned (OpenSpec.upto pointSidesSpec)

/-- 'garmentlaw09.CurveResults', WHERE WHAT IT READS IS OF BULK AT MOST 1048576: true; the input reads as it did. -/
def curveResultsUptoRow : OpenClaim := { program := "ytihmifpdnipdmaa", sum := "bf58111e86db1ea400c927f5eefc29ae695c4e1cf90c7818168c42e8025b849e", func := "garment/garmentlaw09.CurveResults", spec := "curveResults", apart := false, narrowed := true }
def CurveResultsUptoSaid : Prop := curveResultsUptoRow.holds Try.pinned (OpenSpec.upto curveResultsSpec)

/-- 'garmentlaw09.CurveFlattens', WHERE WHAT IT READS IS OF BULK AT MOST 1048576: true; the input reads as it did. -/
def curveFlattensUptoRow : OpenClaim := { program := "ytihmifpdnipdmaa", sum := "bf58111e86db1ea400c927f5eefc29ae695c4e1cf90c7818168c42e8025b849e", func := "garment/garmentlaw09.CurveFlattens", spec := "curveFlattens", apart := false, narrowed := true }
def CurveFlattensUptoSaid : Prop := curveFlattensUptoRow.holds Try.pinned (OpenSpec.upto curveFlattensSpec)

/-- 'garmentlaw09.CurveSplits', WHERE WHAT IT READS IS OF BULK AT MOST 1048576: true; the input reads as it did. -/
def curveSplitsUptoRow : OpenClaim := { program := "ytihmifpdnipdmaa", sum := "bf58111e86db1ea400c927f5eefc29ae695c4e1cf90c7818168c42e8025b849e", func := "garment/garmentlaw09.CurveSplits", spec := "curveSplits", apart := false, narrowed := true }
def CurveSplitsUptoSaid : Prop := curveSplitsUptoRow.holds Try.pinned (OpenSpec.upto curveSplitsSpec)

/-- 'garmentlaw09.CurveBoxed', WHERE WHAT IT READS IS OF BULK AT MOST 1048576: true; the input reads as it did. -/
def curveBoxedUptoRow : OpenClaim := { program := "ytihmifpdnipdmaa", sum := "bf58111e86db1ea400c927f5eefc29ae695c4e1cf90c7818168c42e8025b849e", func := "garment/garmentlaw09.CurveBoxed", spec := "curveBoxed", apart := false, narrowed := true }
def CurveBoxedUptoSaid : Prop := curveBoxedUptoRow.holds Try.pinned (OpenSpec.upto curveBoxedSpec)

/-- 'garmentlaw09.CurveMoves', WHERE WHAT IT READS IS OF BULK AT MOST 1048576: true; the input reads as it did. -/
def curveMovesUptoRow : OpenClaim := { program := "ytihmifpdnipdmaa", sum := "bf58111e86db1ea400c927f5eefc29ae695c4e1cf90c7818168c42e8025b849e", func := "garment/garmentlaw09.CurveMoves", spec := "curveMoves", apart := false, narrowed := true }
def CurveMovesUptoSaid : Prop := curveMovesUptoRow.holds Try.pinned (OpenSpec.upto curveMovesSpec)

/-- 'garmentlaw09.CurveDegrees', WHERE WHAT IT READS IS OF BULK AT MOST 1048576: true; the input reads as it did. -/
def curveDegreesUptoRow : OpenClaim := { program := "ytihmifpdnipdmaa", sum := "bf58111e86db1ea400c927f5eefc29ae695c4e1cf90c7818168c42e8025b849e", func := "garment/garmentlaw09.CurveDegrees", spec := "curveDegrees", apart := false, narrowed := true }
def CurveDegreesUptoSaid : Prop := curveDegreesUptoRow.holds Try.pinned (OpenSpec.upto curveDegreesSpec)

/-- 'garmentlaw09.CurveRefines', WHERE WHAT IT READS IS OF BULK AT MOST 1048576: true; the input reads as it did. -/
def curveRefinesUptoRow : OpenClaim := { program := "ytihmifpdnipdmaa", sum := "bf58111e86db1ea400c927f5eefc29ae695c4e1cf90c7818168c42e8025b849e", func := "garment/garmentlaw09.CurveRefines", spec := "curveRefines", apart := false, narrowed := true }
def CurveRefinesUptoSaid : Prop := curveRefinesUptoRow.holds Try.pinned (OpenSpec.upto curveRefinesSpec)

end Rows
end Go.Proofs.Ytihmifpdnipdmaa
