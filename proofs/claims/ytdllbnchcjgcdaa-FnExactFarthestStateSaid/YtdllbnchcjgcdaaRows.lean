/-
  No cell of these rows narrows 'for every input' (looked for: loops, veiled, ifaces, maps, wideKeys, modest, calm, conditions, laid).
  DERIVED. THE GIVEN ROWS OF THIS SEAT. 20 by the template 'for every input the law returns true; each argument reads behind the call as it read before'; 0 by the template 'total and deterministic' (their statements: YtdllbnchcjgcdaaTotals.lean).
  GIVEN WITH THE SEED: the statements are not yours to turn. If you find one false, say at which input.
  Laid BY PROGRAM, IN A SANDBOX (cutbox-rows.mjs): the forced cells as the released guide's own fill.sh prints them over the translation cc986c9e840b58df… (all of the seat's roots in one cut). By AI agents, Wed Nov 11 2026. No macro, syntax, notation, axiom, sorry.
-/
import Derived.Test.YtdllbnchcjgcdaaChecked
import GoSem.Claim
import GoSem.ClaimJoined
import GoSem.ClaimMapViews
import Derived.JoinedTies
import Derived.KernelRfl
namespace Go.Proofs.Ytdllbnchcjgcdaa
/- THE CELL 'sum', in the pinned program and in every row, IS THE sha256 OF THE DUMP (.gsa) THAT YtdllbnchcjgcdaaProg.lean LOADS. Nothing in Lean hashes anything: it is a label: what it is worth is what the hold of that sum in a sandbox is worth. -/
noncomputable def Try.pinned : Pinned := { name := "ytdllbnchcjgcdaa", sum := "cc986c9e840b58df800a8d69bce64ec159c60d11744fe4d7a7955486fbd71712", checked := Try.checked }
namespace Rows
def none {H : Type} : Left H := { results := [], args := [] }

/-- 'laws.FnExactPatternAfter': WHATEVER THE INPUT: true; the input reads as it did. -/
def fnExactPatternAfterSpec : ChangeSpec := { name := "fnExactPatternAfter", fn := fun _ => fun
  | [d1, d2, d3, d4] => { results := [.lit (.bool true)], args := [d1, d2, d3, d4] }
  | _ => none }
def fnExactPatternAfterRow : OpenClaim := { program := "ytdllbnchcjgcdaa", sum := "cc986c9e840b58df800a8d69bce64ec159c60d11744fe4d7a7955486fbd71712", func := "loop.example/g00855/laws.FnExactPatternAfter", spec := "fnExactPatternAfter", unfollowed := true, recurses := true, apart := false }
def FnExactPatternAfterSaid : Prop := fnExactPatternAfterRow.holds Try.pinned (OpenSpec.ofChange fnExactPatternAfterSpec)

/-- ITS FALSE NEIGHBOUR: 'it returns false'. Refute it at one input. -/
def fnExactPatternAfterWrong : ChangeSpec := { name := "fnExactPatternAfter", fn := fun _ => fun
  | [d1, d2, d3, d4] => { results := [.lit (.bool false)], args := [d1, d2, d3, d4] }
  | _ => none }
def FnExactPatternAfterWrongFalsely : Prop := fnExactPatternAfterRow.holds Try.pinned (OpenSpec.ofChange fnExactPatternAfterWrong)

/-- 'laws.FnExactStateCount': WHATEVER THE INPUT: true; the input reads as it did. -/
def fnExactStateCountSpec : ChangeSpec := { name := "fnExactStateCount", fn := fun _ => fun
  | [d] => { results := [.lit (.bool true)], args := [d] }
  | _ => none }
def fnExactStateCountRow : OpenClaim := { program := "ytdllbnchcjgcdaa", sum := "cc986c9e840b58df800a8d69bce64ec159c60d11744fe4d7a7955486fbd71712", func := "loop.example/g00855/laws.FnExactStateCount", spec := "fnExactStateCount", unfollowed := true, recurses := true, apart := false }
def FnExactStateCountSaid : Prop := fnExactStateCountRow.holds Try.pinned (OpenSpec.ofChange fnExactStateCountSpec)

/-- ITS FALSE NEIGHBOUR: 'it returns false'. Refute it at one input. -/
def fnExactStateCountWrong : ChangeSpec := { name := "fnExactStateCount", fn := fun _ => fun
  | [d] => { results := [.lit (.bool false)], args := [d] }
  | _ => none }
def FnExactStateCountWrongFalsely : Prop := fnExactStateCountRow.holds Try.pinned (OpenSpec.ofChange fnExactStateCountWrong)

/-- 'laws.FnExactIsReachable': WHATEVER THE INPUT: true; the input reads as it did. -/
def fnExactIsReachableSpec : ChangeSpec := { name := "fnExactIsReachable", fn := fun _ => fun
  | [d1, d2] => { results := [.lit (.bool true)], args := [d1, d2] }
  | _ => none }
def fnExactIsReachableRow : OpenClaim := { program := "ytdllbnchcjgcdaa", sum := "cc986c9e840b58df800a8d69bce64ec159c60d11744fe4d7a7955486fbd71712", func := "loop.example/g00855/laws.FnExactIsReachable", spec := "fnExactIsReachable", unfollowed := true, recurses := true, apart := false }
def FnExactIsReachableSaid : Prop := fnExactIsReachableRow.holds Try.pinned (OpenSpec.ofChange fnExactIsReachableSpec)

/-- ITS FALSE NEIGHBOUR: 'it returns false'. Refute it at one input. -/
def fnExactIsReachableWrong : ChangeSpec := { name := "fnExactIsReachable", fn := fun _ => fun
  | [d1, d2] => { results := [.lit (.bool false)], args := [d1, d2] }
  | _ => none }
def FnExactIsReachableWrongFalsely : Prop := fnExactIsReachableRow.holds Try.pinned (OpenSpec.ofChange fnExactIsReachableWrong)

/-- 'laws.FnExactPatternCount': WHATEVER THE INPUT: true; the input reads as it did. -/
def fnExactPatternCountSpec : ChangeSpec := { name := "fnExactPatternCount", fn := fun _ => fun
  | [d1, d2] => { results := [.lit (.bool true)], args := [d1, d2] }
  | _ => none }
def fnExactPatternCountRow : OpenClaim := { program := "ytdllbnchcjgcdaa", sum := "cc986c9e840b58df800a8d69bce64ec159c60d11744fe4d7a7955486fbd71712", func := "loop.example/g00855/laws.FnExactPatternCount", spec := "fnExactPatternCount", unfollowed := true, recurses := true, apart := false }
def FnExactPatternCountSaid : Prop := fnExactPatternCountRow.holds Try.pinned (OpenSpec.ofChange fnExactPatternCountSpec)

/-- ITS FALSE NEIGHBOUR: 'it returns false'. Refute it at one input. -/
def fnExactPatternCountWrong : ChangeSpec := { name := "fnExactPatternCount", fn := fun _ => fun
  | [d1, d2] => { results := [.lit (.bool false)], args := [d1, d2] }
  | _ => none }
def FnExactPatternCountWrongFalsely : Prop := fnExactPatternCountRow.holds Try.pinned (OpenSpec.ofChange fnExactPatternCountWrong)

/-- 'laws.FnExactReachablePatterns': WHATEVER THE INPUT: true; the input reads as it did. -/
def fnExactReachablePatternsSpec : ChangeSpec := { name := "fnExactReachablePatterns", fn := fun _ => fun
  | [d1, d2] => { results := [.lit (.bool true)], args := [d1, d2] }
  | _ => none }
def fnExactReachablePatternsRow : OpenClaim := { program := "ytdllbnchcjgcdaa", sum := "cc986c9e840b58df800a8d69bce64ec159c60d11744fe4d7a7955486fbd71712", func := "loop.example/g00855/laws.FnExactReachablePatterns", spec := "fnExactReachablePatterns", unfollowed := true, recurses := true, apart := false }
def FnExactReachablePatternsSaid : Prop := fnExactReachablePatternsRow.holds Try.pinned (OpenSpec.ofChange fnExactReachablePatternsSpec)

/-- ITS FALSE NEIGHBOUR: 'it returns false'. Refute it at one input. -/
def fnExactReachablePatternsWrong : ChangeSpec := { name := "fnExactReachablePatterns", fn := fun _ => fun
  | [d1, d2] => { results := [.lit (.bool false)], args := [d1, d2] }
  | _ => none }
def FnExactReachablePatternsWrongFalsely : Prop := fnExactReachablePatternsRow.holds Try.pinned (OpenSpec.ofChange fnExactReachablePatternsWrong)

/-- 'laws.FnExactDiameter': WHATEVER THE INPUT: true; the input reads as it did. -/
def fnExactDiameterSpec : ChangeSpec := { name := "fnExactDiameter", fn := fun _ => fun
  | [d] => { results := [.lit (.bool true)], args := [d] }
  | _ => none }
def fnExactDiameterRow : OpenClaim := { program := "ytdllbnchcjgcdaa", sum := "cc986c9e840b58df800a8d69bce64ec159c60d11744fe4d7a7955486fbd71712", func := "loop.example/g00855/laws.FnExactDiameter", spec := "fnExactDiameter", unfollowed := true, recurses := true, apart := false }
def FnExactDiameterSaid : Prop := fnExactDiameterRow.holds Try.pinned (OpenSpec.ofChange fnExactDiameterSpec)

/-- ITS FALSE NEIGHBOUR: 'it returns false'. Refute it at one input. -/
def fnExactDiameterWrong : ChangeSpec := { name := "fnExactDiameter", fn := fun _ => fun
  | [d] => { results := [.lit (.bool false)], args := [d] }
  | _ => none }
def FnExactDiameterWrongFalsely : Prop := fnExactDiameterRow.holds Try.pinned (OpenSpec.ofChange fnExactDiameterWrong)

/-- 'laws.FnExactPatternDistance': WHATEVER THE INPUT: true; the input reads as it did. -/
def fnExactPatternDistanceSpec : ChangeSpec := { name := "fnExactPatternDistance", fn := fun _ => fun
  | [d1, d2, d3] => { results := [.lit (.bool true)], args := [d1, d2, d3] }
  | _ => none }
def fnExactPatternDistanceRow : OpenClaim := { program := "ytdllbnchcjgcdaa", sum := "cc986c9e840b58df800a8d69bce64ec159c60d11744fe4d7a7955486fbd71712", func := "loop.example/g00855/laws.FnExactPatternDistance", spec := "fnExactPatternDistance", unfollowed := true, recurses := true, apart := false }
def FnExactPatternDistanceSaid : Prop := fnExactPatternDistanceRow.holds Try.pinned (OpenSpec.ofChange fnExactPatternDistanceSpec)

/-- ITS FALSE NEIGHBOUR: 'it returns false'. Refute it at one input. -/
def fnExactPatternDistanceWrong : ChangeSpec := { name := "fnExactPatternDistance", fn := fun _ => fun
  | [d1, d2, d3] => { results := [.lit (.bool false)], args := [d1, d2, d3] }
  | _ => none }
def FnExactPatternDistanceWrongFalsely : Prop := fnExactPatternDistanceRow.holds Try.pinned (OpenSpec.ofChange fnExactPatternDistanceWrong)

/-- 'laws.FnExactStateIndex': WHATEVER THE INPUT: true; the input reads as it did. -/
def fnExactStateIndexSpec : ChangeSpec := { name := "fnExactStateIndex", fn := fun _ => fun
  | [d1, d2] => { results := [.lit (.bool true)], args := [d1, d2] }
  | _ => none }
def fnExactStateIndexRow : OpenClaim := { program := "ytdllbnchcjgcdaa", sum := "cc986c9e840b58df800a8d69bce64ec159c60d11744fe4d7a7955486fbd71712", func := "loop.example/g00855/laws.FnExactStateIndex", spec := "fnExactStateIndex", unfollowed := true, recurses := true, apart := false }
def FnExactStateIndexSaid : Prop := fnExactStateIndexRow.holds Try.pinned (OpenSpec.ofChange fnExactStateIndexSpec)

/-- ITS FALSE NEIGHBOUR: 'it returns false'. Refute it at one input. -/
def fnExactStateIndexWrong : ChangeSpec := { name := "fnExactStateIndex", fn := fun _ => fun
  | [d1, d2] => { results := [.lit (.bool false)], args := [d1, d2] }
  | _ => none }
def FnExactStateIndexWrongFalsely : Prop := fnExactStateIndexRow.holds Try.pinned (OpenSpec.ofChange fnExactStateIndexWrong)

/-- 'laws.FnExactDistance': WHATEVER THE INPUT: true; the input reads as it did. -/
def fnExactDistanceSpec : ChangeSpec := { name := "fnExactDistance", fn := fun _ => fun
  | [d1, d2] => { results := [.lit (.bool true)], args := [d1, d2] }
  | _ => none }
def fnExactDistanceRow : OpenClaim := { program := "ytdllbnchcjgcdaa", sum := "cc986c9e840b58df800a8d69bce64ec159c60d11744fe4d7a7955486fbd71712", func := "loop.example/g00855/laws.FnExactDistance", spec := "fnExactDistance", unfollowed := true, recurses := true, apart := false }
def FnExactDistanceSaid : Prop := fnExactDistanceRow.holds Try.pinned (OpenSpec.ofChange fnExactDistanceSpec)

/-- ITS FALSE NEIGHBOUR: 'it returns false'. Refute it at one input. -/
def fnExactDistanceWrong : ChangeSpec := { name := "fnExactDistance", fn := fun _ => fun
  | [d1, d2] => { results := [.lit (.bool false)], args := [d1, d2] }
  | _ => none }
def FnExactDistanceWrongFalsely : Prop := fnExactDistanceRow.holds Try.pinned (OpenSpec.ofChange fnExactDistanceWrong)

/-- 'laws.FnExactDepthHistogram': WHATEVER THE INPUT: true; the input reads as it did. -/
def fnExactDepthHistogramSpec : ChangeSpec := { name := "fnExactDepthHistogram", fn := fun _ => fun
  | [d] => { results := [.lit (.bool true)], args := [d] }
  | _ => none }
def fnExactDepthHistogramRow : OpenClaim := { program := "ytdllbnchcjgcdaa", sum := "cc986c9e840b58df800a8d69bce64ec159c60d11744fe4d7a7955486fbd71712", func := "loop.example/g00855/laws.FnExactDepthHistogram", spec := "fnExactDepthHistogram", unfollowed := true, recurses := true, apart := false }
def FnExactDepthHistogramSaid : Prop := fnExactDepthHistogramRow.holds Try.pinned (OpenSpec.ofChange fnExactDepthHistogramSpec)

/-- ITS FALSE NEIGHBOUR: 'it returns false'. Refute it at one input. -/
def fnExactDepthHistogramWrong : ChangeSpec := { name := "fnExactDepthHistogram", fn := fun _ => fun
  | [d] => { results := [.lit (.bool false)], args := [d] }
  | _ => none }
def FnExactDepthHistogramWrongFalsely : Prop := fnExactDepthHistogramRow.holds Try.pinned (OpenSpec.ofChange fnExactDepthHistogramWrong)

/-- 'laws.FnExactFarthestState': WHATEVER THE INPUT: true; the input reads as it did. -/
def fnExactFarthestStateSpec : ChangeSpec := { name := "fnExactFarthestState", fn := fun _ => fun
  | [d] => { results := [.lit (.bool true)], args := [d] }
  | _ => none }
def fnExactFarthestStateRow : OpenClaim := { program := "ytdllbnchcjgcdaa", sum := "cc986c9e840b58df800a8d69bce64ec159c60d11744fe4d7a7955486fbd71712", func := "loop.example/g00855/laws.FnExactFarthestState", spec := "fnExactFarthestState", unfollowed := true, recurses := true, apart := false }
def FnExactFarthestStateSaid : Prop := fnExactFarthestStateRow.holds Try.pinned (OpenSpec.ofChange fnExactFarthestStateSpec)

/-- ITS FALSE NEIGHBOUR: 'it returns false'. Refute it at one input. -/
def fnExactFarthestStateWrong : ChangeSpec := { name := "fnExactFarthestState", fn := fun _ => fun
  | [d] => { results := [.lit (.bool false)], args := [d] }
  | _ => none }
def FnExactFarthestStateWrongFalsely : Prop := fnExactFarthestStateRow.holds Try.pinned (OpenSpec.ofChange fnExactFarthestStateWrong)

/-- 'laws.FnExactReachableStates': WHATEVER THE INPUT: true; the input reads as it did. -/
def fnExactReachableStatesSpec : ChangeSpec := { name := "fnExactReachableStates", fn := fun _ => fun
  | [d] => { results := [.lit (.bool true)], args := [d] }
  | _ => none }
def fnExactReachableStatesRow : OpenClaim := { program := "ytdllbnchcjgcdaa", sum := "cc986c9e840b58df800a8d69bce64ec159c60d11744fe4d7a7955486fbd71712", func := "loop.example/g00855/laws.FnExactReachableStates", spec := "fnExactReachableStates", unfollowed := true, recurses := true, apart := false }
def FnExactReachableStatesSaid : Prop := fnExactReachableStatesRow.holds Try.pinned (OpenSpec.ofChange fnExactReachableStatesSpec)

/-- ITS FALSE NEIGHBOUR: 'it returns false'. Refute it at one input. -/
def fnExactReachableStatesWrong : ChangeSpec := { name := "fnExactReachableStates", fn := fun _ => fun
  | [d] => { results := [.lit (.bool false)], args := [d] }
  | _ => none }
def FnExactReachableStatesWrongFalsely : Prop := fnExactReachableStatesRow.holds Try.pinned (OpenSpec.ofChange fnExactReachableStatesWrong)

/-- 'laws.FnExactStatesAtDepth': WHATEVER THE INPUT: true; the input reads as it did. -/
def fnExactStatesAtDepthSpec : ChangeSpec := { name := "fnExactStatesAtDepth", fn := fun _ => fun
  | [d1, d2] => { results := [.lit (.bool true)], args := [d1, d2] }
  | _ => none }
def fnExactStatesAtDepthRow : OpenClaim := { program := "ytdllbnchcjgcdaa", sum := "cc986c9e840b58df800a8d69bce64ec159c60d11744fe4d7a7955486fbd71712", func := "loop.example/g00855/laws.FnExactStatesAtDepth", spec := "fnExactStatesAtDepth", unfollowed := true, recurses := true, apart := false }
def FnExactStatesAtDepthSaid : Prop := fnExactStatesAtDepthRow.holds Try.pinned (OpenSpec.ofChange fnExactStatesAtDepthSpec)

/-- ITS FALSE NEIGHBOUR: 'it returns false'. Refute it at one input. -/
def fnExactStatesAtDepthWrong : ChangeSpec := { name := "fnExactStatesAtDepth", fn := fun _ => fun
  | [d1, d2] => { results := [.lit (.bool false)], args := [d1, d2] }
  | _ => none }
def FnExactStatesAtDepthWrongFalsely : Prop := fnExactStatesAtDepthRow.holds Try.pinned (OpenSpec.ofChange fnExactStatesAtDepthWrong)

/-- 'laws.FnExactSolutionCount': WHATEVER THE INPUT: true; the input reads as it did. -/
def fnExactSolutionCountSpec : ChangeSpec := { name := "fnExactSolutionCount", fn := fun _ => fun
  | [d1, d2, d3] => { results := [.lit (.bool true)], args := [d1, d2, d3] }
  | _ => none }
def fnExactSolutionCountRow : OpenClaim := { program := "ytdllbnchcjgcdaa", sum := "cc986c9e840b58df800a8d69bce64ec159c60d11744fe4d7a7955486fbd71712", func := "loop.example/g00855/laws.FnExactSolutionCount", spec := "fnExactSolutionCount", unfollowed := true, recurses := true, apart := false }
def FnExactSolutionCountSaid : Prop := fnExactSolutionCountRow.holds Try.pinned (OpenSpec.ofChange fnExactSolutionCountSpec)

/-- ITS FALSE NEIGHBOUR: 'it returns false'. Refute it at one input. -/
def fnExactSolutionCountWrong : ChangeSpec := { name := "fnExactSolutionCount", fn := fun _ => fun
  | [d1, d2, d3] => { results := [.lit (.bool false)], args := [d1, d2, d3] }
  | _ => none }
def FnExactSolutionCountWrongFalsely : Prop := fnExactSolutionCountRow.holds Try.pinned (OpenSpec.ofChange fnExactSolutionCountWrong)

/-- 'laws.FnExactIsOptimalSolution': WHATEVER THE INPUT: true; the input reads as it did. -/
def fnExactIsOptimalSolutionSpec : ChangeSpec := { name := "fnExactIsOptimalSolution", fn := fun _ => fun
  | [d1, d2, d3] => { results := [.lit (.bool true)], args := [d1, d2, d3] }
  | _ => none }
def fnExactIsOptimalSolutionRow : OpenClaim := { program := "ytdllbnchcjgcdaa", sum := "cc986c9e840b58df800a8d69bce64ec159c60d11744fe4d7a7955486fbd71712", func := "loop.example/g00855/laws.FnExactIsOptimalSolution", spec := "fnExactIsOptimalSolution", unfollowed := true, recurses := true, apart := false }
def FnExactIsOptimalSolutionSaid : Prop := fnExactIsOptimalSolutionRow.holds Try.pinned (OpenSpec.ofChange fnExactIsOptimalSolutionSpec)

/-- ITS FALSE NEIGHBOUR: 'it returns false'. Refute it at one input. -/
def fnExactIsOptimalSolutionWrong : ChangeSpec := { name := "fnExactIsOptimalSolution", fn := fun _ => fun
  | [d1, d2, d3] => { results := [.lit (.bool false)], args := [d1, d2, d3] }
  | _ => none }
def FnExactIsOptimalSolutionWrongFalsely : Prop := fnExactIsOptimalSolutionRow.holds Try.pinned (OpenSpec.ofChange fnExactIsOptimalSolutionWrong)

/-- 'laws.FnExactOptimalWordCount': WHATEVER THE INPUT: true; the input reads as it did. -/
def fnExactOptimalWordCountSpec : ChangeSpec := { name := "fnExactOptimalWordCount", fn := fun _ => fun
  | [d1, d2] => { results := [.lit (.bool true)], args := [d1, d2] }
  | _ => none }
def fnExactOptimalWordCountRow : OpenClaim := { program := "ytdllbnchcjgcdaa", sum := "cc986c9e840b58df800a8d69bce64ec159c60d11744fe4d7a7955486fbd71712", func := "loop.example/g00855/laws.FnExactOptimalWordCount", spec := "fnExactOptimalWordCount", unfollowed := true, recurses := true, apart := false }
def FnExactOptimalWordCountSaid : Prop := fnExactOptimalWordCountRow.holds Try.pinned (OpenSpec.ofChange fnExactOptimalWordCountSpec)

/-- ITS FALSE NEIGHBOUR: 'it returns false'. Refute it at one input. -/
def fnExactOptimalWordCountWrong : ChangeSpec := { name := "fnExactOptimalWordCount", fn := fun _ => fun
  | [d1, d2] => { results := [.lit (.bool false)], args := [d1, d2] }
  | _ => none }
def FnExactOptimalWordCountWrongFalsely : Prop := fnExactOptimalWordCountRow.holds Try.pinned (OpenSpec.ofChange fnExactOptimalWordCountWrong)

/-- 'laws.FnExactDistanceBetween': WHATEVER THE INPUT: true; the input reads as it did. -/
def fnExactDistanceBetweenSpec : ChangeSpec := { name := "fnExactDistanceBetween", fn := fun _ => fun
  | [d1, d2, d3] => { results := [.lit (.bool true)], args := [d1, d2, d3] }
  | _ => none }
def fnExactDistanceBetweenRow : OpenClaim := { program := "ytdllbnchcjgcdaa", sum := "cc986c9e840b58df800a8d69bce64ec159c60d11744fe4d7a7955486fbd71712", func := "loop.example/g00855/laws.FnExactDistanceBetween", spec := "fnExactDistanceBetween", unfollowed := true, recurses := true, apart := false }
def FnExactDistanceBetweenSaid : Prop := fnExactDistanceBetweenRow.holds Try.pinned (OpenSpec.ofChange fnExactDistanceBetweenSpec)

/-- ITS FALSE NEIGHBOUR: 'it returns false'. Refute it at one input. -/
def fnExactDistanceBetweenWrong : ChangeSpec := { name := "fnExactDistanceBetween", fn := fun _ => fun
  | [d1, d2, d3] => { results := [.lit (.bool false)], args := [d1, d2, d3] }
  | _ => none }
def FnExactDistanceBetweenWrongFalsely : Prop := fnExactDistanceBetweenRow.holds Try.pinned (OpenSpec.ofChange fnExactDistanceBetweenWrong)

/-- 'laws.FnExactOptimalFirstLetters': WHATEVER THE INPUT: true; the input reads as it did. -/
def fnExactOptimalFirstLettersSpec : ChangeSpec := { name := "fnExactOptimalFirstLetters", fn := fun _ => fun
  | [d1, d2] => { results := [.lit (.bool true)], args := [d1, d2] }
  | _ => none }
def fnExactOptimalFirstLettersRow : OpenClaim := { program := "ytdllbnchcjgcdaa", sum := "cc986c9e840b58df800a8d69bce64ec159c60d11744fe4d7a7955486fbd71712", func := "loop.example/g00855/laws.FnExactOptimalFirstLetters", spec := "fnExactOptimalFirstLetters", unfollowed := true, recurses := true, apart := false }
def FnExactOptimalFirstLettersSaid : Prop := fnExactOptimalFirstLettersRow.holds Try.pinned (OpenSpec.ofChange fnExactOptimalFirstLettersSpec)

/-- ITS FALSE NEIGHBOUR: 'it returns false'. Refute it at one input. -/
def fnExactOptimalFirstLettersWrong : ChangeSpec := { name := "fnExactOptimalFirstLetters", fn := fun _ => fun
  | [d1, d2] => { results := [.lit (.bool false)], args := [d1, d2] }
  | _ => none }
def FnExactOptimalFirstLettersWrongFalsely : Prop := fnExactOptimalFirstLettersRow.holds Try.pinned (OpenSpec.ofChange fnExactOptimalFirstLettersWrong)

/-- 'laws.FnExactOptimalWord': WHATEVER THE INPUT: true; the input reads as it did. -/
def fnExactOptimalWordSpec : ChangeSpec := { name := "fnExactOptimalWord", fn := fun _ => fun
  | [d1, d2] => { results := [.lit (.bool true)], args := [d1, d2] }
  | _ => none }
def fnExactOptimalWordRow : OpenClaim := { program := "ytdllbnchcjgcdaa", sum := "cc986c9e840b58df800a8d69bce64ec159c60d11744fe4d7a7955486fbd71712", func := "loop.example/g00855/laws.FnExactOptimalWord", spec := "fnExactOptimalWord", unfollowed := true, recurses := true, apart := false }
def FnExactOptimalWordSaid : Prop := fnExactOptimalWordRow.holds Try.pinned (OpenSpec.ofChange fnExactOptimalWordSpec)

/-- ITS FALSE NEIGHBOUR: 'it returns false'. Refute it at one input. -/
def fnExactOptimalWordWrong : ChangeSpec := { name := "fnExactOptimalWord", fn := fun _ => fun
  | [d1, d2] => { results := [.lit (.bool false)], args := [d1, d2] }
  | _ => none }
def FnExactOptimalWordWrongFalsely : Prop := fnExactOptimalWordRow.holds Try.pinned (OpenSpec.ofChange fnExactOptimalWordWrong)

/-- 'laws.FnExactWordBetween': WHATEVER THE INPUT: true; the input reads as it did. -/
def fnExactWordBetweenSpec : ChangeSpec := { name := "fnExactWordBetween", fn := fun _ => fun
  | [d1, d2, d3] => { results := [.lit (.bool true)], args := [d1, d2, d3] }
  | _ => none }
def fnExactWordBetweenRow : OpenClaim := { program := "ytdllbnchcjgcdaa", sum := "cc986c9e840b58df800a8d69bce64ec159c60d11744fe4d7a7955486fbd71712", func := "loop.example/g00855/laws.FnExactWordBetween", spec := "fnExactWordBetween", unfollowed := true, recurses := true, apart := false }
def FnExactWordBetweenSaid : Prop := fnExactWordBetweenRow.holds Try.pinned (OpenSpec.ofChange fnExactWordBetweenSpec)

/-- ITS FALSE NEIGHBOUR: 'it returns false'. Refute it at one input. -/
def fnExactWordBetweenWrong : ChangeSpec := { name := "fnExactWordBetween", fn := fun _ => fun
  | [d1, d2, d3] => { results := [.lit (.bool false)], args := [d1, d2, d3] }
  | _ => none }
def FnExactWordBetweenWrongFalsely : Prop := fnExactWordBetweenRow.holds Try.pinned (OpenSpec.ofChange fnExactWordBetweenWrong)

/- THE SECOND FORM. 'bulk': how many values and letters a reading holds, each counted each time it is reached (what is shared counts as often as it is met; a slice's spare places count too). A statement '..UptoSaid' is the law's where the arguments, and the package variables that the reading takes, are together of bulk at most 1048576: NARROWER than '..Said'. Prove '..Said' where nothing that the law and all that it calls make is longer than what came in: it says more and counts as full. Else prove '..UptoSaid'. A law counts once. -/
mutual
def uptoBulk {H : Type} : DataW H → Nat
  | .lit (.string bytes) => bytes.length + 1
  | .lit _ => 1
  | .nil => 1
  | .ptr d => uptoBulk d + 1
  | .slice elems spare => uptoBulkAll elems + uptoBulkAll spare + 1
  | .agg parts => uptoBulkAll parts + 1
  | .iface _ d => uptoBulk d + 1
  | .map entries => uptoBulkEntries entries + 1
  | .held _ => 1
def uptoBulkAll {H : Type} : List (DataW H) → Nat
  | [] => 0
  | d :: r => uptoBulk d + uptoBulkAll r
def uptoBulkEntries {H : Type} : List (Lit × DataW H) → Nat
  | [] => 0
  | x :: r => uptoBulkEntry x + uptoBulkEntries r
def uptoBulkEntry {H : Type} : Lit × DataW H → Nat
  | (.string bytes, d) => bytes.length + uptoBulk d + 1
  | (_, d) => uptoBulk d + 1
 end
def uptoSmall : (H : Type) → List (DataW H) → Bool := fun _ ds => decide (uptoBulkAll ds ≤ 1048576)
def OpenSpec.upto (s : _root_.Go.ChangeSpec) : _root_.Go.OpenSpec := { _root_.Go.OpenSpec.ofChange s with cond := some uptoSmall }

/-- 'laws.FnExactPatternAfter', WHERE WHAT IT READS IS OF BULK AT MOST 1048576: true; the input reads as it did. -/
def fnExactPatternAfterUptoRow : OpenClaim := { program := "ytdllbnchcjgcdaa", sum := "cc986c9e840b58df800a8d69bce64ec159c60d11744fe4d7a7955486fbd71712", func := "loop.example/g00855/laws.FnExactPatternAfter", spec := "fnExactPatternAfter", unfollowed := true, recurses := true, apart := false, narrowed := true }
def FnExactPatternAfterUptoSaid : Prop := fnExactPatternAfterUptoRow.holds Try.pinned (OpenSpec.upto fnExactPatternAfterSpec)

/-- 'laws.FnExactStateCount', WHERE WHAT IT READS IS OF BULK AT MOST 1048576: true; the input reads as it did. -/
def fnExactStateCountUptoRow : OpenClaim := { program := "ytdllbnchcjgcdaa", sum := "cc986c9e840b58df800a8d69bce64ec159c60d11744fe4d7a7955486fbd71712", func := "loop.example/g00855/laws.FnExactStateCount", spec := "fnExactStateCount", unfollowed := true, recurses := true, apart := false, narrowed := true }
def FnExactStateCountUptoSaid : Prop := fnExactStateCountUptoRow.holds Try.pinned (OpenSpec.upto fnExactStateCountSpec)

/-- 'laws.FnExactIsReachable', WHERE WHAT IT READS IS OF BULK AT MOST 1048576: true; the input reads as it did. -/
def fnExactIsReachableUptoRow : OpenClaim := { program := "ytdllbnchcjgcdaa", sum := "cc986c9e840b58df800a8d69bce64ec159c60d11744fe4d7a7955486fbd71712", func := "loop.example/g00855/laws.FnExactIsReachable", spec := "fnExactIsReachable", unfollowed := true, recurses := true, apart := false, narrowed := true }
def FnExactIsReachableUptoSaid : Prop := fnExactIsReachableUptoRow.holds Try.pinned (OpenSpec.upto fnExactIsReachableSpec)

/-- 'laws.FnExactPatternCount', WHERE WHAT IT READS IS OF BULK AT MOST 1048576: true; the input reads as it did. -/
def fnExactPatternCountUptoRow : OpenClaim := { program := "ytdllbnchcjgcdaa", sum := "cc986c9e840b58df800a8d69bce64ec159c60d11744fe4d7a7955486fbd71712", func := "loop.example/g00855/laws.FnExactPatternCount", spec := "fnExactPatternCount", unfollowed := true, recurses := true, apart := false, narrowed := true }
def FnExactPatternCountUptoSaid : Prop := fnExactPatternCountUptoRow.holds Try.pinned (OpenSpec.upto fnExactPatternCountSpec)

/-- 'laws.FnExactReachablePatterns', WHERE WHAT IT READS IS OF BULK AT MOST 1048576: true; the input reads as it did. -/
def fnExactReachablePatternsUptoRow : OpenClaim := { program := "ytdllbnchcjgcdaa", sum := "cc986c9e840b58df800a8d69bce64ec159c60d11744fe4d7a7955486fbd71712", func := "loop.example/g00855/laws.FnExactReachablePatterns", spec := "fnExactReachablePatterns", unfollowed := true, recurses := true, apart := false, narrowed := true }
def FnExactReachablePatternsUptoSaid : Prop := fnExactReachablePatternsUptoRow.holds Try.pinned (OpenSpec.upto fnExactReachablePatternsSpec)

/-- 'laws.FnExactDiameter', WHERE WHAT IT READS IS OF BULK AT MOST 1048576: true; the input reads as it did. -/
def fnExactDiameterUptoRow : OpenClaim := { program := "ytdllbnchcjgcdaa", sum := "cc986c9e840b58df800a8d69bce64ec159c60d11744fe4d7a7955486fbd71712", func := "loop.example/g00855/laws.FnExactDiameter", spec := "fnExactDiameter", unfollowed := true, recurses := true, apart := false, narrowed := true }
def FnExactDiameterUptoSaid : Prop := fnExactDiameterUptoRow.holds Try.pinned (OpenSpec.upto fnExactDiameterSpec)

/-- 'laws.FnExactPatternDistance', WHERE WHAT IT READS IS OF BULK AT MOST 1048576: true; the input reads as it did. -/
def fnExactPatternDistanceUptoRow : OpenClaim := { program := "ytdllbnchcjgcdaa", sum := "cc986c9e840b58df800a8d69bce64ec159c60d11744fe4d7a7955486fbd71712", func := "loop.example/g00855/laws.FnExactPatternDistance", spec := "fnExactPatternDistance", unfollowed := true, recurses := true, apart := false, narrowed := true }
def FnExactPatternDistanceUptoSaid : Prop := fnExactPatternDistanceUptoRow.holds Try.pinned (OpenSpec.upto fnExactPatternDistanceSpec)

/-- 'laws.FnExactStateIndex', WHERE WHAT IT READS IS OF BULK AT MOST 1048576: true; the input reads as it did. -/
def fnExactStateIndexUptoRow : OpenClaim := { program := "ytdllbnchcjgcdaa", sum := "cc986c9e840b58df800a8d69bce64ec159c60d11744fe4d7a7955486fbd71712", func := "loop.example/g00855/laws.FnExactStateIndex", spec := "fnExactStateIndex", unfollowed := true, recurses := true, apart := false, narrowed := true }
def FnExactStateIndexUptoSaid : Prop := fnExactStateIndexUptoRow.holds Try.pinned (OpenSpec.upto fnExactStateIndexSpec)

/-- 'laws.FnExactDistance', WHERE WHAT IT READS IS OF BULK AT MOST 1048576: true; the input reads as it did. -/
def fnExactDistanceUptoRow : OpenClaim := { program := "ytdllbnchcjgcdaa", sum := "cc986c9e840b58df800a8d69bce64ec159c60d11744fe4d7a7955486fbd71712", func := "loop.example/g00855/laws.FnExactDistance", spec := "fnExactDistance", unfollowed := true, recurses := true, apart := false, narrowed := true }
def FnExactDistanceUptoSaid : Prop := fnExactDistanceUptoRow.holds Try.pinned (OpenSpec.upto fnExactDistanceSpec)

/-- 'laws.FnExactDepthHistogram', WHERE WHAT IT READS IS OF BULK AT MOST 1048576: true; the input reads as it did. -/
def fnExactDepthHistogramUptoRow : OpenClaim := { program := "ytdllbnchcjgcdaa", sum := "cc986c9e840b58df800a8d69bce64ec159c60d11744fe4d7a7955486fbd71712", func := "loop.example/g00855/laws.FnExactDepthHistogram", spec := "fnExactDepthHistogram", unfollowed := true, recurses := true, apart := false, narrowed := true }
def FnExactDepthHistogramUptoSaid : Prop := fnExactDepthHistogramUptoRow.holds Try.pinned (OpenSpec.upto fnExactDepthHistogramSpec)

/-- 'laws.FnExactFarthestState', WHERE WHAT IT READS IS OF BULK AT MOST 1048576: true; the input reads as it did. -/
def fnExactFarthestStateUptoRow : OpenClaim := { program := "ytdllbnchcjgcdaa", sum := "cc986c9e840b58df800a8d69bce64ec159c60d11744fe4d7a7955486fbd71712", func := "loop.example/g00855/laws.FnExactFarthestState", spec := "fnExactFarthestState", unfollowed := true, recurses := true, apart := false, narrowed := true }
def FnExactFarthestStateUptoSaid : Prop := fnExactFarthestStateUptoRow.holds Try.pinned (OpenSpec.upto fnExactFarthestStateSpec)

/-- 'laws.FnExactReachableStates', WHERE WHAT IT READS IS OF BULK AT MOST 1048576: true; the input reads as it did. -/
def fnExactReachableStatesUptoRow : OpenClaim := { program := "ytdllbnchcjgcdaa", sum := "cc986c9e840b58df800a8d69bce64ec159c60d11744fe4d7a7955486fbd71712", func := "loop.example/g00855/laws.FnExactReachableStates", spec := "fnExactReachableStates", unfollowed := true, recurses := true, apart := false, narrowed := true }
def FnExactReachableStatesUptoSaid : Prop := fnExactReachableStatesUptoRow.holds Try.pinned (OpenSpec.upto fnExactReachableStatesSpec)

/-- 'laws.FnExactStatesAtDepth', WHERE WHAT IT READS IS OF BULK AT MOST 1048576: true; the input reads as it did. -/
def fnExactStatesAtDepthUptoRow : OpenClaim := { program := "ytdllbnchcjgcdaa", sum := "cc986c9e840b58df800a8d69bce64ec159c60d11744fe4d7a7955486fbd71712", func := "loop.example/g00855/laws.FnExactStatesAtDepth", spec := "fnExactStatesAtDepth", unfollowed := true, recurses := true, apart := false, narrowed := true }
def FnExactStatesAtDepthUptoSaid : Prop := fnExactStatesAtDepthUptoRow.holds Try.pinned (OpenSpec.upto fnExactStatesAtDepthSpec)

/-- 'laws.FnExactSolutionCount', WHERE WHAT IT READS IS OF BULK AT MOST 1048576: true; the input reads as it did. -/
def fnExactSolutionCountUptoRow : OpenClaim := { program := "ytdllbnchcjgcdaa", sum := "cc986c9e840b58df800a8d69bce64ec159c60d11744fe4d7a7955486fbd71712", func := "loop.example/g00855/laws.FnExactSolutionCount", spec := "fnExactSolutionCount", unfollowed := true, recurses := true, apart := false, narrowed := true }
def FnExactSolutionCountUptoSaid : Prop := fnExactSolutionCountUptoRow.holds Try.pinned (OpenSpec.upto fnExactSolutionCountSpec)

/-- 'laws.FnExactIsOptimalSolution', WHERE WHAT IT READS IS OF BULK AT MOST 1048576: true; the input reads as it did. -/
def fnExactIsOptimalSolutionUptoRow : OpenClaim := { program := "ytdllbnchcjgcdaa", sum := "cc986c9e840b58df800a8d69bce64ec159c60d11744fe4d7a7955486fbd71712", func := "loop.example/g00855/laws.FnExactIsOptimalSolution", spec := "fnExactIsOptimalSolution", unfollowed := true, recurses := true, apart := false, narrowed := true }
def FnExactIsOptimalSolutionUptoSaid : Prop := fnExactIsOptimalSolutionUptoRow.holds Try.pinned (OpenSpec.upto fnExactIsOptimalSolutionSpec)

/-- 'laws.FnExactOptimalWordCount', WHERE WHAT IT READS IS OF BULK AT MOST 1048576: true; the input reads as it did. -/
def fnExactOptimalWordCountUptoRow : OpenClaim := { program := "ytdllbnchcjgcdaa", sum := "cc986c9e840b58df800a8d69bce64ec159c60d11744fe4d7a7955486fbd71712", func := "loop.example/g00855/laws.FnExactOptimalWordCount", spec := "fnExactOptimalWordCount", unfollowed := true, recurses := true, apart := false, narrowed := true }
def FnExactOptimalWordCountUptoSaid : Prop := fnExactOptimalWordCountUptoRow.holds Try.pinned (OpenSpec.upto fnExactOptimalWordCountSpec)

/-- 'laws.FnExactDistanceBetween', WHERE WHAT IT READS IS OF BULK AT MOST 1048576: true; the input reads as it did. -/
def fnExactDistanceBetweenUptoRow : OpenClaim := { program := "ytdllbnchcjgcdaa", sum := "cc986c9e840b58df800a8d69bce64ec159c60d11744fe4d7a7955486fbd71712", func := "loop.example/g00855/laws.FnExactDistanceBetween", spec := "fnExactDistanceBetween", unfollowed := true, recurses := true, apart := false, narrowed := true }
def FnExactDistanceBetweenUptoSaid : Prop := fnExactDistanceBetweenUptoRow.holds Try.pinned (OpenSpec.upto fnExactDistanceBetweenSpec)

/-- 'laws.FnExactOptimalFirstLetters', WHERE WHAT IT READS IS OF BULK AT MOST 1048576: true; the input reads as it did. -/
def fnExactOptimalFirstLettersUptoRow : OpenClaim := { program := "ytdllbnchcjgcdaa", sum := "cc986c9e840b58df800a8d69bce64ec159c60d11744fe4d7a7955486fbd71712", func := "loop.example/g00855/laws.FnExactOptimalFirstLetters", spec := "fnExactOptimalFirstLetters", unfollowed := true, recurses := true, apart := false, narrowed := true }
def FnExactOptimalFirstLettersUptoSaid : Prop := fnExactOptimalFirstLettersUptoRow.holds Try.pinned (OpenSpec.upto fnExactOptimalFirstLettersSpec)

/-- 'laws.FnExactOptimalWord', WHERE WHAT IT READS IS OF BULK AT MOST 1048576: true; the input reads as it did. -/
def fnExactOptimalWordUptoRow : OpenClaim := { program := "ytdllbnchcjgcdaa", sum := "cc986c9e840b58df800a8d69bce64ec159c60d11744fe4d7a7955486fbd71712", func := "loop.example/g00855/laws.FnExactOptimalWord", spec := "fnExactOptimalWord", unfollowed := true, recurses := true, apart := false, narrowed := true }
def FnExactOptimalWordUptoSaid : Prop := fnExactOptimalWordUptoRow.holds Try.pinned (OpenSpec.upto fnExactOptimalWordSpec)

/-- 'laws.FnExactWordBetween', WHERE WHAT IT READS IS OF BULK AT MOST 1048576: true; the input reads as it did. -/
def fnExactWordBetweenUptoRow : OpenClaim := { program := "ytdllbnchcjgcdaa", sum := "cc986c9e840b58df800a8d69bce64ec159c60d11744fe4d7a7955486fbd71712", func := "loop.example/g00855/laws.FnExactWordBetween", spec := "fnExactWordBetween", unfollowed := true, recurses := true, apart := false, narrowed := true }
def FnExactWordBetweenUptoSaid : Prop := fnExactWordBetweenUptoRow.holds Try.pinned (OpenSpec.upto fnExactWordBetweenSpec)

end Rows
end Go.Proofs.Ytdllbnchcjgcdaa
