/-
  No cell of these rows narrows 'for every input' (looked for: loops, veiled, ifaces, maps, wideKeys, modest, calm, conditions, laid).
  DERIVED. THE GIVEN ROWS OF THIS SEAT. 18 by the template 'for every input the law returns true; each argument reads behind the call as it read before'; 0 by the template 'total and deterministic' (their statements: YtfgblelbhlpfjaaTotals.lean).
  GIVEN WITH THE SEED: the statements are not yours to turn. If you find one false, say at which input.
  Laid BY PROGRAM, IN A SANDBOX (cutbox-rows.mjs): the forced cells as the released guide's own fill.sh prints them over the translation 0c034d4c708c2827… (all of the seat's roots in one cut). By AI agents, Wed Nov 11 2026. No macro, syntax, notation, axiom, sorry.
-/
import Derived.Test.YtfgblelbhlpfjaaChecked
import GoSem.Claim
import GoSem.ClaimJoined
import GoSem.ClaimMapViews
import Derived.JoinedTies
import Derived.KernelRfl
namespace Go.Proofs.Ytfgblelbhlpfjaa
/- THE CELL 'sum', in the pinned program and in every row, IS THE sha256 OF THE DUMP (.gsa) THAT YtfgblelbhlpfjaaProg.lean LOADS. Nothing in Lean hashes anything: it is a label: what it is worth is what the hold of that sum in a sandbox is worth. -/
noncomputable def Try.pinned : Pinned := { name := "ytfgblelbhlpfjaa", sum := "0c034d4c708c2827a8f81784962704acfcb0fa7bf8591b194bcf5855bed0b99e", checked := Try.checked }
namespace Rows
def none {H : Type} : Left H := { results := [], args := [] }

/-- 'laws.FnExactRepeatWord': WHATEVER THE INPUT: true; the input reads as it did. -/
def fnExactRepeatWordSpec : ChangeSpec := { name := "fnExactRepeatWord", fn := fun _ => fun
  | [d1, d2] => { results := [.lit (.bool true)], args := [d1, d2] }
  | _ => none }
def fnExactRepeatWordRow : OpenClaim := { program := "ytfgblelbhlpfjaa", sum := "0c034d4c708c2827a8f81784962704acfcb0fa7bf8591b194bcf5855bed0b99e", func := "loop.example/g00855/laws.FnExactRepeatWord", spec := "fnExactRepeatWord", unfollowed := true, recurses := true, apart := false }
def FnExactRepeatWordSaid : Prop := fnExactRepeatWordRow.holds Try.pinned (OpenSpec.ofChange fnExactRepeatWordSpec)

/-- ITS FALSE NEIGHBOUR: 'it returns false'. Refute it at one input. -/
def fnExactRepeatWordWrong : ChangeSpec := { name := "fnExactRepeatWord", fn := fun _ => fun
  | [d1, d2] => { results := [.lit (.bool false)], args := [d1, d2] }
  | _ => none }
def FnExactRepeatWordWrongFalsely : Prop := fnExactRepeatWordRow.holds Try.pinned (OpenSpec.ofChange fnExactRepeatWordWrong)

/-- 'laws.FnExactIsValidNotation': WHATEVER THE INPUT: true; the input reads as it did. -/
def fnExactIsValidNotationSpec : ChangeSpec := { name := "fnExactIsValidNotation", fn := fun _ => fun
  | [d1, d2] => { results := [.lit (.bool true)], args := [d1, d2] }
  | _ => none }
def fnExactIsValidNotationRow : OpenClaim := { program := "ytfgblelbhlpfjaa", sum := "0c034d4c708c2827a8f81784962704acfcb0fa7bf8591b194bcf5855bed0b99e", func := "loop.example/g00855/laws.FnExactIsValidNotation", spec := "fnExactIsValidNotation", recurses := true, apart := false }
def FnExactIsValidNotationSaid : Prop := fnExactIsValidNotationRow.holds Try.pinned (OpenSpec.ofChange fnExactIsValidNotationSpec)

/-- ITS FALSE NEIGHBOUR: 'it returns false'. Refute it at one input. -/
def fnExactIsValidNotationWrong : ChangeSpec := { name := "fnExactIsValidNotation", fn := fun _ => fun
  | [d1, d2] => { results := [.lit (.bool false)], args := [d1, d2] }
  | _ => none }
def FnExactIsValidNotationWrongFalsely : Prop := fnExactIsValidNotationRow.holds Try.pinned (OpenSpec.ofChange fnExactIsValidNotationWrong)

/-- 'laws.FnExactIsValidPuzzle': WHATEVER THE INPUT: true; the input reads as it did. -/
def fnExactIsValidPuzzleSpec : ChangeSpec := { name := "fnExactIsValidPuzzle", fn := fun _ => fun
  | [d] => { results := [.lit (.bool true)], args := [d] }
  | _ => none }
def fnExactIsValidPuzzleRow : OpenClaim := { program := "ytfgblelbhlpfjaa", sum := "0c034d4c708c2827a8f81784962704acfcb0fa7bf8591b194bcf5855bed0b99e", func := "loop.example/g00855/laws.FnExactIsValidPuzzle", spec := "fnExactIsValidPuzzle", unfollowed := true, recurses := true, apart := false }
def FnExactIsValidPuzzleSaid : Prop := fnExactIsValidPuzzleRow.holds Try.pinned (OpenSpec.ofChange fnExactIsValidPuzzleSpec)

/-- ITS FALSE NEIGHBOUR: 'it returns false'. Refute it at one input. -/
def fnExactIsValidPuzzleWrong : ChangeSpec := { name := "fnExactIsValidPuzzle", fn := fun _ => fun
  | [d] => { results := [.lit (.bool false)], args := [d] }
  | _ => none }
def FnExactIsValidPuzzleWrongFalsely : Prop := fnExactIsValidPuzzleRow.holds Try.pinned (OpenSpec.ofChange fnExactIsValidPuzzleWrong)

/-- 'laws.FnExactIsState': WHATEVER THE INPUT: true; the input reads as it did. -/
def fnExactIsStateSpec : ChangeSpec := { name := "fnExactIsState", fn := fun _ => fun
  | [d1, d2] => { results := [.lit (.bool true)], args := [d1, d2] }
  | _ => none }
def fnExactIsStateRow : OpenClaim := { program := "ytfgblelbhlpfjaa", sum := "0c034d4c708c2827a8f81784962704acfcb0fa7bf8591b194bcf5855bed0b99e", func := "loop.example/g00855/laws.FnExactIsState", spec := "fnExactIsState", unfollowed := true, recurses := true, apart := false }
def FnExactIsStateSaid : Prop := fnExactIsStateRow.holds Try.pinned (OpenSpec.ofChange fnExactIsStateSpec)

/-- ITS FALSE NEIGHBOUR: 'it returns false'. Refute it at one input. -/
def fnExactIsStateWrong : ChangeSpec := { name := "fnExactIsState", fn := fun _ => fun
  | [d1, d2] => { results := [.lit (.bool false)], args := [d1, d2] }
  | _ => none }
def FnExactIsStateWrongFalsely : Prop := fnExactIsStateRow.holds Try.pinned (OpenSpec.ofChange fnExactIsStateWrong)

/-- 'laws.FnExactMoveIndex': WHATEVER THE INPUT: true; the input reads as it did. -/
def fnExactMoveIndexSpec : ChangeSpec := { name := "fnExactMoveIndex", fn := fun _ => fun
  | [d1, d2] => { results := [.lit (.bool true)], args := [d1, d2] }
  | _ => none }
def fnExactMoveIndexRow : OpenClaim := { program := "ytfgblelbhlpfjaa", sum := "0c034d4c708c2827a8f81784962704acfcb0fa7bf8591b194bcf5855bed0b99e", func := "loop.example/g00855/laws.FnExactMoveIndex", spec := "fnExactMoveIndex", unfollowed := true, recurses := true, apart := false }
def FnExactMoveIndexSaid : Prop := fnExactMoveIndexRow.holds Try.pinned (OpenSpec.ofChange fnExactMoveIndexSpec)

/-- ITS FALSE NEIGHBOUR: 'it returns false'. Refute it at one input. -/
def fnExactMoveIndexWrong : ChangeSpec := { name := "fnExactMoveIndex", fn := fun _ => fun
  | [d1, d2] => { results := [.lit (.bool false)], args := [d1, d2] }
  | _ => none }
def FnExactMoveIndexWrongFalsely : Prop := fnExactMoveIndexRow.holds Try.pinned (OpenSpec.ofChange fnExactMoveIndexWrong)

/-- 'laws.FnExactIsTrackedSet': WHATEVER THE INPUT: true; the input reads as it did. -/
def fnExactIsTrackedSetSpec : ChangeSpec := { name := "fnExactIsTrackedSet", fn := fun _ => fun
  | [d1, d2] => { results := [.lit (.bool true)], args := [d1, d2] }
  | _ => none }
def fnExactIsTrackedSetRow : OpenClaim := { program := "ytfgblelbhlpfjaa", sum := "0c034d4c708c2827a8f81784962704acfcb0fa7bf8591b194bcf5855bed0b99e", func := "loop.example/g00855/laws.FnExactIsTrackedSet", spec := "fnExactIsTrackedSet", unfollowed := true, recurses := true, apart := false }
def FnExactIsTrackedSetSaid : Prop := fnExactIsTrackedSetRow.holds Try.pinned (OpenSpec.ofChange fnExactIsTrackedSetSpec)

/-- ITS FALSE NEIGHBOUR: 'it returns false'. Refute it at one input. -/
def fnExactIsTrackedSetWrong : ChangeSpec := { name := "fnExactIsTrackedSet", fn := fun _ => fun
  | [d1, d2] => { results := [.lit (.bool false)], args := [d1, d2] }
  | _ => none }
def FnExactIsTrackedSetWrongFalsely : Prop := fnExactIsTrackedSetRow.holds Try.pinned (OpenSpec.ofChange fnExactIsTrackedSetWrong)

/-- 'laws.FnExactIsSolved': WHATEVER THE INPUT: true; the input reads as it did. -/
def fnExactIsSolvedSpec : ChangeSpec := { name := "fnExactIsSolved", fn := fun _ => fun
  | [d1, d2] => { results := [.lit (.bool true)], args := [d1, d2] }
  | _ => none }
def fnExactIsSolvedRow : OpenClaim := { program := "ytfgblelbhlpfjaa", sum := "0c034d4c708c2827a8f81784962704acfcb0fa7bf8591b194bcf5855bed0b99e", func := "loop.example/g00855/laws.FnExactIsSolved", spec := "fnExactIsSolved", unfollowed := true, recurses := true, apart := false }
def FnExactIsSolvedSaid : Prop := fnExactIsSolvedRow.holds Try.pinned (OpenSpec.ofChange fnExactIsSolvedSpec)

/-- ITS FALSE NEIGHBOUR: 'it returns false'. Refute it at one input. -/
def fnExactIsSolvedWrong : ChangeSpec := { name := "fnExactIsSolved", fn := fun _ => fun
  | [d1, d2] => { results := [.lit (.bool false)], args := [d1, d2] }
  | _ => none }
def FnExactIsSolvedWrongFalsely : Prop := fnExactIsSolvedRow.holds Try.pinned (OpenSpec.ofChange fnExactIsSolvedWrong)

/-- 'laws.FnExactLetters': WHATEVER THE INPUT: true; the input reads as it did. -/
def fnExactLettersSpec : ChangeSpec := { name := "fnExactLetters", fn := fun _ => fun
  | [d] => { results := [.lit (.bool true)], args := [d] }
  | _ => none }
def fnExactLettersRow : OpenClaim := { program := "ytfgblelbhlpfjaa", sum := "0c034d4c708c2827a8f81784962704acfcb0fa7bf8591b194bcf5855bed0b99e", func := "loop.example/g00855/laws.FnExactLetters", spec := "fnExactLetters", unfollowed := true, recurses := true, apart := false }
def FnExactLettersSaid : Prop := fnExactLettersRow.holds Try.pinned (OpenSpec.ofChange fnExactLettersSpec)

/-- ITS FALSE NEIGHBOUR: 'it returns false'. Refute it at one input. -/
def fnExactLettersWrong : ChangeSpec := { name := "fnExactLetters", fn := fun _ => fun
  | [d] => { results := [.lit (.bool false)], args := [d] }
  | _ => none }
def FnExactLettersWrongFalsely : Prop := fnExactLettersRow.holds Try.pinned (OpenSpec.ofChange fnExactLettersWrong)

/-- 'laws.FnExactSamePuzzle': WHATEVER THE INPUT: true; the input reads as it did. -/
def fnExactSamePuzzleSpec : ChangeSpec := { name := "fnExactSamePuzzle", fn := fun _ => fun
  | [d1, d2] => { results := [.lit (.bool true)], args := [d1, d2] }
  | _ => none }
def fnExactSamePuzzleRow : OpenClaim := { program := "ytfgblelbhlpfjaa", sum := "0c034d4c708c2827a8f81784962704acfcb0fa7bf8591b194bcf5855bed0b99e", func := "loop.example/g00855/laws.FnExactSamePuzzle", spec := "fnExactSamePuzzle", unfollowed := true, recurses := true, apart := false }
def FnExactSamePuzzleSaid : Prop := fnExactSamePuzzleRow.holds Try.pinned (OpenSpec.ofChange fnExactSamePuzzleSpec)

/-- ITS FALSE NEIGHBOUR: 'it returns false'. Refute it at one input. -/
def fnExactSamePuzzleWrong : ChangeSpec := { name := "fnExactSamePuzzle", fn := fun _ => fun
  | [d1, d2] => { results := [.lit (.bool false)], args := [d1, d2] }
  | _ => none }
def FnExactSamePuzzleWrongFalsely : Prop := fnExactSamePuzzleRow.holds Try.pinned (OpenSpec.ofChange fnExactSamePuzzleWrong)

/-- 'laws.FnFreeReduction': WHATEVER THE INPUT: true; the input reads as it did. -/
def fnFreeReductionSpec : ChangeSpec := { name := "fnFreeReduction", fn := fun _ => fun
  | [d] => { results := [.lit (.bool true)], args := [d] }
  | _ => none }
def fnFreeReductionRow : OpenClaim := { program := "ytfgblelbhlpfjaa", sum := "0c034d4c708c2827a8f81784962704acfcb0fa7bf8591b194bcf5855bed0b99e", func := "loop.example/g00855/laws.FnFreeReduction", spec := "fnFreeReduction", unfollowed := true, recurses := true, apart := false }
def FnFreeReductionSaid : Prop := fnFreeReductionRow.holds Try.pinned (OpenSpec.ofChange fnFreeReductionSpec)

/-- ITS FALSE NEIGHBOUR: 'it returns false'. Refute it at one input. -/
def fnFreeReductionWrong : ChangeSpec := { name := "fnFreeReduction", fn := fun _ => fun
  | [d] => { results := [.lit (.bool false)], args := [d] }
  | _ => none }
def FnFreeReductionWrongFalsely : Prop := fnFreeReductionRow.holds Try.pinned (OpenSpec.ofChange fnFreeReductionWrong)

/-- 'laws.FnExactIsPattern': WHATEVER THE INPUT: true; the input reads as it did. -/
def fnExactIsPatternSpec : ChangeSpec := { name := "fnExactIsPattern", fn := fun _ => fun
  | [d1, d2, d3] => { results := [.lit (.bool true)], args := [d1, d2, d3] }
  | _ => none }
def fnExactIsPatternRow : OpenClaim := { program := "ytfgblelbhlpfjaa", sum := "0c034d4c708c2827a8f81784962704acfcb0fa7bf8591b194bcf5855bed0b99e", func := "loop.example/g00855/laws.FnExactIsPattern", spec := "fnExactIsPattern", unfollowed := true, recurses := true, apart := false }
def FnExactIsPatternSaid : Prop := fnExactIsPatternRow.holds Try.pinned (OpenSpec.ofChange fnExactIsPatternSpec)

/-- ITS FALSE NEIGHBOUR: 'it returns false'. Refute it at one input. -/
def fnExactIsPatternWrong : ChangeSpec := { name := "fnExactIsPattern", fn := fun _ => fun
  | [d1, d2, d3] => { results := [.lit (.bool false)], args := [d1, d2, d3] }
  | _ => none }
def FnExactIsPatternWrongFalsely : Prop := fnExactIsPatternRow.holds Try.pinned (OpenSpec.ofChange fnExactIsPatternWrong)

/-- 'laws.FnExactPatternOf': WHATEVER THE INPUT: true; the input reads as it did. -/
def fnExactPatternOfSpec : ChangeSpec := { name := "fnExactPatternOf", fn := fun _ => fun
  | [d1, d2, d3] => { results := [.lit (.bool true)], args := [d1, d2, d3] }
  | _ => none }
def fnExactPatternOfRow : OpenClaim := { program := "ytfgblelbhlpfjaa", sum := "0c034d4c708c2827a8f81784962704acfcb0fa7bf8591b194bcf5855bed0b99e", func := "loop.example/g00855/laws.FnExactPatternOf", spec := "fnExactPatternOf", unfollowed := true, recurses := true, apart := false }
def FnExactPatternOfSaid : Prop := fnExactPatternOfRow.holds Try.pinned (OpenSpec.ofChange fnExactPatternOfSpec)

/-- ITS FALSE NEIGHBOUR: 'it returns false'. Refute it at one input. -/
def fnExactPatternOfWrong : ChangeSpec := { name := "fnExactPatternOf", fn := fun _ => fun
  | [d1, d2, d3] => { results := [.lit (.bool false)], args := [d1, d2, d3] }
  | _ => none }
def FnExactPatternOfWrongFalsely : Prop := fnExactPatternOfRow.holds Try.pinned (OpenSpec.ofChange fnExactPatternOfWrong)

/-- 'laws.FnExactNeighbors': WHATEVER THE INPUT: true; the input reads as it did. -/
def fnExactNeighborsSpec : ChangeSpec := { name := "fnExactNeighbors", fn := fun _ => fun
  | [d1, d2] => { results := [.lit (.bool true)], args := [d1, d2] }
  | _ => none }
def fnExactNeighborsRow : OpenClaim := { program := "ytfgblelbhlpfjaa", sum := "0c034d4c708c2827a8f81784962704acfcb0fa7bf8591b194bcf5855bed0b99e", func := "loop.example/g00855/laws.FnExactNeighbors", spec := "fnExactNeighbors", unfollowed := true, recurses := true, apart := false }
def FnExactNeighborsSaid : Prop := fnExactNeighborsRow.holds Try.pinned (OpenSpec.ofChange fnExactNeighborsSpec)

/-- ITS FALSE NEIGHBOUR: 'it returns false'. Refute it at one input. -/
def fnExactNeighborsWrong : ChangeSpec := { name := "fnExactNeighbors", fn := fun _ => fun
  | [d1, d2] => { results := [.lit (.bool false)], args := [d1, d2] }
  | _ => none }
def FnExactNeighborsWrongFalsely : Prop := fnExactNeighborsRow.holds Try.pinned (OpenSpec.ofChange fnExactNeighborsWrong)

/-- 'laws.FnExactApplyWord': WHATEVER THE INPUT: true; the input reads as it did. -/
def fnExactApplyWordSpec : ChangeSpec := { name := "fnExactApplyWord", fn := fun _ => fun
  | [d1, d2, d3] => { results := [.lit (.bool true)], args := [d1, d2, d3] }
  | _ => none }
def fnExactApplyWordRow : OpenClaim := { program := "ytfgblelbhlpfjaa", sum := "0c034d4c708c2827a8f81784962704acfcb0fa7bf8591b194bcf5855bed0b99e", func := "loop.example/g00855/laws.FnExactApplyWord", spec := "fnExactApplyWord", unfollowed := true, recurses := true, apart := false }
def FnExactApplyWordSaid : Prop := fnExactApplyWordRow.holds Try.pinned (OpenSpec.ofChange fnExactApplyWordSpec)

/-- ITS FALSE NEIGHBOUR: 'it returns false'. Refute it at one input. -/
def fnExactApplyWordWrong : ChangeSpec := { name := "fnExactApplyWord", fn := fun _ => fun
  | [d1, d2, d3] => { results := [.lit (.bool false)], args := [d1, d2, d3] }
  | _ => none }
def FnExactApplyWordWrongFalsely : Prop := fnExactApplyWordRow.holds Try.pinned (OpenSpec.ofChange fnExactApplyWordWrong)

/-- 'laws.FnWordForms': WHATEVER THE INPUT: true; the input reads as it did. -/
def fnWordFormsSpec : ChangeSpec := { name := "fnWordForms", fn := fun _ => fun
  | [d] => { results := [.lit (.bool true)], args := [d] }
  | _ => none }
def fnWordFormsRow : OpenClaim := { program := "ytfgblelbhlpfjaa", sum := "0c034d4c708c2827a8f81784962704acfcb0fa7bf8591b194bcf5855bed0b99e", func := "loop.example/g00855/laws.FnWordForms", spec := "fnWordForms", unfollowed := true, recurses := true, apart := false }
def FnWordFormsSaid : Prop := fnWordFormsRow.holds Try.pinned (OpenSpec.ofChange fnWordFormsSpec)

/-- ITS FALSE NEIGHBOUR: 'it returns false'. Refute it at one input. -/
def fnWordFormsWrong : ChangeSpec := { name := "fnWordForms", fn := fun _ => fun
  | [d] => { results := [.lit (.bool false)], args := [d] }
  | _ => none }
def FnWordFormsWrongFalsely : Prop := fnWordFormsRow.holds Try.pinned (OpenSpec.ofChange fnWordFormsWrong)

/-- 'laws.FnExactIsReachable': WHATEVER THE INPUT: true; the input reads as it did. -/
def fnExactIsReachableSpec : ChangeSpec := { name := "fnExactIsReachable", fn := fun _ => fun
  | [d1, d2] => { results := [.lit (.bool true)], args := [d1, d2] }
  | _ => none }
def fnExactIsReachableRow : OpenClaim := { program := "ytfgblelbhlpfjaa", sum := "0c034d4c708c2827a8f81784962704acfcb0fa7bf8591b194bcf5855bed0b99e", func := "loop.example/g00855/laws.FnExactIsReachable", spec := "fnExactIsReachable", unfollowed := true, recurses := true, apart := false }
def FnExactIsReachableSaid : Prop := fnExactIsReachableRow.holds Try.pinned (OpenSpec.ofChange fnExactIsReachableSpec)

/-- ITS FALSE NEIGHBOUR: 'it returns false'. Refute it at one input. -/
def fnExactIsReachableWrong : ChangeSpec := { name := "fnExactIsReachable", fn := fun _ => fun
  | [d1, d2] => { results := [.lit (.bool false)], args := [d1, d2] }
  | _ => none }
def FnExactIsReachableWrongFalsely : Prop := fnExactIsReachableRow.holds Try.pinned (OpenSpec.ofChange fnExactIsReachableWrong)

/-- 'laws.FnExactParseNotation': WHATEVER THE INPUT: true; the input reads as it did. -/
def fnExactParseNotationSpec : ChangeSpec := { name := "fnExactParseNotation", fn := fun _ => fun
  | [d1, d2] => { results := [.lit (.bool true)], args := [d1, d2] }
  | _ => none }
def fnExactParseNotationRow : OpenClaim := { program := "ytfgblelbhlpfjaa", sum := "0c034d4c708c2827a8f81784962704acfcb0fa7bf8591b194bcf5855bed0b99e", func := "loop.example/g00855/laws.FnExactParseNotation", spec := "fnExactParseNotation", inPlace := ["internal/bytealg.IndexByteString"], recurses := true, apart := false }
def FnExactParseNotationSaid : Prop := fnExactParseNotationRow.holds Try.pinned (OpenSpec.ofChange fnExactParseNotationSpec)

/-- ITS FALSE NEIGHBOUR: 'it returns false'. Refute it at one input. -/
def fnExactParseNotationWrong : ChangeSpec := { name := "fnExactParseNotation", fn := fun _ => fun
  | [d1, d2] => { results := [.lit (.bool false)], args := [d1, d2] }
  | _ => none }
def FnExactParseNotationWrongFalsely : Prop := fnExactParseNotationRow.holds Try.pinned (OpenSpec.ofChange fnExactParseNotationWrong)

/-- 'laws.FnWordEvaluation': WHATEVER THE INPUT: true; the input reads as it did. -/
def fnWordEvaluationSpec : ChangeSpec := { name := "fnWordEvaluation", fn := fun _ => fun
  | [d] => { results := [.lit (.bool true)], args := [d] }
  | _ => none }
def fnWordEvaluationRow : OpenClaim := { program := "ytfgblelbhlpfjaa", sum := "0c034d4c708c2827a8f81784962704acfcb0fa7bf8591b194bcf5855bed0b99e", func := "loop.example/g00855/laws.FnWordEvaluation", spec := "fnWordEvaluation", unfollowed := true, recurses := true, apart := false }
def FnWordEvaluationSaid : Prop := fnWordEvaluationRow.holds Try.pinned (OpenSpec.ofChange fnWordEvaluationSpec)

/-- ITS FALSE NEIGHBOUR: 'it returns false'. Refute it at one input. -/
def fnWordEvaluationWrong : ChangeSpec := { name := "fnWordEvaluation", fn := fun _ => fun
  | [d] => { results := [.lit (.bool false)], args := [d] }
  | _ => none }
def FnWordEvaluationWrongFalsely : Prop := fnWordEvaluationRow.holds Try.pinned (OpenSpec.ofChange fnWordEvaluationWrong)

/- THE SECOND FORM. 'bulk': how many values and letters a reading holds, each counted each time it is reached (what is shared counts as often as it is met; a slice's spare places count too). A statement '..UptoSaid' is the law's where the arguments, and the package variables that the reading takes, are together of bulk at most 1048576: NARROWER than '..Said'. Prove '..Said' where nothing that the law and all that it calls make is longer than what came in: it says more and counts as full. Else prove '..UptoSaid'. A law counts once. -/
mutual
def uptoBulk {H : Type} : DataW H → Nat
  | .lit (.string bytes) => bytes.length + 1
  | .lit _ => 1
  | .nil => 1
  | .ptr d => uptoBulk d + 1
  | .slice elems spare => uptoBulkAll elems + uptoBulkAll spare + 1
  | .agg parts => uptoBulkAll parts + 1
  | .iface _ d => uptoBulk d + 1
  | .map entries => uptoBulkEntries entries + 1
  | .held _ => 1
def uptoBulkAll {H : Type} : List (DataW H) → Nat
  | [] => 0
  | d :: r => uptoBulk d + uptoBulkAll r
def uptoBulkEntries {H : Type} : List (Lit × DataW H) → Nat
  | [] => 0
  | x :: r => uptoBulkEntry x + uptoBulkEntries r
def uptoBulkEntry {H : Type} : Lit × DataW H → Nat
  | (.string bytes, d) => bytes.length + uptoBulk d + 1
  | (_, d) => uptoBulk d + 1
 end
def uptoSmall : (H : Type) → List (DataW H) → Bool := fun _ ds => decide (uptoBulkAll ds ≤ 1048576)
def OpenSpec.upto (s : _root_.Go.ChangeSpec) : _root_.Go.OpenSpec := { _root_.Go.OpenSpec.ofChange s with cond := some uptoSmall }

/-- 'laws.FnExactRepeatWord', WHERE WHAT IT READS IS OF BULK AT MOST 1048576: true; the input reads as it did. -/
def fnExactRepeatWordUptoRow : OpenClaim := { program := "ytfgblelbhlpfjaa", sum := "0c034d4c708c2827a8f81784962704acfcb0fa7bf8591b194bcf5855bed0b99e", func := "loop.example/g00855/laws.FnExactRepeatWord", spec := "fnExactRepeatWord", unfollowed := true, recurses := true, apart := false, narrowed := true }
def FnExactRepeatWordUptoSaid : Prop := fnExactRepeatWordUptoRow.holds Try.pinned (OpenSpec.upto fnExactRepeatWordSpec)

/-- 'laws.FnExactIsValidNotation', WHERE WHAT IT READS IS OF BULK AT MOST 1048576: true; the input reads as it did. -/
def fnExactIsValidNotationUptoRow : OpenClaim := { program := "ytfgblelbhlpfjaa", sum := "0c034d4c708c2827a8f81784962704acfcb0fa7bf8591b194bcf5855bed0b99e", func := "loop.example/g00855/laws.FnExactIsValidNotation", spec := "fnExactIsValidNotation", recurses := true, apart := false, narrowed := true }
def FnExactIsValidNotationUptoSaid : Prop := fnExactIsValidNotationUptoRow.holds Try.pinned (OpenSpec.upto fnExactIsValidNotationSpec)

/-- 'laws.FnExactIsValidPuzzle', WHERE WHAT IT READS IS OF BULK AT MOST 1048576: true; the input reads as it did. -/
def fnExactIsValidPuzzleUptoRow : OpenClaim := { program := "ytfgblelbhlpfjaa", sum := "0c034d4c708c2827a8f81784962704acfcb0fa7bf8591b194bcf5855bed0b99e", func := "loop.example/g00855/laws.FnExactIsValidPuzzle", spec := "fnExactIsValidPuzzle", unfollowed := true, recurses := true, apart := false, narrowed := true }
def FnExactIsValidPuzzleUptoSaid : Prop := fnExactIsValidPuzzleUptoRow.holds Try.pinned (OpenSpec.upto fnExactIsValidPuzzleSpec)

/-- 'laws.FnExactIsState', WHERE WHAT IT READS IS OF BULK AT MOST 1048576: true; the input reads as it did. -/
def fnExactIsStateUptoRow : OpenClaim := { program := "ytfgblelbhlpfjaa", sum := "0c034d4c708c2827a8f81784962704acfcb0fa7bf8591b194bcf5855bed0b99e", func := "loop.example/g00855/laws.FnExactIsState", spec := "fnExactIsState", unfollowed := true, recurses := true, apart := false, narrowed := true }
def FnExactIsStateUptoSaid : Prop := fnExactIsStateUptoRow.holds Try.pinned (OpenSpec.upto fnExactIsStateSpec)

/-- 'laws.FnExactMoveIndex', WHERE WHAT IT READS IS OF BULK AT MOST 1048576: true; the input reads as it did. -/
def fnExactMoveIndexUptoRow : OpenClaim := { program := "ytfgblelbhlpfjaa", sum := "0c034d4c708c2827a8f81784962704acfcb0fa7bf8591b194bcf5855bed0b99e", func := "loop.example/g00855/laws.FnExactMoveIndex", spec := "fnExactMoveIndex", unfollowed := true, recurses := true, apart := false, narrowed := true }
def FnExactMoveIndexUptoSaid : Prop := fnExactMoveIndexUptoRow.holds Try.pinned (OpenSpec.upto fnExactMoveIndexSpec)

/-- 'laws.FnExactIsTrackedSet', WHERE WHAT IT READS IS OF BULK AT MOST 1048576: true; the input reads as it did. -/
def fnExactIsTrackedSetUptoRow : OpenClaim := { program := "ytfgblelbhlpfjaa", sum := "0c034d4c708c2827a8f81784962704acfcb0fa7bf8591b194bcf5855bed0b99e", func := "loop.example/g00855/laws.FnExactIsTrackedSet", spec := "fnExactIsTrackedSet", unfollowed := true, recurses := true, apart := false, narrowed := true }
def FnExactIsTrackedSetUptoSaid : Prop := fnExactIsTrackedSetUptoRow.holds Try.pinned (OpenSpec.upto fnExactIsTrackedSetSpec)

/-- 'laws.FnExactIsSolved', WHERE WHAT IT READS IS OF BULK AT MOST 1048576: true; the input reads as it did. -/
def fnExactIsSolvedUptoRow : OpenClaim := { program := "ytfgblelbhlpfjaa", sum := "0c034d4c708c2827a8f81784962704acfcb0fa7bf8591b194bcf5855bed0b99e", func := "loop.example/g00855/laws.FnExactIsSolved", spec := "fnExactIsSolved", unfollowed := true, recurses := true, apart := false, narrowed := true }
def FnExactIsSolvedUptoSaid : Prop := fnExactIsSolvedUptoRow.holds Try.pinned (OpenSpec.upto fnExactIsSolvedSpec)

/-- 'laws.FnExactLetters', WHERE WHAT IT READS IS OF BULK AT MOST 1048576: true; the input reads as it did. -/
def fnExactLettersUptoRow : OpenClaim := { program := "ytfgblelbhlpfjaa", sum := "0c034d4c708c2827a8f81784962704acfcb0fa7bf8591b194bcf5855bed0b99e", func := "loop.example/g00855/laws.FnExactLetters", spec := "fnExactLetters", unfollowed := true, recurses := true, apart := false, narrowed := true }
def FnExactLettersUptoSaid : Prop := fnExactLettersUptoRow.holds Try.pinned (OpenSpec.upto fnExactLettersSpec)

/-- 'laws.FnExactSamePuzzle', WHERE WHAT IT READS IS OF BULK AT MOST 1048576: true; the input reads as it did. -/
def fnExactSamePuzzleUptoRow : OpenClaim := { program := "ytfgblelbhlpfjaa", sum := "0c034d4c708c2827a8f81784962704acfcb0fa7bf8591b194bcf5855bed0b99e", func := "loop.example/g00855/laws.FnExactSamePuzzle", spec := "fnExactSamePuzzle", unfollowed := true, recurses := true, apart := false, narrowed := true }
def FnExactSamePuzzleUptoSaid : Prop := fnExactSamePuzzleUptoRow.holds Try.pinned (OpenSpec.upto fnExactSamePuzzleSpec)

/-- 'laws.FnFreeReduction', WHERE WHAT IT READS IS OF BULK AT MOST 1048576: true; the input reads as it did. -/
def fnFreeReductionUptoRow : OpenClaim := { program := "ytfgblelbhlpfjaa", sum := "0c034d4c708c2827a8f81784962704acfcb0fa7bf8591b194bcf5855bed0b99e", func := "loop.example/g00855/laws.FnFreeReduction", spec := "fnFreeReduction", unfollowed := true, recurses := true, apart := false, narrowed := true }
def FnFreeReductionUptoSaid : Prop := fnFreeReductionUptoRow.holds Try.pinned (OpenSpec.upto fnFreeReductionSpec)

/-- 'laws.FnExactIsPattern', WHERE WHAT IT READS IS OF BULK AT MOST 1048576: true; the input reads as it did. -/
def fnExactIsPatternUptoRow : OpenClaim := { program := "ytfgblelbhlpfjaa", sum := "0c034d4c708c2827a8f81784962704acfcb0fa7bf8591b194bcf5855bed0b99e", func := "loop.example/g00855/laws.FnExactIsPattern", spec := "fnExactIsPattern", unfollowed := true, recurses := true, apart := false, narrowed := true }
def FnExactIsPatternUptoSaid : Prop := fnExactIsPatternUptoRow.holds Try.pinned (OpenSpec.upto fnExactIsPatternSpec)

/-- 'laws.FnExactPatternOf', WHERE WHAT IT READS IS OF BULK AT MOST 1048576: true; the input reads as it did. -/
def fnExactPatternOfUptoRow : OpenClaim := { program := "ytfgblelbhlpfjaa", sum := "0c034d4c708c2827a8f81784962704acfcb0fa7bf8591b194bcf5855bed0b99e", func := "loop.example/g00855/laws.FnExactPatternOf", spec := "fnExactPatternOf", unfollowed := true, recurses := true, apart := false, narrowed := true }
def FnExactPatternOfUptoSaid : Prop := fnExactPatternOfUptoRow.holds Try.pinned (OpenSpec.upto fnExactPatternOfSpec)

/-- 'laws.FnExactNeighbors', WHERE WHAT IT READS IS OF BULK AT MOST 1048576: true; the input reads as it did. -/
def fnExactNeighborsUptoRow : OpenClaim := { program := "ytfgblelbhlpfjaa", sum := "0c034d4c708c2827a8f81784962704acfcb0fa7bf8591b194bcf5855bed0b99e", func := "loop.example/g00855/laws.FnExactNeighbors", spec := "fnExactNeighbors", unfollowed := true, recurses := true, apart := false, narrowed := true }
def FnExactNeighborsUptoSaid : Prop := fnExactNeighborsUptoRow.holds Try.pinned (OpenSpec.upto fnExactNeighborsSpec)

/-- 'laws.FnExactApplyWord', WHERE WHAT IT READS IS OF BULK AT MOST 1048576: true; the input reads as it did. -/
def fnExactApplyWordUptoRow : OpenClaim := { program := "ytfgblelbhlpfjaa", sum := "0c034d4c708c2827a8f81784962704acfcb0fa7bf8591b194bcf5855bed0b99e", func := "loop.example/g00855/laws.FnExactApplyWord", spec := "fnExactApplyWord", unfollowed := true, recurses := true, apart := false, narrowed := true }
def FnExactApplyWordUptoSaid : Prop := fnExactApplyWordUptoRow.holds Try.pinned (OpenSpec.upto fnExactApplyWordSpec)

/-- 'laws.FnWordForms', WHERE WHAT IT READS IS OF BULK AT MOST 1048576: true; the input reads as it did. -/
def fnWordFormsUptoRow : OpenClaim := { program := "ytfgblelbhlpfjaa", sum := "0c034d4c708c2827a8f81784962704acfcb0fa7bf8591b194bcf5855bed0b99e", func := "loop.example/g00855/laws.FnWordForms", spec := "fnWordForms", unfollowed := true, recurses := true, apart := false, narrowed := true }
def FnWordFormsUptoSaid : Prop := fnWordFormsUptoRow.holds Try.pinned (OpenSpec.upto fnWordFormsSpec)

/-- 'laws.FnExactIsReachable', WHERE WHAT IT READS IS OF BULK AT MOST 1048576: true; the input reads as it did. -/
def fnExactIsReachableUptoRow : OpenClaim := { program := "ytfgblelbhlpfjaa", sum := "0c034d4c708c2827a8f81784962704acfcb0fa7bf8591b194bcf5855bed0b99e", func := "loop.example/g00855/laws.FnExactIsReachable", spec := "fnExactIsReachable", unfollowed := true, recurses := true, apart := false, narrowed := true }
def FnExactIsReachableUptoSaid : Prop := fnExactIsReachableUptoRow.holds Try.pinned (OpenSpec.upto fnExactIsReachableSpec)

/-- 'laws.FnExactParseNotation', WHERE WHAT IT READS IS OF BULK AT MOST 1048576: true; the input reads as it did. -/
def fnExactParseNotationUptoRow : OpenClaim := { program := "ytfgblelbhlpfjaa", sum := "0c034d4c708c2827a8f81784962704acfcb0fa7bf8591b194bcf5855bed0b99e", func := "loop.example/g00855/laws.FnExactParseNotation", spec := "fnExactParseNotation", inPlace := ["internal/bytealg.IndexByteString"], recurses := true, apart := false, narrowed := true }
def FnExactParseNotationUptoSaid : Prop := fnExactParseNotationUptoRow.holds Try.pinned (OpenSpec.upto fnExactParseNotationSpec)

/-- 'laws.FnWordEvaluation', WHERE WHAT IT READS IS OF BULK AT MOST 1048576: true; the input reads as it did. -/
def fnWordEvaluationUptoRow : OpenClaim := { program := "ytfgblelbhlpfjaa", sum := "0c034d4c708c2827a8f81784962704acfcb0fa7bf8591b194bcf5855bed0b99e", func := "loop.example/g00855/laws.FnWordEvaluation", spec := "fnWordEvaluation", unfollowed := true, recurses := true, apart := false, narrowed := true }
def FnWordEvaluationUptoSaid : Prop := fnWordEvaluationUptoRow.holds Try.pinned (OpenSpec.upto fnWordEvaluationSpec)

end Rows
end Go.Proofs.Ytfgblelbhlpfjaa
