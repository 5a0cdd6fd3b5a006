/-
  No cell of these rows narrows 'for every input' (looked for: loops, veiled, ifaces, maps, wideKeys, modest, calm, conditions, laid).
  DERIVED. THE GIVEN ROWS OF THIS SEAT. 5 by the template 'for every input the law returns true; each argument reads behind the call as it read before'; 0 by the template 'total and deterministic' (their statements: YtiihgbobdipikaaTotals.lean).
  GIVEN WITH THE SEED: the statements are not yours to turn. If you find one false, say at which input.
  Laid BY PROGRAM, IN A SANDBOX (cutbox-rows.mjs): the forced cells as the released guide's own fill.sh prints them over the translation b41090e3c5512d26… (all of the seat's roots in one cut). By AI agents, Wed Nov 11 2026. No macro, syntax, notation, axiom, sorry.
-/
import Derived.Test.YtiihgbobdipikaaChecked
import GoSem.Claim
import GoSem.ClaimJoined
import GoSem.ClaimMapViews
import Derived.JoinedTies
import Derived.KernelRfl
namespace Go.Proofs.Ytiihgbobdipikaa
/- THE CELL 'sum', in the pinned program and in every row, IS THE sha256 OF THE DUMP (.gsa) THAT YtiihgbobdipikaaProg.lean LOADS. Nothing in Lean hashes anything: it is a label: what it is worth is what the hold of that sum in a sandbox is worth. -/
noncomputable def Try.pinned : Pinned := { name := "ytiihgbobdipikaa", sum := "b41090e3c5512d26e3f387472adbe8e56632af49d3168543de1859ef054438a4", checked := Try.checked }
namespace Rows
def none {H : Type} : Left H := { results := [], args := [] }

/-- 'laws.FnDistances': WHATEVER THE INPUT: true; the input reads as it did. -/
def fnDistancesSpec : ChangeSpec := { name := "fnDistances", fn := fun _ => fun
  | [d] => { results := [.lit (.bool true)], args := [d] }
  | _ => none }
def fnDistancesRow : OpenClaim := { program := "ytiihgbobdipikaa", sum := "b41090e3c5512d26e3f387472adbe8e56632af49d3168543de1859ef054438a4", func := "loop.example/g00855/laws.FnDistances", spec := "fnDistances", unfollowed := true, recurses := true, apart := false }
def FnDistancesSaid : Prop := fnDistancesRow.holds Try.pinned (OpenSpec.ofChange fnDistancesSpec)

/-- ITS FALSE NEIGHBOUR: 'it returns false'. Refute it at one input. -/
def fnDistancesWrong : ChangeSpec := { name := "fnDistances", fn := fun _ => fun
  | [d] => { results := [.lit (.bool false)], args := [d] }
  | _ => none }
def FnDistancesWrongFalsely : Prop := fnDistancesRow.holds Try.pinned (OpenSpec.ofChange fnDistancesWrong)

/-- 'laws.FnOptimalWord': WHATEVER THE INPUT: true; the input reads as it did. -/
def fnOptimalWordSpec : ChangeSpec := { name := "fnOptimalWord", fn := fun _ => fun
  | [d] => { results := [.lit (.bool true)], args := [d] }
  | _ => none }
def fnOptimalWordRow : OpenClaim := { program := "ytiihgbobdipikaa", sum := "b41090e3c5512d26e3f387472adbe8e56632af49d3168543de1859ef054438a4", func := "loop.example/g00855/laws.FnOptimalWord", spec := "fnOptimalWord", unfollowed := true, recurses := true, apart := false }
def FnOptimalWordSaid : Prop := fnOptimalWordRow.holds Try.pinned (OpenSpec.ofChange fnOptimalWordSpec)

/-- ITS FALSE NEIGHBOUR: 'it returns false'. Refute it at one input. -/
def fnOptimalWordWrong : ChangeSpec := { name := "fnOptimalWord", fn := fun _ => fun
  | [d] => { results := [.lit (.bool false)], args := [d] }
  | _ => none }
def FnOptimalWordWrongFalsely : Prop := fnOptimalWordRow.holds Try.pinned (OpenSpec.ofChange fnOptimalWordWrong)

/-- 'laws.FnBreadthFirst': WHATEVER THE INPUT: true; the input reads as it did. -/
def fnBreadthFirstSpec : ChangeSpec := { name := "fnBreadthFirst", fn := fun _ => fun
  | [d] => { results := [.lit (.bool true)], args := [d] }
  | _ => none }
def fnBreadthFirstRow : OpenClaim := { program := "ytiihgbobdipikaa", sum := "b41090e3c5512d26e3f387472adbe8e56632af49d3168543de1859ef054438a4", func := "loop.example/g00855/laws.FnBreadthFirst", spec := "fnBreadthFirst", unfollowed := true, recurses := true, apart := false }
def FnBreadthFirstSaid : Prop := fnBreadthFirstRow.holds Try.pinned (OpenSpec.ofChange fnBreadthFirstSpec)

/-- ITS FALSE NEIGHBOUR: 'it returns false'. Refute it at one input. -/
def fnBreadthFirstWrong : ChangeSpec := { name := "fnBreadthFirst", fn := fun _ => fun
  | [d] => { results := [.lit (.bool false)], args := [d] }
  | _ => none }
def FnBreadthFirstWrongFalsely : Prop := fnBreadthFirstRow.holds Try.pinned (OpenSpec.ofChange fnBreadthFirstWrong)

/-- 'laws.FnDepthHistogram': WHATEVER THE INPUT: true; the input reads as it did. -/
def fnDepthHistogramSpec : ChangeSpec := { name := "fnDepthHistogram", fn := fun _ => fun
  | [d] => { results := [.lit (.bool true)], args := [d] }
  | _ => none }
def fnDepthHistogramRow : OpenClaim := { program := "ytiihgbobdipikaa", sum := "b41090e3c5512d26e3f387472adbe8e56632af49d3168543de1859ef054438a4", func := "loop.example/g00855/laws.FnDepthHistogram", spec := "fnDepthHistogram", unfollowed := true, recurses := true, apart := false }
def FnDepthHistogramSaid : Prop := fnDepthHistogramRow.holds Try.pinned (OpenSpec.ofChange fnDepthHistogramSpec)

/-- ITS FALSE NEIGHBOUR: 'it returns false'. Refute it at one input. -/
def fnDepthHistogramWrong : ChangeSpec := { name := "fnDepthHistogram", fn := fun _ => fun
  | [d] => { results := [.lit (.bool false)], args := [d] }
  | _ => none }
def FnDepthHistogramWrongFalsely : Prop := fnDepthHistogramRow.holds Try.pinned (OpenSpec.ofChange fnDepthHistogramWrong)

/-- 'laws.FnPuzzleStates': WHATEVER THE INPUT: true; the input reads as it did. -/
def fnPuzzleStatesSpec : ChangeSpec := { name := "fnPuzzleStates", fn := fun _ => fun
  | [d] => { results := [.lit (.bool true)], args := [d] }
  | _ => none }
def fnPuzzleStatesRow : OpenClaim := { program := "ytiihgbobdipikaa", sum := "b41090e3c5512d26e3f387472adbe8e56632af49d3168543de1859ef054438a4", func := "loop.example/g00855/laws.FnPuzzleStates", spec := "fnPuzzleStates", unfollowed := true, recurses := true, apart := false }
def FnPuzzleStatesSaid : Prop := fnPuzzleStatesRow.holds Try.pinned (OpenSpec.ofChange fnPuzzleStatesSpec)

/-- ITS FALSE NEIGHBOUR: 'it returns false'. Refute it at one input. -/
def fnPuzzleStatesWrong : ChangeSpec := { name := "fnPuzzleStates", fn := fun _ => fun
  | [d] => { results := [.lit (.bool false)], args := [d] }
  | _ => none }
def FnPuzzleStatesWrongFalsely : Prop := fnPuzzleStatesRow.holds Try.pinned (OpenSpec.ofChange fnPuzzleStatesWrong)

/- THE SECOND FORM. 'bulk': how many values and letters a reading holds, each counted each time it is reached (what is shared counts as often as it is met; a slice's spare places count too). A statement '..UptoSaid' is the law's where the arguments, and the package variables that the reading takes, are together of bulk at most 1048576: NARROWER than '..Said'. Prove '..Said' where nothing that the law and all that it calls make is longer than what came in: it says more and counts as full. Else prove '..UptoSaid'. A law counts once. -/
mutual
def uptoBulk {H : Type} : DataW H → Nat
  | .lit (.string bytes) => bytes.length + 1
  | .lit _ => 1
  | .nil => 1
  | .ptr d => uptoBulk d + 1
  | .slice elems spare => uptoBulkAll elems + uptoBulkAll spare + 1
  | .agg parts => uptoBulkAll parts + 1
  | .iface _ d => uptoBulk d + 1
  | .map entries => uptoBulkEntries entries + 1
  | .held _ => 1
def uptoBulkAll {H : Type} : List (DataW H) → Nat
  | [] => 0
  | d :: r => uptoBulk d + uptoBulkAll r
def uptoBulkEntries {H : Type} : List (Lit × DataW H) → Nat
  | [] => 0
  | x :: r => uptoBulkEntry x + uptoBulkEntries r
def uptoBulkEntry {H : Type} : Lit × DataW H → Nat
  | (.string bytes, d) => bytes.length + uptoBulk d + 1
  | (_, d) => uptoBulk d + 1
 end
def uptoSmall : (H : Type) → List (DataW H) → Bool := fun _ ds => decide (uptoBulkAll ds ≤ 1048576)
def OpenSpec.upto (s : _root_.Go.ChangeSpec) : _root_.Go.OpenSpec := { _root_.Go.OpenSpec.ofChange s with cond := some uptoSmall }

/-- 'laws.FnDistances', WHERE WHAT IT READS IS OF BULK AT MOST 1048576: true; the input reads as it did. -/
def fnDistancesUptoRow : OpenClaim := { program := "ytiihgbobdipikaa", sum := "b41090e3c5512d26e3f387472adbe8e56632af49d3168543de1859ef054438a4", func := "loop.example/g00855/laws.FnDistances", spec := "fnDistances", unfollowed := true, recurses := true, apart := false, narrowed := true }
def FnDistancesUptoSaid : Prop := fnDistancesUptoRow.holds Try.pinned (OpenSpec.upto fnDistancesSpec)

/-- 'laws.FnOptimalWord', WHERE WHAT IT READS IS OF BULK AT MOST 1048576: true; the input reads as it did. -/
def fnOptimalWordUptoRow : OpenClaim := { program := "ytiihgbobdipikaa", sum := "b41090e3c5512d26e3f387472adbe8e56632af49d3168543de1859ef054438a4", func := "loop.example/g00855/laws.FnOptimalWord", spec := "fnOptimalWord", unfollowed := true, recurses := true, apart := false, narrowed := true }
def FnOptimalWordUptoSaid : Prop := fnOptimalWordUptoRow.holds Try.pinned (OpenSpec.upto fnOptimalWordSpec)

/-- 'laws.FnBreadthFirst', WHERE WHAT IT READS IS OF BULK AT MOST 1048576: true; the input reads as it did. -/
def fnBreadthFirstUptoRow : OpenClaim := { program := "ytiihgbobdipikaa", sum := "b41090e3c5512d26e3f387472adbe8e56632af49d3168543de1859ef054438a4", func := "loop.example/g00855/laws.FnBreadthFirst", spec := "fnBreadthFirst", unfollowed := true, recurses := true, apart := false, narrowed := true }
def FnBreadthFirstUptoSaid : Prop := fnBreadthFirstUptoRow.holds Try.pinned (OpenSpec.upto fnBreadthFirstSpec)

/-- 'laws.FnDepthHistogram', WHERE WHAT IT READS IS OF BULK AT MOST 1048576: true; the input reads as it did. -/
def fnDepthHistogramUptoRow : OpenClaim := { program := "ytiihgbobdipikaa", sum := "b41090e3c5512d26e3f387472adbe8e56632af49d3168543de1859ef054438a4", func := "loop.example/g00855/laws.FnDepthHistogram", spec := "fnDepthHistogram", unfollowed := true, recurses := true, apart := false, narrowed := true }
def FnDepthHistogramUptoSaid : Prop := fnDepthHistogramUptoRow.holds Try.pinned (OpenSpec.upto fnDepthHistogramSpec)

/-- 'laws.FnPuzzleStates', WHERE WHAT IT READS IS OF BULK AT MOST 1048576: true; the input reads as it did. -/
def fnPuzzleStatesUptoRow : OpenClaim := { program := "ytiihgbobdipikaa", sum := "b41090e3c5512d26e3f387472adbe8e56632af49d3168543de1859ef054438a4", func := "loop.example/g00855/laws.FnPuzzleStates", spec := "fnPuzzleStates", unfollowed := true, recurses := true, apart := false, narrowed := true }
def FnPuzzleStatesUptoSaid : Prop := fnPuzzleStatesUptoRow.holds Try.pinned (OpenSpec.upto fnPuzzleStatesSpec)

end Rows
end Go.Proofs.Ytiihgbobdipikaa
