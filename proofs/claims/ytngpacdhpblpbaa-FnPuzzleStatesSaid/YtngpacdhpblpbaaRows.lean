/-
  No cell of these rows narrows 'for every input' (looked for: loops, veiled, ifaces, maps, wideKeys, modest, calm, conditions, laid).
  DERIVED. THE GIVEN ROWS OF THIS SEAT. 6 by the template 'for every input the law returns true; each argument reads behind the call as it read before'; 0 by the template 'total and deterministic' (their statements: YtngpacdhpblpbaaTotals.lean).
  GIVEN WITH THE SEED: the statements are not yours to turn. If you find one false, say at which input.
  Laid BY PROGRAM, IN A SANDBOX (cutbox-rows.mjs): the forced cells as the released guide's own fill.sh prints them over the translation 2239b628e3c216e3… (all of the seat's roots in one cut). By AI agents, Wed Nov 11 2026. No macro, syntax, notation, axiom, sorry.
-/
import Derived.Test.YtngpacdhpblpbaaChecked
import GoSem.Claim
import GoSem.ClaimJoined
import GoSem.ClaimMapViews
import Derived.JoinedTies
import Derived.KernelRfl
namespace Go.Proofs.Ytngpacdhpblpbaa
/- THE CELL 'sum', in the pinned program and in every row, IS THE sha256 OF THE DUMP (.gsa) THAT YtngpacdhpblpbaaProg.lean LOADS. Nothing in Lean hashes anything: it is a label: what it is worth is what the hold of that sum in a sandbox is worth. -/
noncomputable def Try.pinned : Pinned := { name := "ytngpacdhpblpbaa", sum := "2239b628e3c216e3544d12871a6129ee1bd254b21e9ccda5760457dfed418a78", checked := Try.checked }
namespace Rows
def none {H : Type} : Left H := { results := [], args := [] }

/-- 'laws.FnPuzzleStates': WHATEVER THE INPUT: true; the input reads as it did. -/
def fnPuzzleStatesSpec : ChangeSpec := { name := "fnPuzzleStates", fn := fun _ => fun
  | [d] => { results := [.lit (.bool true)], args := [d] }
  | _ => none }
def fnPuzzleStatesRow : OpenClaim := { program := "ytngpacdhpblpbaa", sum := "2239b628e3c216e3544d12871a6129ee1bd254b21e9ccda5760457dfed418a78", func := "loop.example/g00855/laws.FnPuzzleStates", spec := "fnPuzzleStates", unfollowed := true, recurses := true, apart := false }
def FnPuzzleStatesSaid : Prop := fnPuzzleStatesRow.holds Try.pinned (OpenSpec.ofChange fnPuzzleStatesSpec)

/-- ITS FALSE NEIGHBOUR: 'it returns false'. Refute it at one input. -/
def fnPuzzleStatesWrong : ChangeSpec := { name := "fnPuzzleStates", fn := fun _ => fun
  | [d] => { results := [.lit (.bool false)], args := [d] }
  | _ => none }
def FnPuzzleStatesWrongFalsely : Prop := fnPuzzleStatesRow.holds Try.pinned (OpenSpec.ofChange fnPuzzleStatesWrong)

/-- 'laws.FnPairOrbits': WHATEVER THE INPUT: true; the input reads as it did. -/
def fnPairOrbitsSpec : ChangeSpec := { name := "fnPairOrbits", fn := fun _ => fun
  | [d] => { results := [.lit (.bool true)], args := [d] }
  | _ => none }
def fnPairOrbitsRow : OpenClaim := { program := "ytngpacdhpblpbaa", sum := "2239b628e3c216e3544d12871a6129ee1bd254b21e9ccda5760457dfed418a78", func := "loop.example/g00855/laws.FnPairOrbits", spec := "fnPairOrbits", unfollowed := true, recurses := true, apart := false }
def FnPairOrbitsSaid : Prop := fnPairOrbitsRow.holds Try.pinned (OpenSpec.ofChange fnPairOrbitsSpec)

/-- ITS FALSE NEIGHBOUR: 'it returns false'. Refute it at one input. -/
def fnPairOrbitsWrong : ChangeSpec := { name := "fnPairOrbits", fn := fun _ => fun
  | [d] => { results := [.lit (.bool false)], args := [d] }
  | _ => none }
def FnPairOrbitsWrongFalsely : Prop := fnPairOrbitsRow.holds Try.pinned (OpenSpec.ofChange fnPairOrbitsWrong)

/-- 'laws.FnBlockSystems': WHATEVER THE INPUT: true; the input reads as it did. -/
def fnBlockSystemsSpec : ChangeSpec := { name := "fnBlockSystems", fn := fun _ => fun
  | [d] => { results := [.lit (.bool true)], args := [d] }
  | _ => none }
def fnBlockSystemsRow : OpenClaim := { program := "ytngpacdhpblpbaa", sum := "2239b628e3c216e3544d12871a6129ee1bd254b21e9ccda5760457dfed418a78", func := "loop.example/g00855/laws.FnBlockSystems", spec := "fnBlockSystems", unfollowed := true, recurses := true, apart := false }
def FnBlockSystemsSaid : Prop := fnBlockSystemsRow.holds Try.pinned (OpenSpec.ofChange fnBlockSystemsSpec)

/-- ITS FALSE NEIGHBOUR: 'it returns false'. Refute it at one input. -/
def fnBlockSystemsWrong : ChangeSpec := { name := "fnBlockSystems", fn := fun _ => fun
  | [d] => { results := [.lit (.bool false)], args := [d] }
  | _ => none }
def FnBlockSystemsWrongFalsely : Prop := fnBlockSystemsRow.holds Try.pinned (OpenSpec.ofChange fnBlockSystemsWrong)

/-- 'laws.FnPrimitivity': WHATEVER THE INPUT: true; the input reads as it did. -/
def fnPrimitivitySpec : ChangeSpec := { name := "fnPrimitivity", fn := fun _ => fun
  | [d] => { results := [.lit (.bool true)], args := [d] }
  | _ => none }
def fnPrimitivityRow : OpenClaim := { program := "ytngpacdhpblpbaa", sum := "2239b628e3c216e3544d12871a6129ee1bd254b21e9ccda5760457dfed418a78", func := "loop.example/g00855/laws.FnPrimitivity", spec := "fnPrimitivity", unfollowed := true, recurses := true, apart := false }
def FnPrimitivitySaid : Prop := fnPrimitivityRow.holds Try.pinned (OpenSpec.ofChange fnPrimitivitySpec)

/-- ITS FALSE NEIGHBOUR: 'it returns false'. Refute it at one input. -/
def fnPrimitivityWrong : ChangeSpec := { name := "fnPrimitivity", fn := fun _ => fun
  | [d] => { results := [.lit (.bool false)], args := [d] }
  | _ => none }
def FnPrimitivityWrongFalsely : Prop := fnPrimitivityRow.holds Try.pinned (OpenSpec.ofChange fnPrimitivityWrong)

/-- 'laws.FnBlockOrders': WHATEVER THE INPUT: true; the input reads as it did. -/
def fnBlockOrdersSpec : ChangeSpec := { name := "fnBlockOrders", fn := fun _ => fun
  | [d] => { results := [.lit (.bool true)], args := [d] }
  | _ => none }
def fnBlockOrdersRow : OpenClaim := { program := "ytngpacdhpblpbaa", sum := "2239b628e3c216e3544d12871a6129ee1bd254b21e9ccda5760457dfed418a78", func := "loop.example/g00855/laws.FnBlockOrders", spec := "fnBlockOrders", unfollowed := true, recurses := true, apart := false }
def FnBlockOrdersSaid : Prop := fnBlockOrdersRow.holds Try.pinned (OpenSpec.ofChange fnBlockOrdersSpec)

/-- ITS FALSE NEIGHBOUR: 'it returns false'. Refute it at one input. -/
def fnBlockOrdersWrong : ChangeSpec := { name := "fnBlockOrders", fn := fun _ => fun
  | [d] => { results := [.lit (.bool false)], args := [d] }
  | _ => none }
def FnBlockOrdersWrongFalsely : Prop := fnBlockOrdersRow.holds Try.pinned (OpenSpec.ofChange fnBlockOrdersWrong)

/-- 'laws.FnConjugacy': WHATEVER THE INPUT: true; the input reads as it did. -/
def fnConjugacySpec : ChangeSpec := { name := "fnConjugacy", fn := fun _ => fun
  | [d] => { results := [.lit (.bool true)], args := [d] }
  | _ => none }
def fnConjugacyRow : OpenClaim := { program := "ytngpacdhpblpbaa", sum := "2239b628e3c216e3544d12871a6129ee1bd254b21e9ccda5760457dfed418a78", func := "loop.example/g00855/laws.FnConjugacy", spec := "fnConjugacy", recurses := true, apart := false }
def FnConjugacySaid : Prop := fnConjugacyRow.holds Try.pinned (OpenSpec.ofChange fnConjugacySpec)

/-- ITS FALSE NEIGHBOUR: 'it returns false'. Refute it at one input. -/
def fnConjugacyWrong : ChangeSpec := { name := "fnConjugacy", fn := fun _ => fun
  | [d] => { results := [.lit (.bool false)], args := [d] }
  | _ => none }
def FnConjugacyWrongFalsely : Prop := fnConjugacyRow.holds Try.pinned (OpenSpec.ofChange fnConjugacyWrong)

/- THE SECOND FORM. 'bulk': how many values and letters a reading holds, each counted each time it is reached (what is shared counts as often as it is met; a slice's spare places count too). A statement '..UptoSaid' is the law's where the arguments, and the package variables that the reading takes, are together of bulk at most 1048576: NARROWER than '..Said'. Prove '..Said' where nothing that the law and all that it calls make is longer than what came in: it says more and counts as full. Else prove '..UptoSaid'. A law counts once. -/
mutual
def uptoBulk {H : Type} : DataW H → Nat
  | .lit (.string bytes) => bytes.length + 1
  | .lit _ => 1
  | .nil => 1
  | .ptr d => uptoBulk d + 1
  | .slice elems spare => uptoBulkAll elems + uptoBulkAll spare + 1
  | .agg parts => uptoBulkAll parts + 1
  | .iface _ d => uptoBulk d + 1
  | .map entries => uptoBulkEntries entries + 1
  | .held _ => 1
def uptoBulkAll {H : Type} : List (DataW H) → Nat
  | [] => 0
  | d :: r => uptoBulk d + uptoBulkAll r
def uptoBulkEntries {H : Type} : List (Lit × DataW H) → Nat
  | [] => 0
  | x :: r => uptoBulkEntry x + uptoBulkEntries r
def uptoBulkEntry {H : Type} : Lit × DataW H → Nat
  | (.string bytes, d) => bytes.length + uptoBulk d + 1
  | (_, d) => uptoBulk d + 1
 end
def uptoSmall : (H : Type) → List (DataW H) → Bool := fun _ ds => decide (uptoBulkAll ds ≤ 1048576)
def OpenSpec.upto (s : _root_.Go.ChangeSpec) : _root_.Go.OpenSpec := { _root_.Go.OpenSpec.ofChange s with cond := some uptoSmall }

/-- 'laws.FnPuzzleStates', WHERE WHAT IT READS IS OF BULK AT MOST 1048576: true; the input reads as it did. -/
def fnPuzzleStatesUptoRow : OpenClaim := { program := "ytngpacdhpblpbaa", sum := "2239b628e3c216e3544d12871a6129ee1bd254b21e9ccda5760457dfed418a78", func := "loop.example/g00855/laws.FnPuzzleStates", spec := "fnPuzzleStates", unfollowed := true, recurses := true, apart := false, narrowed := true }
def FnPuzzleStatesUptoSaid : Prop := fnPuzzleStatesUptoRow.holds Try.pinned (OpenSpec.upto fnPuzzleStatesSpec)

/-- 'laws.FnPairOrbits', WHERE WHAT IT READS IS OF BULK AT MOST 1048576: true; the input reads as it did. -/
def fnPairOrbitsUptoRow : OpenClaim := { program := "ytngpacdhpblpbaa", sum := "2239b628e3c216e3544d12871a6129ee1bd254b21e9ccda5760457dfed418a78", func := "loop.example/g00855/laws.FnPairOrbits", spec := "fnPairOrbits", unfollowed := true, recurses := true, apart := false, narrowed := true }
def FnPairOrbitsUptoSaid : Prop := fnPairOrbitsUptoRow.holds Try.pinned (OpenSpec.upto fnPairOrbitsSpec)

/-- 'laws.FnBlockSystems', WHERE WHAT IT READS IS OF BULK AT MOST 1048576: true; the input reads as it did. -/
def fnBlockSystemsUptoRow : OpenClaim := { program := "ytngpacdhpblpbaa", sum := "2239b628e3c216e3544d12871a6129ee1bd254b21e9ccda5760457dfed418a78", func := "loop.example/g00855/laws.FnBlockSystems", spec := "fnBlockSystems", unfollowed := true, recurses := true, apart := false, narrowed := true }
def FnBlockSystemsUptoSaid : Prop := fnBlockSystemsUptoRow.holds Try.pinned (OpenSpec.upto fnBlockSystemsSpec)

/-- 'laws.FnPrimitivity', WHERE WHAT IT READS IS OF BULK AT MOST 1048576: true; the input reads as it did. -/
def fnPrimitivityUptoRow : OpenClaim := { program := "ytngpacdhpblpbaa", sum := "2239b628e3c216e3544d12871a6129ee1bd254b21e9ccda5760457dfed418a78", func := "loop.example/g00855/laws.FnPrimitivity", spec := "fnPrimitivity", unfollowed := true, recurses := true, apart := false, narrowed := true }
def FnPrimitivityUptoSaid : Prop := fnPrimitivityUptoRow.holds Try.pinned (OpenSpec.upto fnPrimitivitySpec)

/-- 'laws.FnBlockOrders', WHERE WHAT IT READS IS OF BULK AT MOST 1048576: true; the input reads as it did. -/
def fnBlockOrdersUptoRow : OpenClaim := { program := "ytngpacdhpblpbaa", sum := "2239b628e3c216e3544d12871a6129ee1bd254b21e9ccda5760457dfed418a78", func := "loop.example/g00855/laws.FnBlockOrders", spec := "fnBlockOrders", unfollowed := true, recurses := true, apart := false, narrowed := true }
def FnBlockOrdersUptoSaid : Prop := fnBlockOrdersUptoRow.holds Try.pinned (OpenSpec.upto fnBlockOrdersSpec)

/-- 'laws.FnConjugacy', WHERE WHAT IT READS IS OF BULK AT MOST 1048576: true; the input reads as it did. -/
def fnConjugacyUptoRow : OpenClaim := { program := "ytngpacdhpblpbaa", sum := "2239b628e3c216e3544d12871a6129ee1bd254b21e9ccda5760457dfed418a78", func := "loop.example/g00855/laws.FnConjugacy", spec := "fnConjugacy", recurses := true, apart := false, narrowed := true }
def FnConjugacyUptoSaid : Prop := fnConjugacyUptoRow.holds Try.pinned (OpenSpec.upto fnConjugacySpec)

end Rows
end Go.Proofs.Ytngpacdhpblpbaa
