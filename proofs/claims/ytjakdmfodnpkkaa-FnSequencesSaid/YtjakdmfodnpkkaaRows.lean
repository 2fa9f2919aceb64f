/-
  No cell of these rows narrows 'for every input' (looked for: loops, veiled, ifaces, maps, wideKeys, modest, calm, conditions, laid).
  DERIVED. THE GIVEN ROWS OF THIS SEAT. 11 by the template 'for every input the law returns true; each argument reads behind the call as it read before'; 0 by the template 'total and deterministic' (their statements: YtjakdmfodnpkkaaTotals.lean).
  GIVEN WITH THE SEED: the statements are not yours to turn. If you find one false, say at which input.
  Laid BY PROGRAM, IN A SANDBOX (cutbox-rows.mjs): the forced cells as the released guide's own fill.sh prints them over the translation c5eb6bea133e1b0c… (all of the seat's roots in one cut). By AI agents, Wed Nov 11 2026. No macro, syntax, notation, axiom, sorry.
-/
import Derived.Test.YtjakdmfodnpkkaaChecked
import GoSem.Claim
import GoSem.ClaimJoined
import GoSem.ClaimMapViews
import Derived.JoinedTies
import Derived.KernelRfl
namespace Go.Proofs.Ytjakdmfodnpkkaa
/- THE CELL 'sum', in the pinned program and in every row, IS THE sha256 OF THE DUMP (.gsa) THAT YtjakdmfodnpkkaaProg.lean LOADS. Nothing in Lean hashes anything: it is a label: what it is worth is what the hold of that sum in a sandbox is worth. -/
noncomputable def Try.pinned : Pinned := { name := "ytjakdmfodnpkkaa", sum := "c5eb6bea133e1b0c3ff224a63b2808025ef7a590f524215e5ab01f34d19cfe09", checked := Try.checked }
namespace Rows
def none {H : Type} : Left H := { results := [], args := [] }

/-- 'laws.FnExactAdjacentAngle': WHATEVER THE INPUT: true; the input reads as it did. -/
def fnExactAdjacentAngleSpec : ChangeSpec := { name := "fnExactAdjacentAngle", fn := fun _ => fun
  | [d1, d2] => { results := [.lit (.bool true)], args := [d1, d2] }
  | _ => none }
def fnExactAdjacentAngleRow : OpenClaim := { program := "ytjakdmfodnpkkaa", sum := "c5eb6bea133e1b0c3ff224a63b2808025ef7a590f524215e5ab01f34d19cfe09", func := "loop.example/g01297/laws.FnExactAdjacentAngle", spec := "fnExactAdjacentAngle", unfollowed := true, recurses := true, apart := false }
def FnExactAdjacentAngleSaid : Prop := fnExactAdjacentAngleRow.holds Try.pinned (OpenSpec.ofChange fnExactAdjacentAngleSpec)

/-- ITS FALSE NEIGHBOUR: 'it returns false'. Refute it at one input. -/
def fnExactAdjacentAngleWrong : ChangeSpec := { name := "fnExactAdjacentAngle", fn := fun _ => fun
  | [d1, d2] => { results := [.lit (.bool false)], args := [d1, d2] }
  | _ => none }
def FnExactAdjacentAngleWrongFalsely : Prop := fnExactAdjacentAngleRow.holds Try.pinned (OpenSpec.ofChange fnExactAdjacentAngleWrong)

/-- 'laws.FnExactAngleOfSequence': WHATEVER THE INPUT: true; the input reads as it did. -/
def fnExactAngleOfSequenceSpec : ChangeSpec := { name := "fnExactAngleOfSequence", fn := fun _ => fun
  | [d] => { results := [.lit (.bool true)], args := [d] }
  | _ => none }
def fnExactAngleOfSequenceRow : OpenClaim := { program := "ytjakdmfodnpkkaa", sum := "c5eb6bea133e1b0c3ff224a63b2808025ef7a590f524215e5ab01f34d19cfe09", func := "loop.example/g01297/laws.FnExactAngleOfSequence", spec := "fnExactAngleOfSequence", unfollowed := true, recurses := true, apart := false }
def FnExactAngleOfSequenceSaid : Prop := fnExactAngleOfSequenceRow.holds Try.pinned (OpenSpec.ofChange fnExactAngleOfSequenceSpec)

/-- ITS FALSE NEIGHBOUR: 'it returns false'. Refute it at one input. -/
def fnExactAngleOfSequenceWrong : ChangeSpec := { name := "fnExactAngleOfSequence", fn := fun _ => fun
  | [d] => { results := [.lit (.bool false)], args := [d] }
  | _ => none }
def FnExactAngleOfSequenceWrongFalsely : Prop := fnExactAngleOfSequenceRow.holds Try.pinned (OpenSpec.ofChange fnExactAngleOfSequenceWrong)

/-- 'laws.FnExactAreaBelow': WHATEVER THE INPUT: true; the input reads as it did. -/
def fnExactAreaBelowSpec : ChangeSpec := { name := "fnExactAreaBelow", fn := fun _ => fun
  | [d1, d2] => { results := [.lit (.bool true)], args := [d1, d2] }
  | _ => none }
def fnExactAreaBelowRow : OpenClaim := { program := "ytjakdmfodnpkkaa", sum := "c5eb6bea133e1b0c3ff224a63b2808025ef7a590f524215e5ab01f34d19cfe09", func := "loop.example/g01297/laws.FnExactAreaBelow", spec := "fnExactAreaBelow", unfollowed := true, recurses := true, apart := false }
def FnExactAreaBelowSaid : Prop := fnExactAreaBelowRow.holds Try.pinned (OpenSpec.ofChange fnExactAreaBelowSpec)

/-- ITS FALSE NEIGHBOUR: 'it returns false'. Refute it at one input. -/
def fnExactAreaBelowWrong : ChangeSpec := { name := "fnExactAreaBelow", fn := fun _ => fun
  | [d1, d2] => { results := [.lit (.bool false)], args := [d1, d2] }
  | _ => none }
def FnExactAreaBelowWrongFalsely : Prop := fnExactAreaBelowRow.holds Try.pinned (OpenSpec.ofChange fnExactAreaBelowWrong)

/-- 'laws.FnExactPlaceOnSail': WHATEVER THE INPUT: true; the input reads as it did. -/
def fnExactPlaceOnSailSpec : ChangeSpec := { name := "fnExactPlaceOnSail", fn := fun _ => fun
  | [d1, d2, d3] => { results := [.lit (.bool true)], args := [d1, d2, d3] }
  | _ => none }
def fnExactPlaceOnSailRow : OpenClaim := { program := "ytjakdmfodnpkkaa", sum := "c5eb6bea133e1b0c3ff224a63b2808025ef7a590f524215e5ab01f34d19cfe09", func := "loop.example/g01297/laws.FnExactPlaceOnSail", spec := "fnExactPlaceOnSail", unfollowed := true, recurses := true, apart := false }
def FnExactPlaceOnSailSaid : Prop := fnExactPlaceOnSailRow.holds Try.pinned (OpenSpec.ofChange fnExactPlaceOnSailSpec)

/-- ITS FALSE NEIGHBOUR: 'it returns false'. Refute it at one input. -/
def fnExactPlaceOnSailWrong : ChangeSpec := { name := "fnExactPlaceOnSail", fn := fun _ => fun
  | [d1, d2, d3] => { results := [.lit (.bool false)], args := [d1, d2, d3] }
  | _ => none }
def FnExactPlaceOnSailWrongFalsely : Prop := fnExactPlaceOnSailRow.holds Try.pinned (OpenSpec.ofChange fnExactPlaceOnSailWrong)

/-- 'laws.FnExactSailPoints': WHATEVER THE INPUT: true; the input reads as it did. -/
def fnExactSailPointsSpec : ChangeSpec := { name := "fnExactSailPoints", fn := fun _ => fun
  | [d1, d2] => { results := [.lit (.bool true)], args := [d1, d2] }
  | _ => none }
def fnExactSailPointsRow : OpenClaim := { program := "ytjakdmfodnpkkaa", sum := "c5eb6bea133e1b0c3ff224a63b2808025ef7a590f524215e5ab01f34d19cfe09", func := "loop.example/g01297/laws.FnExactSailPoints", spec := "fnExactSailPoints", unfollowed := true, recurses := true, apart := false }
def FnExactSailPointsSaid : Prop := fnExactSailPointsRow.holds Try.pinned (OpenSpec.ofChange fnExactSailPointsSpec)

/-- ITS FALSE NEIGHBOUR: 'it returns false'. Refute it at one input. -/
def fnExactSailPointsWrong : ChangeSpec := { name := "fnExactSailPoints", fn := fun _ => fun
  | [d1, d2] => { results := [.lit (.bool false)], args := [d1, d2] }
  | _ => none }
def FnExactSailPointsWrongFalsely : Prop := fnExactSailPointsRow.holds Try.pinned (OpenSpec.ofChange fnExactSailPointsWrong)

/-- 'laws.FnExactSplitPoint': WHATEVER THE INPUT: true; the input reads as it did. -/
def fnExactSplitPointSpec : ChangeSpec := { name := "fnExactSplitPoint", fn := fun _ => fun
  | [d1, d2, d3] => { results := [.lit (.bool true)], args := [d1, d2, d3] }
  | _ => none }
def fnExactSplitPointRow : OpenClaim := { program := "ytjakdmfodnpkkaa", sum := "c5eb6bea133e1b0c3ff224a63b2808025ef7a590f524215e5ab01f34d19cfe09", func := "loop.example/g01297/laws.FnExactSplitPoint", spec := "fnExactSplitPoint", unfollowed := true, recurses := true, apart := false }
def FnExactSplitPointSaid : Prop := fnExactSplitPointRow.holds Try.pinned (OpenSpec.ofChange fnExactSplitPointSpec)

/-- ITS FALSE NEIGHBOUR: 'it returns false'. Refute it at one input. -/
def fnExactSplitPointWrong : ChangeSpec := { name := "fnExactSplitPoint", fn := fun _ => fun
  | [d1, d2, d3] => { results := [.lit (.bool false)], args := [d1, d2, d3] }
  | _ => none }
def FnExactSplitPointWrongFalsely : Prop := fnExactSplitPointRow.holds Try.pinned (OpenSpec.ofChange fnExactSplitPointWrong)

/-- 'laws.FnExactSailVertices': WHATEVER THE INPUT: true; the input reads as it did. -/
def fnExactSailVerticesSpec : ChangeSpec := { name := "fnExactSailVertices", fn := fun _ => fun
  | [d1, d2] => { results := [.lit (.bool true)], args := [d1, d2] }
  | _ => none }
def fnExactSailVerticesRow : OpenClaim := { program := "ytjakdmfodnpkkaa", sum := "c5eb6bea133e1b0c3ff224a63b2808025ef7a590f524215e5ab01f34d19cfe09", func := "loop.example/g01297/laws.FnExactSailVertices", spec := "fnExactSailVertices", unfollowed := true, recurses := true, apart := false }
def FnExactSailVerticesSaid : Prop := fnExactSailVerticesRow.holds Try.pinned (OpenSpec.ofChange fnExactSailVerticesSpec)

/-- ITS FALSE NEIGHBOUR: 'it returns false'. Refute it at one input. -/
def fnExactSailVerticesWrong : ChangeSpec := { name := "fnExactSailVertices", fn := fun _ => fun
  | [d1, d2] => { results := [.lit (.bool false)], args := [d1, d2] }
  | _ => none }
def FnExactSailVerticesWrongFalsely : Prop := fnExactSailVerticesRow.holds Try.pinned (OpenSpec.ofChange fnExactSailVerticesWrong)

/-- 'laws.FnExactSequenceOf': WHATEVER THE INPUT: true; the input reads as it did. -/
def fnExactSequenceOfSpec : ChangeSpec := { name := "fnExactSequenceOf", fn := fun _ => fun
  | [d1, d2] => { results := [.lit (.bool true)], args := [d1, d2] }
  | _ => none }
def fnExactSequenceOfRow : OpenClaim := { program := "ytjakdmfodnpkkaa", sum := "c5eb6bea133e1b0c3ff224a63b2808025ef7a590f524215e5ab01f34d19cfe09", func := "loop.example/g01297/laws.FnExactSequenceOf", spec := "fnExactSequenceOf", unfollowed := true, recurses := true, apart := false }
def FnExactSequenceOfSaid : Prop := fnExactSequenceOfRow.holds Try.pinned (OpenSpec.ofChange fnExactSequenceOfSpec)

/-- ITS FALSE NEIGHBOUR: 'it returns false'. Refute it at one input. -/
def fnExactSequenceOfWrong : ChangeSpec := { name := "fnExactSequenceOf", fn := fun _ => fun
  | [d1, d2] => { results := [.lit (.bool false)], args := [d1, d2] }
  | _ => none }
def FnExactSequenceOfWrongFalsely : Prop := fnExactSequenceOfRow.holds Try.pinned (OpenSpec.ofChange fnExactSequenceOfWrong)

/-- 'laws.FnExactSailLengths': WHATEVER THE INPUT: true; the input reads as it did. -/
def fnExactSailLengthsSpec : ChangeSpec := { name := "fnExactSailLengths", fn := fun _ => fun
  | [d1, d2] => { results := [.lit (.bool true)], args := [d1, d2] }
  | _ => none }
def fnExactSailLengthsRow : OpenClaim := { program := "ytjakdmfodnpkkaa", sum := "c5eb6bea133e1b0c3ff224a63b2808025ef7a590f524215e5ab01f34d19cfe09", func := "loop.example/g01297/laws.FnExactSailLengths", spec := "fnExactSailLengths", unfollowed := true, recurses := true, apart := false }
def FnExactSailLengthsSaid : Prop := fnExactSailLengthsRow.holds Try.pinned (OpenSpec.ofChange fnExactSailLengthsSpec)

/-- ITS FALSE NEIGHBOUR: 'it returns false'. Refute it at one input. -/
def fnExactSailLengthsWrong : ChangeSpec := { name := "fnExactSailLengths", fn := fun _ => fun
  | [d1, d2] => { results := [.lit (.bool false)], args := [d1, d2] }
  | _ => none }
def FnExactSailLengthsWrongFalsely : Prop := fnExactSailLengthsRow.holds Try.pinned (OpenSpec.ofChange fnExactSailLengthsWrong)

/-- 'laws.FnExactSailSines': WHATEVER THE INPUT: true; the input reads as it did. -/
def fnExactSailSinesSpec : ChangeSpec := { name := "fnExactSailSines", fn := fun _ => fun
  | [d1, d2] => { results := [.lit (.bool true)], args := [d1, d2] }
  | _ => none }
def fnExactSailSinesRow : OpenClaim := { program := "ytjakdmfodnpkkaa", sum := "c5eb6bea133e1b0c3ff224a63b2808025ef7a590f524215e5ab01f34d19cfe09", func := "loop.example/g01297/laws.FnExactSailSines", spec := "fnExactSailSines", unfollowed := true, recurses := true, apart := false }
def FnExactSailSinesSaid : Prop := fnExactSailSinesRow.holds Try.pinned (OpenSpec.ofChange fnExactSailSinesSpec)

/-- ITS FALSE NEIGHBOUR: 'it returns false'. Refute it at one input. -/
def fnExactSailSinesWrong : ChangeSpec := { name := "fnExactSailSines", fn := fun _ => fun
  | [d1, d2] => { results := [.lit (.bool false)], args := [d1, d2] }
  | _ => none }
def FnExactSailSinesWrongFalsely : Prop := fnExactSailSinesRow.holds Try.pinned (OpenSpec.ofChange fnExactSailSinesWrong)

/-- 'laws.FnSequences': WHATEVER THE INPUT: true; the input reads as it did. -/
def fnSequencesSpec : ChangeSpec := { name := "fnSequences", fn := fun _ => fun
  | [d] => { results := [.lit (.bool true)], args := [d] }
  | _ => none }
def fnSequencesRow : OpenClaim := { program := "ytjakdmfodnpkkaa", sum := "c5eb6bea133e1b0c3ff224a63b2808025ef7a590f524215e5ab01f34d19cfe09", func := "loop.example/g01297/laws.FnSequences", spec := "fnSequences", unfollowed := true, recurses := true, apart := false }
def FnSequencesSaid : Prop := fnSequencesRow.holds Try.pinned (OpenSpec.ofChange fnSequencesSpec)

/-- ITS FALSE NEIGHBOUR: 'it returns false'. Refute it at one input. -/
def fnSequencesWrong : ChangeSpec := { name := "fnSequences", fn := fun _ => fun
  | [d] => { results := [.lit (.bool false)], args := [d] }
  | _ => none }
def FnSequencesWrongFalsely : Prop := fnSequencesRow.holds Try.pinned (OpenSpec.ofChange fnSequencesWrong)

/- THE SECOND FORM. 'bulk': how many values and letters a reading holds, each counted each time it is reached (what is shared counts as often as it is met; a slice's spare places count too). A statement '..UptoSaid' is the law's where the arguments, and the package variables that the reading takes, are together of bulk at most 1048576: NARROWER than '..Said'. Prove '..Said' where nothing that the law and all that it calls make is longer than what came in: it says more and counts as full. Else prove '..UptoSaid'. A law counts once. -/
mutual
def uptoBulk {H : Type} : DataW H → Nat
  | .lit (.string bytes) => bytes.length + 1
  | .lit _ => 1
  | .nil => 1
  | .ptr d => uptoBulk d + 1
  | .slice elems spare => uptoBulkAll elems + uptoBulkAll spare + 1
  | .agg parts => uptoBulkAll parts + 1
  | .iface _ d => uptoBulk d + 1
  | .map entries => uptoBulkEntries entries + 1
  | .held _ => 1
def uptoBulkAll {H : Type} : List (DataW H) → Nat
  | [] => 0
  | d :: r => uptoBulk d + uptoBulkAll r
def uptoBulkEntries {H : Type} : List (Lit × DataW H) → Nat
  | [] => 0
  | x :: r => uptoBulkEntry x + uptoBulkEntries r
def uptoBulkEntry {H : Type} : Lit × DataW H → Nat
  | (.string bytes, d) => bytes.length + uptoBulk d + 1
  | (_, d) => uptoBulk d + 1
 end
def uptoSmall : (H : Type) → List (DataW H) → Bool := fun _ ds => decide (uptoBulkAll ds ≤ 1048576)
def OpenSpec.upto (s : _root_.Go.ChangeSpec) : _root_.Go.OpenSpec := { _root_.Go.OpenSpec.ofChange s with cond := some uptoSmall }

/-- 'laws.FnExactAdjacentAngle', WHERE WHAT IT READS IS OF BULK AT MOST 1048576: true; the input reads as it did. -/
def fnExactAdjacentAngleUptoRow : OpenClaim := { program := "ytjakdmfodnpkkaa", sum := "c5eb6bea133e1b0c3ff224a63b2808025ef7a590f524215e5ab01f34d19cfe09", func := "loop.example/g01297/laws.FnExactAdjacentAngle", spec := "fnExactAdjacentAngle", unfollowed := true, recurses := true, apart := false, narrowed := true }
def FnExactAdjacentAngleUptoSaid : Prop := fnExactAdjacentAngleUptoRow.holds Try.pinned (OpenSpec.upto fnExactAdjacentAngleSpec)

/-- 'laws.FnExactAngleOfSequence', WHERE WHAT IT READS IS OF BULK AT MOST 1048576: true; the input reads as it did. -/
def fnExactAngleOfSequenceUptoRow : OpenClaim := { program := "ytjakdmfodnpkkaa", sum := "c5eb6bea133e1b0c3ff224a63b2808025ef7a590f524215e5ab01f34d19cfe09", func := "loop.example/g01297/laws.FnExactAngleOfSequence", spec := "fnExactAngleOfSequence", unfollowed := true, recurses := true, apart := false, narrowed := true }
def FnExactAngleOfSequenceUptoSaid : Prop := fnExactAngleOfSequenceUptoRow.holds Try.pinned (OpenSpec.upto fnExactAngleOfSequenceSpec)

/-- 'laws.FnExactAreaBelow', WHERE WHAT IT READS IS OF BULK AT MOST 1048576: true; the input reads as it did. -/
def fnExactAreaBelowUptoRow : OpenClaim := { program := "ytjakdmfodnpkkaa", sum := "c5eb6bea133e1b0c3ff224a63b2808025ef7a590f524215e5ab01f34d19cfe09", func := "loop.example/g01297/laws.FnExactAreaBelow", spec := "fnExactAreaBelow", unfollowed := true, recurses := true, apart := false, narrowed := true }
def FnExactAreaBelowUptoSaid : Prop := fnExactAreaBelowUptoRow.holds Try.pinned (OpenSpec.upto fnExactAreaBelowSpec)

/-- 'laws.FnExactPlaceOnSail', WHERE WHAT IT READS IS OF BULK AT MOST 1048576: true; the input reads as it did. -/
def fnExactPlaceOnSailUptoRow : OpenClaim := { program := "ytjakdmfodnpkkaa", sum := "c5eb6bea133e1b0c3ff224a63b2808025ef7a590f524215e5ab01f34d19cfe09", func := "loop.example/g01297/laws.FnExactPlaceOnSail", spec := "fnExactPlaceOnSail", unfollowed := true, recurses := true, apart := false, narrowed := true }
def FnExactPlaceOnSailUptoSaid : Prop := fnExactPlaceOnSailUptoRow.holds Try.pinned (OpenSpec.upto fnExactPlaceOnSailSpec)

/-- 'laws.FnExactSailPoints', WHERE WHAT IT READS IS OF BULK AT MOST 1048576: true; the input reads as it did. -/
def fnExactSailPointsUptoRow : OpenClaim := { program := "ytjakdmfodnpkkaa", sum := "c5eb6bea133e1b0c3ff224a63b2808025ef7a590f524215e5ab01f34d19cfe09", func := "loop.example/g01297/laws.FnExactSailPoints", spec := "fnExactSailPoints", unfollowed := true, recurses := true, apart := false, narrowed := true }
def FnExactSailPointsUptoSaid : Prop := fnExactSailPointsUptoRow.holds Try.pinned (OpenSpec.upto fnExactSailPointsSpec)

/-- 'laws.FnExactSplitPoint', WHERE WHAT IT READS IS OF BULK AT MOST 1048576: true; the input reads as it did. -/
def fnExactSplitPointUptoRow : OpenClaim := { program := "ytjakdmfodnpkkaa", sum := "c5eb6bea133e1b0c3ff224a63b2808025ef7a590f524215e5ab01f34d19cfe09", func := "loop.example/g01297/laws.FnExactSplitPoint", spec := "fnExactSplitPoint", unfollowed := true, recurses := true, apart := false, narrowed := true }
def FnExactSplitPointUptoSaid : Prop := fnExactSplitPointUptoRow.holds Try.pinned (OpenSpec.upto fnExactSplitPointSpec)

/-- 'laws.FnExactSailVertices', WHERE WHAT IT READS IS OF BULK AT MOST 1048576: true; the input reads as it did. -/
def fnExactSailVerticesUptoRow : OpenClaim := { program := "ytjakdmfodnpkkaa", sum := "c5eb6bea133e1b0c3ff224a63b2808025ef7a590f524215e5ab01f34d19cfe09", func := "loop.example/g01297/laws.FnExactSailVertices", spec := "fnExactSailVertices", unfollowed := true, recurses := true, apart := false, narrowed := true }
def FnExactSailVerticesUptoSaid : Prop := fnExactSailVerticesUptoRow.holds Try.pinned (OpenSpec.upto fnExactSailVerticesSpec)

/-- 'laws.FnExactSequenceOf', WHERE WHAT IT READS IS OF BULK AT MOST 1048576: true; the input reads as it did. -/
def fnExactSequenceOfUptoRow : OpenClaim := { program := "ytjakdmfodnpkkaa", sum := "c5eb6bea133e1b0c3ff224a63b2808025ef7a590f524215e5ab01f34d19cfe09", func := "loop.example/g01297/laws.FnExactSequenceOf", spec := "fnExactSequenceOf", unfollowed := true, recurses := true, apart := false, narrowed := true }
def FnExactSequenceOfUptoSaid : Prop := fnExactSequenceOfUptoRow.holds Try.pinned (OpenSpec.upto fnExactSequenceOfSpec)

/-- 'laws.FnExactSailLengths', WHERE WHAT IT READS IS OF BULK AT MOST 1048576: true; the input reads as it did. -/
def fnExactSailLengthsUptoRow : OpenClaim := { program := "ytjakdmfodnpkkaa", sum := "c5eb6bea133e1b0c3ff224a63b2808025ef7a590f524215e5ab01f34d19cfe09", func := "loop.example/g01297/laws.FnExactSailLengths", spec := "fnExactSailLengths", unfollowed := true, recurses := true, apart := false, narrowed := true }
def FnExactSailLengthsUptoSaid : Prop := fnExactSailLengthsUptoRow.holds Try.pinned (OpenSpec.upto fnExactSailLengthsSpec)

/-- 'laws.FnExactSailSines', WHERE WHAT IT READS IS OF BULK AT MOST 1048576: true; the input reads as it did. -/
def fnExactSailSinesUptoRow : OpenClaim := { program := "ytjakdmfodnpkkaa", sum := "c5eb6bea133e1b0c3ff224a63b2808025ef7a590f524215e5ab01f34d19cfe09", func := "loop.example/g01297/laws.FnExactSailSines", spec := "fnExactSailSines", unfollowed := true, recurses := true, apart := false, narrowed := true }
def FnExactSailSinesUptoSaid : Prop := fnExactSailSinesUptoRow.holds Try.pinned (OpenSpec.upto fnExactSailSinesSpec)

/-- 'laws.FnSequences', WHERE WHAT IT READS IS OF BULK AT MOST 1048576: true; the input reads as it did. -/
def fnSequencesUptoRow : OpenClaim := { program := "ytjakdmfodnpkkaa", sum := "c5eb6bea133e1b0c3ff224a63b2808025ef7a590f524215e5ab01f34d19cfe09", func := "loop.example/g01297/laws.FnSequences", spec := "fnSequences", unfollowed := true, recurses := true, apart := false, narrowed := true }
def FnSequencesUptoSaid : Prop := fnSequencesUptoRow.holds Try.pinned (OpenSpec.upto fnSequencesSpec)

end Rows
end Go.Proofs.Ytjakdmfodnpkkaa
