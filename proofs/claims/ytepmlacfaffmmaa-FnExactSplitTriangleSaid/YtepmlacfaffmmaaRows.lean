/-
  No cell of these rows narrows 'for every input' (looked for: loops, veiled, ifaces, maps, wideKeys, modest, calm, conditions, laid).
  DERIVED. THE GIVEN ROWS OF THIS SEAT. 12 by the template 'for every input the law returns true; each argument reads behind the call as it read before'; 0 by the template 'total and deterministic' (their statements: YtepmlacfaffmmaaTotals.lean).
  GIVEN WITH THE SEED: the statements are not yours to turn. If you find one false, say at which input.
  Laid BY PROGRAM, IN A SANDBOX (cutbox-rows.mjs): the forced cells as the released guide's own fill.sh prints them over the translation dabaf85c08ef25ab… (all of the seat's roots in one cut). By AI agents, Wed Nov 11 2026. No macro, syntax, notation, axiom, sorry.
-/
import Derived.Test.YtepmlacfaffmmaaChecked
import GoSem.Claim
import GoSem.ClaimJoined
import GoSem.ClaimMapViews
import Derived.JoinedTies
import Derived.KernelRfl
namespace Go.Proofs.Ytepmlacfaffmmaa
/- THE CELL 'sum', in the pinned program and in every row, IS THE sha256 OF THE DUMP (.gsa) THAT YtepmlacfaffmmaaProg.lean LOADS. Nothing in Lean hashes anything: it is a label: what it is worth is what the hold of that sum in a sandbox is worth. -/
noncomputable def Try.pinned : Pinned := { name := "ytepmlacfaffmmaa", sum := "dabaf85c08ef25ab81d015aaf72da3a08a4f1c73e20251b3709de7ecbf2eb111", checked := Try.checked }
namespace Rows
def none {H : Type} : Left H := { results := [], args := [] }

/-- 'laws.FnExactIsTriangle': WHATEVER THE INPUT: true; the input reads as it did. -/
def fnExactIsTriangleSpec : ChangeSpec := { name := "fnExactIsTriangle", fn := fun _ => fun
  | [d] => { results := [.lit (.bool true)], args := [d] }
  | _ => none }
def fnExactIsTriangleRow : OpenClaim := { program := "ytepmlacfaffmmaa", sum := "dabaf85c08ef25ab81d015aaf72da3a08a4f1c73e20251b3709de7ecbf2eb111", func := "loop.example/g01297/laws.FnExactIsTriangle", spec := "fnExactIsTriangle", apart := false }
def FnExactIsTriangleSaid : Prop := fnExactIsTriangleRow.holds Try.pinned (OpenSpec.ofChange fnExactIsTriangleSpec)

/-- ITS FALSE NEIGHBOUR: 'it returns false'. Refute it at one input. -/
def fnExactIsTriangleWrong : ChangeSpec := { name := "fnExactIsTriangle", fn := fun _ => fun
  | [d] => { results := [.lit (.bool false)], args := [d] }
  | _ => none }
def FnExactIsTriangleWrongFalsely : Prop := fnExactIsTriangleRow.holds Try.pinned (OpenSpec.ofChange fnExactIsTriangleWrong)

/-- 'laws.FnExactAreaOfTriangle': WHATEVER THE INPUT: true; the input reads as it did. -/
def fnExactAreaOfTriangleSpec : ChangeSpec := { name := "fnExactAreaOfTriangle", fn := fun _ => fun
  | [d] => { results := [.lit (.bool true)], args := [d] }
  | _ => none }
def fnExactAreaOfTriangleRow : OpenClaim := { program := "ytepmlacfaffmmaa", sum := "dabaf85c08ef25ab81d015aaf72da3a08a4f1c73e20251b3709de7ecbf2eb111", func := "loop.example/g01297/laws.FnExactAreaOfTriangle", spec := "fnExactAreaOfTriangle", unfollowed := true, recurses := true, apart := false }
def FnExactAreaOfTriangleSaid : Prop := fnExactAreaOfTriangleRow.holds Try.pinned (OpenSpec.ofChange fnExactAreaOfTriangleSpec)

/-- ITS FALSE NEIGHBOUR: 'it returns false'. Refute it at one input. -/
def fnExactAreaOfTriangleWrong : ChangeSpec := { name := "fnExactAreaOfTriangle", fn := fun _ => fun
  | [d] => { results := [.lit (.bool false)], args := [d] }
  | _ => none }
def FnExactAreaOfTriangleWrongFalsely : Prop := fnExactAreaOfTriangleRow.holds Try.pinned (OpenSpec.ofChange fnExactAreaOfTriangleWrong)

/-- 'laws.FnExactAreaOf': WHATEVER THE INPUT: true; the input reads as it did. -/
def fnExactAreaOfSpec : ChangeSpec := { name := "fnExactAreaOf", fn := fun _ => fun
  | [d1, d2, d3] => { results := [.lit (.bool true)], args := [d1, d2, d3] }
  | _ => none }
def fnExactAreaOfRow : OpenClaim := { program := "ytepmlacfaffmmaa", sum := "dabaf85c08ef25ab81d015aaf72da3a08a4f1c73e20251b3709de7ecbf2eb111", func := "loop.example/g01297/laws.FnExactAreaOf", spec := "fnExactAreaOf", unfollowed := true, recurses := true, apart := false }
def FnExactAreaOfSaid : Prop := fnExactAreaOfRow.holds Try.pinned (OpenSpec.ofChange fnExactAreaOfSpec)

/-- ITS FALSE NEIGHBOUR: 'it returns false'. Refute it at one input. -/
def fnExactAreaOfWrong : ChangeSpec := { name := "fnExactAreaOf", fn := fun _ => fun
  | [d1, d2, d3] => { results := [.lit (.bool false)], args := [d1, d2, d3] }
  | _ => none }
def FnExactAreaOfWrongFalsely : Prop := fnExactAreaOfRow.holds Try.pinned (OpenSpec.ofChange fnExactAreaOfWrong)

/-- 'laws.FnExactBoundaryOf': WHATEVER THE INPUT: true; the input reads as it did. -/
def fnExactBoundaryOfSpec : ChangeSpec := { name := "fnExactBoundaryOf", fn := fun _ => fun
  | [d] => { results := [.lit (.bool true)], args := [d] }
  | _ => none }
def fnExactBoundaryOfRow : OpenClaim := { program := "ytepmlacfaffmmaa", sum := "dabaf85c08ef25ab81d015aaf72da3a08a4f1c73e20251b3709de7ecbf2eb111", func := "loop.example/g01297/laws.FnExactBoundaryOf", spec := "fnExactBoundaryOf", unfollowed := true, recurses := true, apart := false }
def FnExactBoundaryOfSaid : Prop := fnExactBoundaryOfRow.holds Try.pinned (OpenSpec.ofChange fnExactBoundaryOfSpec)

/-- ITS FALSE NEIGHBOUR: 'it returns false'. Refute it at one input. -/
def fnExactBoundaryOfWrong : ChangeSpec := { name := "fnExactBoundaryOf", fn := fun _ => fun
  | [d] => { results := [.lit (.bool false)], args := [d] }
  | _ => none }
def FnExactBoundaryOfWrongFalsely : Prop := fnExactBoundaryOfRow.holds Try.pinned (OpenSpec.ofChange fnExactBoundaryOfWrong)

/-- 'laws.FnExactDistanceOf': WHATEVER THE INPUT: true; the input reads as it did. -/
def fnExactDistanceOfSpec : ChangeSpec := { name := "fnExactDistanceOf", fn := fun _ => fun
  | [d1, d2, d3] => { results := [.lit (.bool true)], args := [d1, d2, d3] }
  | _ => none }
def fnExactDistanceOfRow : OpenClaim := { program := "ytepmlacfaffmmaa", sum := "dabaf85c08ef25ab81d015aaf72da3a08a4f1c73e20251b3709de7ecbf2eb111", func := "loop.example/g01297/laws.FnExactDistanceOf", spec := "fnExactDistanceOf", unfollowed := true, recurses := true, apart := false }
def FnExactDistanceOfSaid : Prop := fnExactDistanceOfRow.holds Try.pinned (OpenSpec.ofChange fnExactDistanceOfSpec)

/-- ITS FALSE NEIGHBOUR: 'it returns false'. Refute it at one input. -/
def fnExactDistanceOfWrong : ChangeSpec := { name := "fnExactDistanceOf", fn := fun _ => fun
  | [d1, d2, d3] => { results := [.lit (.bool false)], args := [d1, d2, d3] }
  | _ => none }
def FnExactDistanceOfWrongFalsely : Prop := fnExactDistanceOfRow.holds Try.pinned (OpenSpec.ofChange fnExactDistanceOfWrong)

/-- 'laws.FnExactCountInner': WHATEVER THE INPUT: true; the input reads as it did. -/
def fnExactCountInnerSpec : ChangeSpec := { name := "fnExactCountInner", fn := fun _ => fun
  | [d] => { results := [.lit (.bool true)], args := [d] }
  | _ => none }
def fnExactCountInnerRow : OpenClaim := { program := "ytepmlacfaffmmaa", sum := "dabaf85c08ef25ab81d015aaf72da3a08a4f1c73e20251b3709de7ecbf2eb111", func := "loop.example/g01297/laws.FnExactCountInner", spec := "fnExactCountInner", unfollowed := true, recurses := true, apart := false }
def FnExactCountInnerSaid : Prop := fnExactCountInnerRow.holds Try.pinned (OpenSpec.ofChange fnExactCountInnerSpec)

/-- ITS FALSE NEIGHBOUR: 'it returns false'. Refute it at one input. -/
def fnExactCountInnerWrong : ChangeSpec := { name := "fnExactCountInner", fn := fun _ => fun
  | [d] => { results := [.lit (.bool false)], args := [d] }
  | _ => none }
def FnExactCountInnerWrongFalsely : Prop := fnExactCountInnerRow.holds Try.pinned (OpenSpec.ofChange fnExactCountInnerWrong)

/-- 'laws.FnExactMultipleOf': WHATEVER THE INPUT: true; the input reads as it did. -/
def fnExactMultipleOfSpec : ChangeSpec := { name := "fnExactMultipleOf", fn := fun _ => fun
  | [d1, d2] => { results := [.lit (.bool true)], args := [d1, d2] }
  | _ => none }
def fnExactMultipleOfRow : OpenClaim := { program := "ytepmlacfaffmmaa", sum := "dabaf85c08ef25ab81d015aaf72da3a08a4f1c73e20251b3709de7ecbf2eb111", func := "loop.example/g01297/laws.FnExactMultipleOf", spec := "fnExactMultipleOf", apart := false }
def FnExactMultipleOfSaid : Prop := fnExactMultipleOfRow.holds Try.pinned (OpenSpec.ofChange fnExactMultipleOfSpec)

/-- ITS FALSE NEIGHBOUR: 'it returns false'. Refute it at one input. -/
def fnExactMultipleOfWrong : ChangeSpec := { name := "fnExactMultipleOf", fn := fun _ => fun
  | [d1, d2] => { results := [.lit (.bool false)], args := [d1, d2] }
  | _ => none }
def FnExactMultipleOfWrongFalsely : Prop := fnExactMultipleOfRow.holds Try.pinned (OpenSpec.ofChange fnExactMultipleOfWrong)

/-- 'laws.FnExactSplitTriangle': WHATEVER THE INPUT: true; the input reads as it did. -/
def fnExactSplitTriangleSpec : ChangeSpec := { name := "fnExactSplitTriangle", fn := fun _ => fun
  | [d1, d2] => { results := [.lit (.bool true)], args := [d1, d2] }
  | _ => none }
def fnExactSplitTriangleRow : OpenClaim := { program := "ytepmlacfaffmmaa", sum := "dabaf85c08ef25ab81d015aaf72da3a08a4f1c73e20251b3709de7ecbf2eb111", func := "loop.example/g01297/laws.FnExactSplitTriangle", spec := "fnExactSplitTriangle", apart := false }
def FnExactSplitTriangleSaid : Prop := fnExactSplitTriangleRow.holds Try.pinned (OpenSpec.ofChange fnExactSplitTriangleSpec)

/-- ITS FALSE NEIGHBOUR: 'it returns false'. Refute it at one input. -/
def fnExactSplitTriangleWrong : ChangeSpec := { name := "fnExactSplitTriangle", fn := fun _ => fun
  | [d1, d2] => { results := [.lit (.bool false)], args := [d1, d2] }
  | _ => none }
def FnExactSplitTriangleWrongFalsely : Prop := fnExactSplitTriangleRow.holds Try.pinned (OpenSpec.ofChange fnExactSplitTriangleWrong)

/-- 'laws.FnExactCornerAt': WHATEVER THE INPUT: true; the input reads as it did. -/
def fnExactCornerAtSpec : ChangeSpec := { name := "fnExactCornerAt", fn := fun _ => fun
  | [d1, d2] => { results := [.lit (.bool true)], args := [d1, d2] }
  | _ => none }
def fnExactCornerAtRow : OpenClaim := { program := "ytepmlacfaffmmaa", sum := "dabaf85c08ef25ab81d015aaf72da3a08a4f1c73e20251b3709de7ecbf2eb111", func := "loop.example/g01297/laws.FnExactCornerAt", spec := "fnExactCornerAt", apart := false }
def FnExactCornerAtSaid : Prop := fnExactCornerAtRow.holds Try.pinned (OpenSpec.ofChange fnExactCornerAtSpec)

/-- ITS FALSE NEIGHBOUR: 'it returns false'. Refute it at one input. -/
def fnExactCornerAtWrong : ChangeSpec := { name := "fnExactCornerAt", fn := fun _ => fun
  | [d1, d2] => { results := [.lit (.bool false)], args := [d1, d2] }
  | _ => none }
def FnExactCornerAtWrongFalsely : Prop := fnExactCornerAtRow.holds Try.pinned (OpenSpec.ofChange fnExactCornerAtWrong)

/-- 'laws.FnExactMateOf': WHATEVER THE INPUT: true; the input reads as it did. -/
def fnExactMateOfSpec : ChangeSpec := { name := "fnExactMateOf", fn := fun _ => fun
  | [d] => { results := [.lit (.bool true)], args := [d] }
  | _ => none }
def fnExactMateOfRow : OpenClaim := { program := "ytepmlacfaffmmaa", sum := "dabaf85c08ef25ab81d015aaf72da3a08a4f1c73e20251b3709de7ecbf2eb111", func := "loop.example/g01297/laws.FnExactMateOf", spec := "fnExactMateOf", apart := false }
def FnExactMateOfSaid : Prop := fnExactMateOfRow.holds Try.pinned (OpenSpec.ofChange fnExactMateOfSpec)

/-- ITS FALSE NEIGHBOUR: 'it returns false'. Refute it at one input. -/
def fnExactMateOfWrong : ChangeSpec := { name := "fnExactMateOf", fn := fun _ => fun
  | [d] => { results := [.lit (.bool false)], args := [d] }
  | _ => none }
def FnExactMateOfWrongFalsely : Prop := fnExactMateOfRow.holds Try.pinned (OpenSpec.ofChange fnExactMateOfWrong)

/-- 'laws.FnExactSineOf': WHATEVER THE INPUT: true; the input reads as it did. -/
def fnExactSineOfSpec : ChangeSpec := { name := "fnExactSineOf", fn := fun _ => fun
  | [d] => { results := [.lit (.bool true)], args := [d] }
  | _ => none }
def fnExactSineOfRow : OpenClaim := { program := "ytepmlacfaffmmaa", sum := "dabaf85c08ef25ab81d015aaf72da3a08a4f1c73e20251b3709de7ecbf2eb111", func := "loop.example/g01297/laws.FnExactSineOf", spec := "fnExactSineOf", unfollowed := true, recurses := true, apart := false }
def FnExactSineOfSaid : Prop := fnExactSineOfRow.holds Try.pinned (OpenSpec.ofChange fnExactSineOfSpec)

/-- ITS FALSE NEIGHBOUR: 'it returns false'. Refute it at one input. -/
def fnExactSineOfWrong : ChangeSpec := { name := "fnExactSineOf", fn := fun _ => fun
  | [d] => { results := [.lit (.bool false)], args := [d] }
  | _ => none }
def FnExactSineOfWrongFalsely : Prop := fnExactSineOfRow.holds Try.pinned (OpenSpec.ofChange fnExactSineOfWrong)

/-- 'laws.FnExactAreNeighbours': WHATEVER THE INPUT: true; the input reads as it did. -/
def fnExactAreNeighboursSpec : ChangeSpec := { name := "fnExactAreNeighbours", fn := fun _ => fun
  | [d1, d2] => { results := [.lit (.bool true)], args := [d1, d2] }
  | _ => none }
def fnExactAreNeighboursRow : OpenClaim := { program := "ytepmlacfaffmmaa", sum := "dabaf85c08ef25ab81d015aaf72da3a08a4f1c73e20251b3709de7ecbf2eb111", func := "loop.example/g01297/laws.FnExactAreNeighbours", spec := "fnExactAreNeighbours", unfollowed := true, recurses := true, apart := false }
def FnExactAreNeighboursSaid : Prop := fnExactAreNeighboursRow.holds Try.pinned (OpenSpec.ofChange fnExactAreNeighboursSpec)

/-- ITS FALSE NEIGHBOUR: 'it returns false'. Refute it at one input. -/
def fnExactAreNeighboursWrong : ChangeSpec := { name := "fnExactAreNeighbours", fn := fun _ => fun
  | [d1, d2] => { results := [.lit (.bool false)], args := [d1, d2] }
  | _ => none }
def FnExactAreNeighboursWrongFalsely : Prop := fnExactAreNeighboursRow.holds Try.pinned (OpenSpec.ofChange fnExactAreNeighboursWrong)

/- THE SECOND FORM. 'bulk': how many values and letters a reading holds, each counted each time it is reached (what is shared counts as often as it is met; a slice's spare places count too). A statement '..UptoSaid' is the law's where the arguments, and the package variables that the reading takes, are together of bulk at most 1048576: NARROWER than '..Said'. Prove '..Said' where nothing that the law and all that it calls make is longer than what came in: it says more and counts as full. Else prove '..UptoSaid'. A law counts once. -/
mutual
def uptoBulk {H : Type} : DataW H → Nat
  | .lit (.string bytes) => bytes.length + 1
  | .lit _ => 1
  | .nil => 1
  | .ptr d => uptoBulk d + 1
  | .slice elems spare => uptoBulkAll elems + uptoBulkAll spare + 1
  | .agg parts => uptoBulkAll parts + 1
  | .iface _ d => uptoBulk d + 1
  | .map entries => uptoBulkEntries entries + 1
  | .held _ => 1
def uptoBulkAll {H : Type} : List (DataW H) → Nat
  | [] => 0
  | d :: r => uptoBulk d + uptoBulkAll r
def uptoBulkEntries {H : Type} : List (Lit × DataW H) → Nat
  | [] => 0
  | x :: r => uptoBulkEntry x + uptoBulkEntries r
def uptoBulkEntry {H : Type} : Lit × DataW H → Nat
  | (.string bytes, d) => bytes.length + uptoBulk d + 1
  | (_, d) => uptoBulk d + 1
 end
def uptoSmall : (H : Type) → List (DataW H) → Bool := fun _ ds => decide (uptoBulkAll ds ≤ 1048576)
def OpenSpec.upto (s : _root_.Go.ChangeSpec) : _root_.Go.OpenSpec := { _root_.Go.OpenSpec.ofChange s with cond := some uptoSmall }

/-- 'laws.FnExactIsTriangle', WHERE WHAT IT READS IS OF BULK AT MOST 1048576: true; the input reads as it did. -/
def fnExactIsTriangleUptoRow : OpenClaim := { program := "ytepmlacfaffmmaa", sum := "dabaf85c08ef25ab81d015aaf72da3a08a4f1c73e20251b3709de7ecbf2eb111", func := "loop.example/g01297/laws.FnExactIsTriangle", spec := "fnExactIsTriangle", apart := false, narrowed := true }
def FnExactIsTriangleUptoSaid : Prop := fnExactIsTriangleUptoRow.holds Try.pinned (OpenSpec.upto fnExactIsTriangleSpec)

/-- 'laws.FnExactAreaOfTriangle', WHERE WHAT IT READS IS OF BULK AT MOST 1048576: true; the input reads as it did. -/
def fnExactAreaOfTriangleUptoRow : OpenClaim := { program := "ytepmlacfaffmmaa", sum := "dabaf85c08ef25ab81d015aaf72da3a08a4f1c73e20251b3709de7ecbf2eb111", func := "loop.example/g01297/laws.FnExactAreaOfTriangle", spec := "fnExactAreaOfTriangle", unfollowed := true, recurses := true, apart := false, narrowed := true }
def FnExactAreaOfTriangleUptoSaid : Prop := fnExactAreaOfTriangleUptoRow.holds Try.pinned (OpenSpec.upto fnExactAreaOfTriangleSpec)

/-- 'laws.FnExactAreaOf', WHERE WHAT IT READS IS OF BULK AT MOST 1048576: true; the input reads as it did. -/
def fnExactAreaOfUptoRow : OpenClaim := { program := "ytepmlacfaffmmaa", sum := "dabaf85c08ef25ab81d015aaf72da3a08a4f1c73e20251b3709de7ecbf2eb111", func := "loop.example/g01297/laws.FnExactAreaOf", spec := "fnExactAreaOf", unfollowed := true, recurses := true, apart := false, narrowed := true }
def FnExactAreaOfUptoSaid : Prop := fnExactAreaOfUptoRow.holds Try.pinned (OpenSpec.upto fnExactAreaOfSpec)

/-- 'laws.FnExactBoundaryOf', WHERE WHAT IT READS IS OF BULK AT MOST 1048576: true; the input reads as it did. -/
def fnExactBoundaryOfUptoRow : OpenClaim := { program := "ytepmlacfaffmmaa", sum := "dabaf85c08ef25ab81d015aaf72da3a08a4f1c73e20251b3709de7ecbf2eb111", func := "loop.example/g01297/laws.FnExactBoundaryOf", spec := "fnExactBoundaryOf", unfollowed := true, recurses := true, apart := false, narrowed := true }
def FnExactBoundaryOfUptoSaid : Prop := fnExactBoundaryOfUptoRow.holds Try.pinned (OpenSpec.upto fnExactBoundaryOfSpec)

/-- 'laws.FnExactDistanceOf', WHERE WHAT IT READS IS OF BULK AT MOST 1048576: true; the input reads as it did. -/
def fnExactDistanceOfUptoRow : OpenClaim := { program := "ytepmlacfaffmmaa", sum := "dabaf85c08ef25ab81d015aaf72da3a08a4f1c73e20251b3709de7ecbf2eb111", func := "loop.example/g01297/laws.FnExactDistanceOf", spec := "fnExactDistanceOf", unfollowed := true, recurses := true, apart := false, narrowed := true }
def FnExactDistanceOfUptoSaid : Prop := fnExactDistanceOfUptoRow.holds Try.pinned (OpenSpec.upto fnExactDistanceOfSpec)

/-- 'laws.FnExactCountInner', WHERE WHAT IT READS IS OF BULK AT MOST 1048576: true; the input reads as it did. -/
def fnExactCountInnerUptoRow : OpenClaim := { program := "ytepmlacfaffmmaa", sum := "dabaf85c08ef25ab81d015aaf72da3a08a4f1c73e20251b3709de7ecbf2eb111", func := "loop.example/g01297/laws.FnExactCountInner", spec := "fnExactCountInner", unfollowed := true, recurses := true, apart := false, narrowed := true }
def FnExactCountInnerUptoSaid : Prop := fnExactCountInnerUptoRow.holds Try.pinned (OpenSpec.upto fnExactCountInnerSpec)

/-- 'laws.FnExactMultipleOf', WHERE WHAT IT READS IS OF BULK AT MOST 1048576: true; the input reads as it did. -/
def fnExactMultipleOfUptoRow : OpenClaim := { program := "ytepmlacfaffmmaa", sum := "dabaf85c08ef25ab81d015aaf72da3a08a4f1c73e20251b3709de7ecbf2eb111", func := "loop.example/g01297/laws.FnExactMultipleOf", spec := "fnExactMultipleOf", apart := false, narrowed := true }
def FnExactMultipleOfUptoSaid : Prop := fnExactMultipleOfUptoRow.holds Try.pinned (OpenSpec.upto fnExactMultipleOfSpec)

/-- 'laws.FnExactSplitTriangle', WHERE WHAT IT READS IS OF BULK AT MOST 1048576: true; the input reads as it did. -/
def fnExactSplitTriangleUptoRow : OpenClaim := { program := "ytepmlacfaffmmaa", sum := "dabaf85c08ef25ab81d015aaf72da3a08a4f1c73e20251b3709de7ecbf2eb111", func := "loop.example/g01297/laws.FnExactSplitTriangle", spec := "fnExactSplitTriangle", apart := false, narrowed := true }
def FnExactSplitTriangleUptoSaid : Prop := fnExactSplitTriangleUptoRow.holds Try.pinned (OpenSpec.upto fnExactSplitTriangleSpec)

/-- 'laws.FnExactCornerAt', WHERE WHAT IT READS IS OF BULK AT MOST 1048576: true; the input reads as it did. -/
def fnExactCornerAtUptoRow : OpenClaim := { program := "ytepmlacfaffmmaa", sum := "dabaf85c08ef25ab81d015aaf72da3a08a4f1c73e20251b3709de7ecbf2eb111", func := "loop.example/g01297/laws.FnExactCornerAt", spec := "fnExactCornerAt", apart := false, narrowed := true }
def FnExactCornerAtUptoSaid : Prop := fnExactCornerAtUptoRow.holds Try.pinned (OpenSpec.upto fnExactCornerAtSpec)

/-- 'laws.FnExactMateOf', WHERE WHAT IT READS IS OF BULK AT MOST 1048576: true; the input reads as it did. -/
def fnExactMateOfUptoRow : OpenClaim := { program := "ytepmlacfaffmmaa", sum := "dabaf85c08ef25ab81d015aaf72da3a08a4f1c73e20251b3709de7ecbf2eb111", func := "loop.example/g01297/laws.FnExactMateOf", spec := "fnExactMateOf", apart := false, narrowed := true }
def FnExactMateOfUptoSaid : Prop := fnExactMateOfUptoRow.holds Try.pinned (OpenSpec.upto fnExactMateOfSpec)

/-- 'laws.FnExactSineOf', WHERE WHAT IT READS IS OF BULK AT MOST 1048576: true; the input reads as it did. -/
def fnExactSineOfUptoRow : OpenClaim := { program := "ytepmlacfaffmmaa", sum := "dabaf85c08ef25ab81d015aaf72da3a08a4f1c73e20251b3709de7ecbf2eb111", func := "loop.example/g01297/laws.FnExactSineOf", spec := "fnExactSineOf", unfollowed := true, recurses := true, apart := false, narrowed := true }
def FnExactSineOfUptoSaid : Prop := fnExactSineOfUptoRow.holds Try.pinned (OpenSpec.upto fnExactSineOfSpec)

/-- 'laws.FnExactAreNeighbours', WHERE WHAT IT READS IS OF BULK AT MOST 1048576: true; the input reads as it did. -/
def fnExactAreNeighboursUptoRow : OpenClaim := { program := "ytepmlacfaffmmaa", sum := "dabaf85c08ef25ab81d015aaf72da3a08a4f1c73e20251b3709de7ecbf2eb111", func := "loop.example/g01297/laws.FnExactAreNeighbours", spec := "fnExactAreNeighbours", unfollowed := true, recurses := true, apart := false, narrowed := true }
def FnExactAreNeighboursUptoSaid : Prop := fnExactAreNeighboursUptoRow.holds Try.pinned (OpenSpec.upto fnExactAreNeighboursSpec)

end Rows
end Go.Proofs.Ytepmlacfaffmmaa
