/-
  No cell of these rows narrows 'for every input' (looked for: loops, veiled, ifaces, maps, wideKeys, modest, calm, conditions, laid).
  DERIVED. THE GIVEN ROWS OF THIS SEAT. 9 by the template 'for every input the law returns true; each argument reads behind the call as it read before'; 0 by the template 'total and deterministic' (their statements: YtnjepaboecijcaaTotals.lean).
  GIVEN WITH THE SEED: the statements are not yours to turn. If you find one false, say at which input.
  Laid BY PROGRAM, IN A SANDBOX (cutbox-rows.mjs): the forced cells as the released guide's own fill.sh prints them over the translation dbc604e284b68da1… (all of the seat's roots in one cut). By AI agents, Wed Nov 11 2026. No macro, syntax, notation, axiom, sorry.
-/
import Derived.Test.YtnjepaboecijcaaChecked
import GoSem.Claim
import GoSem.ClaimJoined
import GoSem.ClaimMapViews
import Derived.JoinedTies
import Derived.KernelRfl
namespace Go.Proofs.Ytnjepaboecijcaa
/- THE CELL 'sum', in the pinned program and in every row, IS THE sha256 OF THE DUMP (.gsa) THAT YtnjepaboecijcaaProg.lean LOADS. Nothing in Lean hashes anything: it is a label: what it is worth is what the hold of that sum in a sandbox is worth. -/
noncomputable def Try.pinned : Pinned := { name := "ytnjepaboecijcaa", sum := "dbc604e284b68da1da127cca5195ec4060c1d5bd76bd77fd016a0c4834f55641", checked := Try.checked }
namespace Rows
def none {H : Type} : Left H := { results := [], args := [] }

/-- 'laws.FnExactDifferenceOfNeighbours': WHATEVER THE INPUT: true; the input reads as it did. -/
def fnExactDifferenceOfNeighboursSpec : ChangeSpec := { name := "fnExactDifferenceOfNeighbours", fn := fun _ => fun
  | [d1, d2] => { results := [.lit (.bool true)], args := [d1, d2] }
  | _ => none }
def fnExactDifferenceOfNeighboursRow : OpenClaim := { program := "ytnjepaboecijcaa", sum := "dbc604e284b68da1da127cca5195ec4060c1d5bd76bd77fd016a0c4834f55641", func := "loop.example/g01297/laws.FnExactDifferenceOfNeighbours", spec := "fnExactDifferenceOfNeighbours", unfollowed := true, recurses := true, apart := false }
def FnExactDifferenceOfNeighboursSaid : Prop := fnExactDifferenceOfNeighboursRow.holds Try.pinned (OpenSpec.ofChange fnExactDifferenceOfNeighboursSpec)

/-- ITS FALSE NEIGHBOUR: 'it returns false'. Refute it at one input. -/
def fnExactDifferenceOfNeighboursWrong : ChangeSpec := { name := "fnExactDifferenceOfNeighbours", fn := fun _ => fun
  | [d1, d2] => { results := [.lit (.bool false)], args := [d1, d2] }
  | _ => none }
def FnExactDifferenceOfNeighboursWrongFalsely : Prop := fnExactDifferenceOfNeighboursRow.holds Try.pinned (OpenSpec.ofChange fnExactDifferenceOfNeighboursWrong)

/-- 'laws.FnExactSumOfNeighbours': WHATEVER THE INPUT: true; the input reads as it did. -/
def fnExactSumOfNeighboursSpec : ChangeSpec := { name := "fnExactSumOfNeighbours", fn := fun _ => fun
  | [d1, d2] => { results := [.lit (.bool true)], args := [d1, d2] }
  | _ => none }
def fnExactSumOfNeighboursRow : OpenClaim := { program := "ytnjepaboecijcaa", sum := "dbc604e284b68da1da127cca5195ec4060c1d5bd76bd77fd016a0c4834f55641", func := "loop.example/g01297/laws.FnExactSumOfNeighbours", spec := "fnExactSumOfNeighbours", unfollowed := true, recurses := true, apart := false }
def FnExactSumOfNeighboursSaid : Prop := fnExactSumOfNeighboursRow.holds Try.pinned (OpenSpec.ofChange fnExactSumOfNeighboursSpec)

/-- ITS FALSE NEIGHBOUR: 'it returns false'. Refute it at one input. -/
def fnExactSumOfNeighboursWrong : ChangeSpec := { name := "fnExactSumOfNeighbours", fn := fun _ => fun
  | [d1, d2] => { results := [.lit (.bool false)], args := [d1, d2] }
  | _ => none }
def FnExactSumOfNeighboursWrongFalsely : Prop := fnExactSumOfNeighboursRow.holds Try.pinned (OpenSpec.ofChange fnExactSumOfNeighboursWrong)

/-- 'laws.FnExactReflectFraction': WHATEVER THE INPUT: true; the input reads as it did. -/
def fnExactReflectFractionSpec : ChangeSpec := { name := "fnExactReflectFraction", fn := fun _ => fun
  | [d1, d2, d3] => { results := [.lit (.bool true)], args := [d1, d2, d3] }
  | _ => none }
def fnExactReflectFractionRow : OpenClaim := { program := "ytnjepaboecijcaa", sum := "dbc604e284b68da1da127cca5195ec4060c1d5bd76bd77fd016a0c4834f55641", func := "loop.example/g01297/laws.FnExactReflectFraction", spec := "fnExactReflectFraction", unfollowed := true, recurses := true, apart := false }
def FnExactReflectFractionSaid : Prop := fnExactReflectFractionRow.holds Try.pinned (OpenSpec.ofChange fnExactReflectFractionSpec)

/-- ITS FALSE NEIGHBOUR: 'it returns false'. Refute it at one input. -/
def fnExactReflectFractionWrong : ChangeSpec := { name := "fnExactReflectFraction", fn := fun _ => fun
  | [d1, d2, d3] => { results := [.lit (.bool false)], args := [d1, d2, d3] }
  | _ => none }
def FnExactReflectFractionWrongFalsely : Prop := fnExactReflectFractionRow.holds Try.pinned (OpenSpec.ofChange fnExactReflectFractionWrong)

/-- 'laws.FnExactParentsOf': WHATEVER THE INPUT: true; the input reads as it did. -/
def fnExactParentsOfSpec : ChangeSpec := { name := "fnExactParentsOf", fn := fun _ => fun
  | [d] => { results := [.lit (.bool true)], args := [d] }
  | _ => none }
def fnExactParentsOfRow : OpenClaim := { program := "ytnjepaboecijcaa", sum := "dbc604e284b68da1da127cca5195ec4060c1d5bd76bd77fd016a0c4834f55641", func := "loop.example/g01297/laws.FnExactParentsOf", spec := "fnExactParentsOf", unfollowed := true, recurses := true, apart := false }
def FnExactParentsOfSaid : Prop := fnExactParentsOfRow.holds Try.pinned (OpenSpec.ofChange fnExactParentsOfSpec)

/-- ITS FALSE NEIGHBOUR: 'it returns false'. Refute it at one input. -/
def fnExactParentsOfWrong : ChangeSpec := { name := "fnExactParentsOf", fn := fun _ => fun
  | [d] => { results := [.lit (.bool false)], args := [d] }
  | _ => none }
def FnExactParentsOfWrongFalsely : Prop := fnExactParentsOfRow.holds Try.pinned (OpenSpec.ofChange fnExactParentsOfWrong)

/-- 'laws.FnExactPathOf': WHATEVER THE INPUT: true; the input reads as it did. -/
def fnExactPathOfSpec : ChangeSpec := { name := "fnExactPathOf", fn := fun _ => fun
  | [d] => { results := [.lit (.bool true)], args := [d] }
  | _ => none }
def fnExactPathOfRow : OpenClaim := { program := "ytnjepaboecijcaa", sum := "dbc604e284b68da1da127cca5195ec4060c1d5bd76bd77fd016a0c4834f55641", func := "loop.example/g01297/laws.FnExactPathOf", spec := "fnExactPathOf", inPlace := ["internal/abi.NoEscape"], unfollowed := true, recurses := true, apart := false }
def FnExactPathOfSaid : Prop := fnExactPathOfRow.holds Try.pinned (OpenSpec.ofChange fnExactPathOfSpec)

/-- ITS FALSE NEIGHBOUR: 'it returns false'. Refute it at one input. -/
def fnExactPathOfWrong : ChangeSpec := { name := "fnExactPathOf", fn := fun _ => fun
  | [d] => { results := [.lit (.bool false)], args := [d] }
  | _ => none }
def FnExactPathOfWrongFalsely : Prop := fnExactPathOfRow.holds Try.pinned (OpenSpec.ofChange fnExactPathOfWrong)

/-- 'laws.FnExactFareyDistance': WHATEVER THE INPUT: true; the input reads as it did. -/
def fnExactFareyDistanceSpec : ChangeSpec := { name := "fnExactFareyDistance", fn := fun _ => fun
  | [d1, d2] => { results := [.lit (.bool true)], args := [d1, d2] }
  | _ => none }
def fnExactFareyDistanceRow : OpenClaim := { program := "ytnjepaboecijcaa", sum := "dbc604e284b68da1da127cca5195ec4060c1d5bd76bd77fd016a0c4834f55641", func := "loop.example/g01297/laws.FnExactFareyDistance", spec := "fnExactFareyDistance", unfollowed := true, recurses := true, apart := false }
def FnExactFareyDistanceSaid : Prop := fnExactFareyDistanceRow.holds Try.pinned (OpenSpec.ofChange fnExactFareyDistanceSpec)

/-- ITS FALSE NEIGHBOUR: 'it returns false'. Refute it at one input. -/
def fnExactFareyDistanceWrong : ChangeSpec := { name := "fnExactFareyDistance", fn := fun _ => fun
  | [d1, d2] => { results := [.lit (.bool false)], args := [d1, d2] }
  | _ => none }
def FnExactFareyDistanceWrongFalsely : Prop := fnExactFareyDistanceRow.holds Try.pinned (OpenSpec.ofChange fnExactFareyDistanceWrong)

/-- 'laws.FnExactGeodesicOf': WHATEVER THE INPUT: true; the input reads as it did. -/
def fnExactGeodesicOfSpec : ChangeSpec := { name := "fnExactGeodesicOf", fn := fun _ => fun
  | [d1, d2] => { results := [.lit (.bool true)], args := [d1, d2] }
  | _ => none }
def fnExactGeodesicOfRow : OpenClaim := { program := "ytnjepaboecijcaa", sum := "dbc604e284b68da1da127cca5195ec4060c1d5bd76bd77fd016a0c4834f55641", func := "loop.example/g01297/laws.FnExactGeodesicOf", spec := "fnExactGeodesicOf", unfollowed := true, recurses := true, apart := false }
def FnExactGeodesicOfSaid : Prop := fnExactGeodesicOfRow.holds Try.pinned (OpenSpec.ofChange fnExactGeodesicOfSpec)

/-- ITS FALSE NEIGHBOUR: 'it returns false'. Refute it at one input. -/
def fnExactGeodesicOfWrong : ChangeSpec := { name := "fnExactGeodesicOf", fn := fun _ => fun
  | [d1, d2] => { results := [.lit (.bool false)], args := [d1, d2] }
  | _ => none }
def FnExactGeodesicOfWrongFalsely : Prop := fnExactGeodesicOfRow.holds Try.pinned (OpenSpec.ofChange fnExactGeodesicOfWrong)

/-- 'laws.FnGeodesics': WHATEVER THE INPUT: true; the input reads as it did. -/
def fnGeodesicsSpec : ChangeSpec := { name := "fnGeodesics", fn := fun _ => fun
  | [d] => { results := [.lit (.bool true)], args := [d] }
  | _ => none }
def fnGeodesicsRow : OpenClaim := { program := "ytnjepaboecijcaa", sum := "dbc604e284b68da1da127cca5195ec4060c1d5bd76bd77fd016a0c4834f55641", func := "loop.example/g01297/laws.FnGeodesics", spec := "fnGeodesics", unfollowed := true, recurses := true, apart := false }
def FnGeodesicsSaid : Prop := fnGeodesicsRow.holds Try.pinned (OpenSpec.ofChange fnGeodesicsSpec)

/-- ITS FALSE NEIGHBOUR: 'it returns false'. Refute it at one input. -/
def fnGeodesicsWrong : ChangeSpec := { name := "fnGeodesics", fn := fun _ => fun
  | [d] => { results := [.lit (.bool false)], args := [d] }
  | _ => none }
def FnGeodesicsWrongFalsely : Prop := fnGeodesicsRow.holds Try.pinned (OpenSpec.ofChange fnGeodesicsWrong)

/-- 'laws.FnExactFareyList': WHATEVER THE INPUT: true; the input reads as it did. -/
def fnExactFareyListSpec : ChangeSpec := { name := "fnExactFareyList", fn := fun _ => fun
  | [d] => { results := [.lit (.bool true)], args := [d] }
  | _ => none }
def fnExactFareyListRow : OpenClaim := { program := "ytnjepaboecijcaa", sum := "dbc604e284b68da1da127cca5195ec4060c1d5bd76bd77fd016a0c4834f55641", func := "loop.example/g01297/laws.FnExactFareyList", spec := "fnExactFareyList", unfollowed := true, recurses := true, apart := false }
def FnExactFareyListSaid : Prop := fnExactFareyListRow.holds Try.pinned (OpenSpec.ofChange fnExactFareyListSpec)

/-- ITS FALSE NEIGHBOUR: 'it returns false'. Refute it at one input. -/
def fnExactFareyListWrong : ChangeSpec := { name := "fnExactFareyList", fn := fun _ => fun
  | [d] => { results := [.lit (.bool false)], args := [d] }
  | _ => none }
def FnExactFareyListWrongFalsely : Prop := fnExactFareyListRow.holds Try.pinned (OpenSpec.ofChange fnExactFareyListWrong)

/- THE SECOND FORM. 'bulk': how many values and letters a reading holds, each counted each time it is reached (what is shared counts as often as it is met; a slice's spare places count too). A statement '..UptoSaid' is the law's where the arguments, and the package variables that the reading takes, are together of bulk at most 1048576: NARROWER than '..Said'. Prove '..Said' where nothing that the law and all that it calls make is longer than what came in: it says more and counts as full. Else prove '..UptoSaid'. A law counts once. -/
mutual
def uptoBulk {H : Type} : DataW H → Nat
  | .lit (.string bytes) => bytes.length + 1
  | .lit _ => 1
  | .nil => 1
  | .ptr d => uptoBulk d + 1
  | .slice elems spare => uptoBulkAll elems + uptoBulkAll spare + 1
  | .agg parts => uptoBulkAll parts + 1
  | .iface _ d => uptoBulk d + 1
  | .map entries => uptoBulkEntries entries + 1
  | .held _ => 1
def uptoBulkAll {H : Type} : List (DataW H) → Nat
  | [] => 0
  | d :: r => uptoBulk d + uptoBulkAll r
def uptoBulkEntries {H : Type} : List (Lit × DataW H) → Nat
  | [] => 0
  | x :: r => uptoBulkEntry x + uptoBulkEntries r
def uptoBulkEntry {H : Type} : Lit × DataW H → Nat
  | (.string bytes, d) => bytes.length + uptoBulk d + 1
  | (_, d) => uptoBulk d + 1
 end
def uptoSmall : (H : Type) → List (DataW H) → Bool := fun _ ds => decide (uptoBulkAll ds ≤ 1048576)
def OpenSpec.upto (s : _root_.Go.ChangeSpec) : _root_.Go.OpenSpec := { _root_.Go.OpenSpec.ofChange s with cond := some uptoSmall }

/-- 'laws.FnExactDifferenceOfNeighbours', WHERE WHAT IT READS IS OF BULK AT MOST 1048576: true; the input reads as it did. -/
def fnExactDifferenceOfNeighboursUptoRow : OpenClaim := { program := "ytnjepaboecijcaa", sum := "dbc604e284b68da1da127cca5195ec4060c1d5bd76bd77fd016a0c4834f55641", func := "loop.example/g01297/laws.FnExactDifferenceOfNeighbours", spec := "fnExactDifferenceOfNeighbours", unfollowed := true, recurses := true, apart := false, narrowed := true }
def FnExactDifferenceOfNeighboursUptoSaid : Prop := fnExactDifferenceOfNeighboursUptoRow.holds Try.pinned (OpenSpec.upto fnExactDifferenceOfNeighboursSpec)

/-- 'laws.FnExactSumOfNeighbours', WHERE WHAT IT READS IS OF BULK AT MOST 1048576: true; the input reads as it did. -/
def fnExactSumOfNeighboursUptoRow : OpenClaim := { program := "ytnjepaboecijcaa", sum := "dbc604e284b68da1da127cca5195ec4060c1d5bd76bd77fd016a0c4834f55641", func := "loop.example/g01297/laws.FnExactSumOfNeighbours", spec := "fnExactSumOfNeighbours", unfollowed := true, recurses := true, apart := false, narrowed := true }
def FnExactSumOfNeighboursUptoSaid : Prop := fnExactSumOfNeighboursUptoRow.holds Try.pinned (OpenSpec.upto fnExactSumOfNeighboursSpec)

/-- 'laws.FnExactReflectFraction', WHERE WHAT IT READS IS OF BULK AT MOST 1048576: true; the input reads as it did. -/
def fnExactReflectFractionUptoRow : OpenClaim := { program := "ytnjepaboecijcaa", sum := "dbc604e284b68da1da127cca5195ec4060c1d5bd76bd77fd016a0c4834f55641", func := "loop.example/g01297/laws.FnExactReflectFraction", spec := "fnExactReflectFraction", unfollowed := true, recurses := true, apart := false, narrowed := true }
def FnExactReflectFractionUptoSaid : Prop := fnExactReflectFractionUptoRow.holds Try.pinned (OpenSpec.upto fnExactReflectFractionSpec)

/-- 'laws.FnExactParentsOf', WHERE WHAT IT READS IS OF BULK AT MOST 1048576: true; the input reads as it did. -/
def fnExactParentsOfUptoRow : OpenClaim := { program := "ytnjepaboecijcaa", sum := "dbc604e284b68da1da127cca5195ec4060c1d5bd76bd77fd016a0c4834f55641", func := "loop.example/g01297/laws.FnExactParentsOf", spec := "fnExactParentsOf", unfollowed := true, recurses := true, apart := false, narrowed := true }
def FnExactParentsOfUptoSaid : Prop := fnExactParentsOfUptoRow.holds Try.pinned (OpenSpec.upto fnExactParentsOfSpec)

/-- 'laws.FnExactPathOf', WHERE WHAT IT READS IS OF BULK AT MOST 1048576: true; the input reads as it did. -/
def fnExactPathOfUptoRow : OpenClaim := { program := "ytnjepaboecijcaa", sum := "dbc604e284b68da1da127cca5195ec4060c1d5bd76bd77fd016a0c4834f55641", func := "loop.example/g01297/laws.FnExactPathOf", spec := "fnExactPathOf", inPlace := ["internal/abi.NoEscape"], unfollowed := true, recurses := true, apart := false, narrowed := true }
def FnExactPathOfUptoSaid : Prop := fnExactPathOfUptoRow.holds Try.pinned (OpenSpec.upto fnExactPathOfSpec)

/-- 'laws.FnExactFareyDistance', WHERE WHAT IT READS IS OF BULK AT MOST 1048576: true; the input reads as it did. -/
def fnExactFareyDistanceUptoRow : OpenClaim := { program := "ytnjepaboecijcaa", sum := "dbc604e284b68da1da127cca5195ec4060c1d5bd76bd77fd016a0c4834f55641", func := "loop.example/g01297/laws.FnExactFareyDistance", spec := "fnExactFareyDistance", unfollowed := true, recurses := true, apart := false, narrowed := true }
def FnExactFareyDistanceUptoSaid : Prop := fnExactFareyDistanceUptoRow.holds Try.pinned (OpenSpec.upto fnExactFareyDistanceSpec)

/-- 'laws.FnExactGeodesicOf', WHERE WHAT IT READS IS OF BULK AT MOST 1048576: true; the input reads as it did. -/
def fnExactGeodesicOfUptoRow : OpenClaim := { program := "ytnjepaboecijcaa", sum := "dbc604e284b68da1da127cca5195ec4060c1d5bd76bd77fd016a0c4834f55641", func := "loop.example/g01297/laws.FnExactGeodesicOf", spec := "fnExactGeodesicOf", unfollowed := true, recurses := true, apart := false, narrowed := true }
def FnExactGeodesicOfUptoSaid : Prop := fnExactGeodesicOfUptoRow.holds Try.pinned (OpenSpec.upto fnExactGeodesicOfSpec)

/-- 'laws.FnGeodesics', WHERE WHAT IT READS IS OF BULK AT MOST 1048576: true; the input reads as it did. -/
def fnGeodesicsUptoRow : OpenClaim := { program := "ytnjepaboecijcaa", sum := "dbc604e284b68da1da127cca5195ec4060c1d5bd76bd77fd016a0c4834f55641", func := "loop.example/g01297/laws.FnGeodesics", spec := "fnGeodesics", unfollowed := true, recurses := true, apart := false, narrowed := true }
def FnGeodesicsUptoSaid : Prop := fnGeodesicsUptoRow.holds Try.pinned (OpenSpec.upto fnGeodesicsSpec)

/-- 'laws.FnExactFareyList', WHERE WHAT IT READS IS OF BULK AT MOST 1048576: true; the input reads as it did. -/
def fnExactFareyListUptoRow : OpenClaim := { program := "ytnjepaboecijcaa", sum := "dbc604e284b68da1da127cca5195ec4060c1d5bd76bd77fd016a0c4834f55641", func := "loop.example/g01297/laws.FnExactFareyList", spec := "fnExactFareyList", unfollowed := true, recurses := true, apart := false, narrowed := true }
def FnExactFareyListUptoSaid : Prop := fnExactFareyListUptoRow.holds Try.pinned (OpenSpec.upto fnExactFareyListSpec)

end Rows
end Go.Proofs.Ytnjepaboecijcaa
