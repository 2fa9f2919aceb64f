/-
  No cell of these rows narrows 'for every input' (looked for: loops, veiled, ifaces, maps, wideKeys, modest, calm, conditions, laid).
  DERIVED. THE GIVEN ROWS OF THIS SEAT. 5 by the template 'for every input the law returns true; each argument reads behind the call as it read before'; 0 by the template 'total and deterministic' (their statements: YtlkbfpklhncfbaaTotals.lean).
  GIVEN WITH THE SEED: the statements are not yours to turn. If you find one false, say at which input.
  Laid BY PROGRAM, IN A SANDBOX (cutbox-rows.mjs): the forced cells as the released guide's own fill.sh prints them over the translation 14e6f26024e43a9e… (all of the seat's roots in one cut). By AI agents, Wed Nov 11 2026. No macro, syntax, notation, axiom, sorry.
-/
import Derived.Test.YtlkbfpklhncfbaaChecked
import GoSem.Claim
import GoSem.ClaimJoined
import GoSem.ClaimMapViews
import Derived.JoinedTies
import Derived.KernelRfl
namespace Go.Proofs.Ytlkbfpklhncfbaa
/- THE CELL 'sum', in the pinned program and in every row, IS THE sha256 OF THE DUMP (.gsa) THAT YtlkbfpklhncfbaaProg.lean LOADS. Nothing in Lean hashes anything: it is a label: what it is worth is what the hold of that sum in a sandbox is worth. -/
noncomputable def Try.pinned : Pinned := { name := "ytlkbfpklhncfbaa", sum := "14e6f26024e43a9e6fa349b1bba074105fa5ded17e73313ed014e17cf9f878ee", checked := Try.checked }
namespace Rows
def none {H : Type} : Left H := { results := [], args := [] }

/-- 'laws.FnExactIsPolygon': WHATEVER THE INPUT: true; the input reads as it did. -/
def fnExactIsPolygonSpec : ChangeSpec := { name := "fnExactIsPolygon", fn := fun _ => fun
  | [d] => { results := [.lit (.bool true)], args := [d] }
  | _ => none }
def fnExactIsPolygonRow : OpenClaim := { program := "ytlkbfpklhncfbaa", sum := "14e6f26024e43a9e6fa349b1bba074105fa5ded17e73313ed014e17cf9f878ee", func := "loop.example/g01297/laws.FnExactIsPolygon", spec := "fnExactIsPolygon", unfollowed := true, recurses := true, apart := false }
def FnExactIsPolygonSaid : Prop := fnExactIsPolygonRow.holds Try.pinned (OpenSpec.ofChange fnExactIsPolygonSpec)

/-- ITS FALSE NEIGHBOUR: 'it returns false'. Refute it at one input. -/
def fnExactIsPolygonWrong : ChangeSpec := { name := "fnExactIsPolygon", fn := fun _ => fun
  | [d] => { results := [.lit (.bool false)], args := [d] }
  | _ => none }
def FnExactIsPolygonWrongFalsely : Prop := fnExactIsPolygonRow.holds Try.pinned (OpenSpec.ofChange fnExactIsPolygonWrong)

/-- 'laws.FnExactConvergentsOf': WHATEVER THE INPUT: true; the input reads as it did. -/
def fnExactConvergentsOfSpec : ChangeSpec := { name := "fnExactConvergentsOf", fn := fun _ => fun
  | [d1, d2] => { results := [.lit (.bool true)], args := [d1, d2] }
  | _ => none }
def fnExactConvergentsOfRow : OpenClaim := { program := "ytlkbfpklhncfbaa", sum := "14e6f26024e43a9e6fa349b1bba074105fa5ded17e73313ed014e17cf9f878ee", func := "loop.example/g01297/laws.FnExactConvergentsOf", spec := "fnExactConvergentsOf", apart := false }
def FnExactConvergentsOfSaid : Prop := fnExactConvergentsOfRow.holds Try.pinned (OpenSpec.ofChange fnExactConvergentsOfSpec)

/-- ITS FALSE NEIGHBOUR: 'it returns false'. Refute it at one input. -/
def fnExactConvergentsOfWrong : ChangeSpec := { name := "fnExactConvergentsOf", fn := fun _ => fun
  | [d1, d2] => { results := [.lit (.bool false)], args := [d1, d2] }
  | _ => none }
def FnExactConvergentsOfWrongFalsely : Prop := fnExactConvergentsOfRow.holds Try.pinned (OpenSpec.ofChange fnExactConvergentsOfWrong)

/-- 'laws.FnExactExpansionOfCorner': WHATEVER THE INPUT: true; the input reads as it did. -/
def fnExactExpansionOfCornerSpec : ChangeSpec := { name := "fnExactExpansionOfCorner", fn := fun _ => fun
  | [d] => { results := [.lit (.bool true)], args := [d] }
  | _ => none }
def fnExactExpansionOfCornerRow : OpenClaim := { program := "ytlkbfpklhncfbaa", sum := "14e6f26024e43a9e6fa349b1bba074105fa5ded17e73313ed014e17cf9f878ee", func := "loop.example/g01297/laws.FnExactExpansionOfCorner", spec := "fnExactExpansionOfCorner", unfollowed := true, recurses := true, apart := false }
def FnExactExpansionOfCornerSaid : Prop := fnExactExpansionOfCornerRow.holds Try.pinned (OpenSpec.ofChange fnExactExpansionOfCornerSpec)

/-- ITS FALSE NEIGHBOUR: 'it returns false'. Refute it at one input. -/
def fnExactExpansionOfCornerWrong : ChangeSpec := { name := "fnExactExpansionOfCorner", fn := fun _ => fun
  | [d] => { results := [.lit (.bool false)], args := [d] }
  | _ => none }
def FnExactExpansionOfCornerWrongFalsely : Prop := fnExactExpansionOfCornerRow.holds Try.pinned (OpenSpec.ofChange fnExactExpansionOfCornerWrong)

/-- 'laws.FnExactSumOfCorners': WHATEVER THE INPUT: true; the input reads as it did. -/
def fnExactSumOfCornersSpec : ChangeSpec := { name := "fnExactSumOfCorners", fn := fun _ => fun
  | [d1, d2, d3] => { results := [.lit (.bool true)], args := [d1, d2, d3] }
  | _ => none }
def fnExactSumOfCornersRow : OpenClaim := { program := "ytlkbfpklhncfbaa", sum := "14e6f26024e43a9e6fa349b1bba074105fa5ded17e73313ed014e17cf9f878ee", func := "loop.example/g01297/laws.FnExactSumOfCorners", spec := "fnExactSumOfCorners", unfollowed := true, recurses := true, apart := false }
def FnExactSumOfCornersSaid : Prop := fnExactSumOfCornersRow.holds Try.pinned (OpenSpec.ofChange fnExactSumOfCornersSpec)

/-- ITS FALSE NEIGHBOUR: 'it returns false'. Refute it at one input. -/
def fnExactSumOfCornersWrong : ChangeSpec := { name := "fnExactSumOfCorners", fn := fun _ => fun
  | [d1, d2, d3] => { results := [.lit (.bool false)], args := [d1, d2, d3] }
  | _ => none }
def FnExactSumOfCornersWrongFalsely : Prop := fnExactSumOfCornersRow.holds Try.pinned (OpenSpec.ofChange fnExactSumOfCornersWrong)

/-- 'laws.FnCornerLists': WHATEVER THE INPUT: true; the input reads as it did. -/
def fnCornerListsSpec : ChangeSpec := { name := "fnCornerLists", fn := fun _ => fun
  | [d] => { results := [.lit (.bool true)], args := [d] }
  | _ => none }
def fnCornerListsRow : OpenClaim := { program := "ytlkbfpklhncfbaa", sum := "14e6f26024e43a9e6fa349b1bba074105fa5ded17e73313ed014e17cf9f878ee", func := "loop.example/g01297/laws.FnCornerLists", spec := "fnCornerLists", unfollowed := true, recurses := true, apart := false }
def FnCornerListsSaid : Prop := fnCornerListsRow.holds Try.pinned (OpenSpec.ofChange fnCornerListsSpec)

/-- ITS FALSE NEIGHBOUR: 'it returns false'. Refute it at one input. -/
def fnCornerListsWrong : ChangeSpec := { name := "fnCornerLists", fn := fun _ => fun
  | [d] => { results := [.lit (.bool false)], args := [d] }
  | _ => none }
def FnCornerListsWrongFalsely : Prop := fnCornerListsRow.holds Try.pinned (OpenSpec.ofChange fnCornerListsWrong)

/- THE SECOND FORM. 'bulk': how many values and letters a reading holds, each counted each time it is reached (what is shared counts as often as it is met; a slice's spare places count too). A statement '..UptoSaid' is the law's where the arguments, and the package variables that the reading takes, are together of bulk at most 1048576: NARROWER than '..Said'. Prove '..Said' where nothing that the law and all that it calls make is longer than what came in: it says more and counts as full. Else prove '..UptoSaid'. A law counts once. -/
mutual
def uptoBulk {H : Type} : DataW H → Nat
  | .lit (.string bytes) => bytes.length + 1
  | .lit _ => 1
  | .nil => 1
  | .ptr d => uptoBulk d + 1
  | .slice elems spare => uptoBulkAll elems + uptoBulkAll spare + 1
  | .agg parts => uptoBulkAll parts + 1
  | .iface _ d => uptoBulk d + 1
  | .map entries => uptoBulkEntries entries + 1
  | .held _ => 1
def uptoBulkAll {H : Type} : List (DataW H) → Nat
  | [] => 0
  | d :: r => uptoBulk d + uptoBulkAll r
def uptoBulkEntries {H : Type} : List (Lit × DataW H) → Nat
  | [] => 0
  | x :: r => uptoBulkEntry x + uptoBulkEntries r
def uptoBulkEntry {H : Type} : Lit × DataW H → Nat
  | (.string bytes, d) => bytes.length + uptoBulk d + 1
  | (_, d) => uptoBulk d + 1
 end
def uptoSmall : (H : Type) → List (DataW H) → Bool := fun _ ds => decide (uptoBulkAll ds ≤ 1048576)
def OpenSpec.upto (s : _root_.Go.ChangeSpec) : _root_.Go.OpenSpec := { _root_.Go.OpenSpec.ofChange s with cond := some uptoSmall }

/-- 'laws.FnExactIsPolygon', WHERE WHAT IT READS IS OF BULK AT MOST 1048576: true; the input reads as it did. -/
def fnExactIsPolygonUptoRow : OpenClaim := { program := "ytlkbfpklhncfbaa", sum := "14e6f26024e43a9e6fa349b1bba074105fa5ded17e73313ed014e17cf9f878ee", func := "loop.example/g01297/laws.FnExactIsPolygon", spec := "fnExactIsPolygon", unfollowed := true, recurses := true, apart := false, narrowed := true }
def FnExactIsPolygonUptoSaid : Prop := fnExactIsPolygonUptoRow.holds Try.pinned (OpenSpec.upto fnExactIsPolygonSpec)

/-- 'laws.FnExactConvergentsOf', WHERE WHAT IT READS IS OF BULK AT MOST 1048576: true; the input reads as it did. -/
def fnExactConvergentsOfUptoRow : OpenClaim := { program := "ytlkbfpklhncfbaa", sum := "14e6f26024e43a9e6fa349b1bba074105fa5ded17e73313ed014e17cf9f878ee", func := "loop.example/g01297/laws.FnExactConvergentsOf", spec := "fnExactConvergentsOf", apart := false, narrowed := true }
def FnExactConvergentsOfUptoSaid : Prop := fnExactConvergentsOfUptoRow.holds Try.pinned (OpenSpec.upto fnExactConvergentsOfSpec)

/-- 'laws.FnExactExpansionOfCorner', WHERE WHAT IT READS IS OF BULK AT MOST 1048576: true; the input reads as it did. -/
def fnExactExpansionOfCornerUptoRow : OpenClaim := { program := "ytlkbfpklhncfbaa", sum := "14e6f26024e43a9e6fa349b1bba074105fa5ded17e73313ed014e17cf9f878ee", func := "loop.example/g01297/laws.FnExactExpansionOfCorner", spec := "fnExactExpansionOfCorner", unfollowed := true, recurses := true, apart := false, narrowed := true }
def FnExactExpansionOfCornerUptoSaid : Prop := fnExactExpansionOfCornerUptoRow.holds Try.pinned (OpenSpec.upto fnExactExpansionOfCornerSpec)

/-- 'laws.FnExactSumOfCorners', WHERE WHAT IT READS IS OF BULK AT MOST 1048576: true; the input reads as it did. -/
def fnExactSumOfCornersUptoRow : OpenClaim := { program := "ytlkbfpklhncfbaa", sum := "14e6f26024e43a9e6fa349b1bba074105fa5ded17e73313ed014e17cf9f878ee", func := "loop.example/g01297/laws.FnExactSumOfCorners", spec := "fnExactSumOfCorners", unfollowed := true, recurses := true, apart := false, narrowed := true }
def FnExactSumOfCornersUptoSaid : Prop := fnExactSumOfCornersUptoRow.holds Try.pinned (OpenSpec.upto fnExactSumOfCornersSpec)

/-- 'laws.FnCornerLists', WHERE WHAT IT READS IS OF BULK AT MOST 1048576: true; the input reads as it did. -/
def fnCornerListsUptoRow : OpenClaim := { program := "ytlkbfpklhncfbaa", sum := "14e6f26024e43a9e6fa349b1bba074105fa5ded17e73313ed014e17cf9f878ee", func := "loop.example/g01297/laws.FnCornerLists", spec := "fnCornerLists", unfollowed := true, recurses := true, apart := false, narrowed := true }
def FnCornerListsUptoSaid : Prop := fnCornerListsUptoRow.holds Try.pinned (OpenSpec.upto fnCornerListsSpec)

end Rows
end Go.Proofs.Ytlkbfpklhncfbaa
