/-
  No cell of these rows narrows 'for every input' (looked for: loops, veiled, ifaces, maps, wideKeys, modest, calm, conditions, laid).
  DERIVED. THE GIVEN ROWS OF THIS SEAT. 7 by the template 'for every input the law returns true; each argument reads behind the call as it read before'; 0 by the template 'total and deterministic' (their statements: YtndmkibdcfpddaaTotals.lean).
  GIVEN WITH THE SEED: the statements are not yours to turn. If you find one false, say at which input.
  Laid BY PROGRAM, IN A SANDBOX (cutbox-rows.mjs): the forced cells as the released guide's own fill.sh prints them over the translation c145e1f1e039077a… (all of the seat's roots in one cut). By AI agents, Wed Nov 11 2026. No macro, syntax, notation, axiom, sorry.
-/
import Derived.Test.YtndmkibdcfpddaaChecked
import GoSem.Claim
import GoSem.ClaimJoined
import GoSem.ClaimMapViews
import Derived.JoinedTies
import Derived.KernelRfl
namespace Go.Proofs.Ytndmkibdcfpddaa
/- THE CELL 'sum', in the pinned program and in every row, IS THE sha256 OF THE DUMP (.gsa) THAT YtndmkibdcfpddaaProg.lean LOADS. Nothing in Lean hashes anything: it is a label: what it is worth is what the hold of that sum in a sandbox is worth. -/
noncomputable def Try.pinned : Pinned := { name := "ytndmkibdcfpddaa", sum := "c145e1f1e039077a308e7c472c9effb21442d8dbd00762bc5b03654df2734c19", checked := Try.checked }
namespace Rows
def none {H : Type} : Left H := { results := [], args := [] }

/-- 'laws.FnExactIsInCone': WHATEVER THE INPUT: true; the input reads as it did. -/
def fnExactIsInConeSpec : ChangeSpec := { name := "fnExactIsInCone", fn := fun _ => fun
  | [d1, d2] => { results := [.lit (.bool true)], args := [d1, d2] }
  | _ => none }
def fnExactIsInConeRow : OpenClaim := { program := "ytndmkibdcfpddaa", sum := "c145e1f1e039077a308e7c472c9effb21442d8dbd00762bc5b03654df2734c19", func := "loop.example/g01297/laws.FnExactIsInCone", spec := "fnExactIsInCone", unfollowed := true, recurses := true, plainKeys := false, apart := false }
def FnExactIsInConeSaid : Prop := fnExactIsInConeRow.holds Try.pinned (OpenSpec.ofChange fnExactIsInConeSpec)

/-- ITS FALSE NEIGHBOUR: 'it returns false'. Refute it at one input. -/
def fnExactIsInConeWrong : ChangeSpec := { name := "fnExactIsInCone", fn := fun _ => fun
  | [d1, d2] => { results := [.lit (.bool false)], args := [d1, d2] }
  | _ => none }
def FnExactIsInConeWrongFalsely : Prop := fnExactIsInConeRow.holds Try.pinned (OpenSpec.ofChange fnExactIsInConeWrong)

/-- 'laws.FnExactCoordinatesIn': WHATEVER THE INPUT: true; the input reads as it did. -/
def fnExactCoordinatesInSpec : ChangeSpec := { name := "fnExactCoordinatesIn", fn := fun _ => fun
  | [d1, d2] => { results := [.lit (.bool true)], args := [d1, d2] }
  | _ => none }
def fnExactCoordinatesInRow : OpenClaim := { program := "ytndmkibdcfpddaa", sum := "c145e1f1e039077a308e7c472c9effb21442d8dbd00762bc5b03654df2734c19", func := "loop.example/g01297/laws.FnExactCoordinatesIn", spec := "fnExactCoordinatesIn", unfollowed := true, recurses := true, plainKeys := false, apart := false }
def FnExactCoordinatesInSaid : Prop := fnExactCoordinatesInRow.holds Try.pinned (OpenSpec.ofChange fnExactCoordinatesInSpec)

/-- ITS FALSE NEIGHBOUR: 'it returns false'. Refute it at one input. -/
def fnExactCoordinatesInWrong : ChangeSpec := { name := "fnExactCoordinatesIn", fn := fun _ => fun
  | [d1, d2] => { results := [.lit (.bool false)], args := [d1, d2] }
  | _ => none }
def FnExactCoordinatesInWrongFalsely : Prop := fnExactCoordinatesInRow.holds Try.pinned (OpenSpec.ofChange fnExactCoordinatesInWrong)

/-- 'laws.FnExactCountSpots': WHATEVER THE INPUT: true; the input reads as it did. -/
def fnExactCountSpotsSpec : ChangeSpec := { name := "fnExactCountSpots", fn := fun _ => fun
  | [d] => { results := [.lit (.bool true)], args := [d] }
  | _ => none }
def fnExactCountSpotsRow : OpenClaim := { program := "ytndmkibdcfpddaa", sum := "c145e1f1e039077a308e7c472c9effb21442d8dbd00762bc5b03654df2734c19", func := "loop.example/g01297/laws.FnExactCountSpots", spec := "fnExactCountSpots", unfollowed := true, recurses := true, plainKeys := false, apart := false }
def FnExactCountSpotsSaid : Prop := fnExactCountSpotsRow.holds Try.pinned (OpenSpec.ofChange fnExactCountSpotsSpec)

/-- ITS FALSE NEIGHBOUR: 'it returns false'. Refute it at one input. -/
def fnExactCountSpotsWrong : ChangeSpec := { name := "fnExactCountSpots", fn := fun _ => fun
  | [d] => { results := [.lit (.bool false)], args := [d] }
  | _ => none }
def FnExactCountSpotsWrongFalsely : Prop := fnExactCountSpotsRow.holds Try.pinned (OpenSpec.ofChange fnExactCountSpotsWrong)

/-- 'laws.FnExactIsEmptyTetra': WHATEVER THE INPUT: true; the input reads as it did. -/
def fnExactIsEmptyTetraSpec : ChangeSpec := { name := "fnExactIsEmptyTetra", fn := fun _ => fun
  | [d] => { results := [.lit (.bool true)], args := [d] }
  | _ => none }
def fnExactIsEmptyTetraRow : OpenClaim := { program := "ytndmkibdcfpddaa", sum := "c145e1f1e039077a308e7c472c9effb21442d8dbd00762bc5b03654df2734c19", func := "loop.example/g01297/laws.FnExactIsEmptyTetra", spec := "fnExactIsEmptyTetra", unfollowed := true, recurses := true, plainKeys := false, apart := false }
def FnExactIsEmptyTetraSaid : Prop := fnExactIsEmptyTetraRow.holds Try.pinned (OpenSpec.ofChange fnExactIsEmptyTetraSpec)

/-- ITS FALSE NEIGHBOUR: 'it returns false'. Refute it at one input. -/
def fnExactIsEmptyTetraWrong : ChangeSpec := { name := "fnExactIsEmptyTetra", fn := fun _ => fun
  | [d] => { results := [.lit (.bool false)], args := [d] }
  | _ => none }
def FnExactIsEmptyTetraWrongFalsely : Prop := fnExactIsEmptyTetraRow.holds Try.pinned (OpenSpec.ofChange fnExactIsEmptyTetraWrong)

/-- 'laws.FnTetras': WHATEVER THE INPUT: true; the input reads as it did. -/
def fnTetrasSpec : ChangeSpec := { name := "fnTetras", fn := fun _ => fun
  | [d] => { results := [.lit (.bool true)], args := [d] }
  | _ => none }
def fnTetrasRow : OpenClaim := { program := "ytndmkibdcfpddaa", sum := "c145e1f1e039077a308e7c472c9effb21442d8dbd00762bc5b03654df2734c19", func := "loop.example/g01297/laws.FnTetras", spec := "fnTetras", unfollowed := true, recurses := true, plainKeys := false, apart := false }
def FnTetrasSaid : Prop := fnTetrasRow.holds Try.pinned (OpenSpec.ofChange fnTetrasSpec)

/-- ITS FALSE NEIGHBOUR: 'it returns false'. Refute it at one input. -/
def fnTetrasWrong : ChangeSpec := { name := "fnTetras", fn := fun _ => fun
  | [d] => { results := [.lit (.bool false)], args := [d] }
  | _ => none }
def FnTetrasWrongFalsely : Prop := fnTetrasRow.holds Try.pinned (OpenSpec.ofChange fnTetrasWrong)

/-- 'laws.FnExactBoxOf': WHATEVER THE INPUT: true; the input reads as it did. -/
def fnExactBoxOfSpec : ChangeSpec := { name := "fnExactBoxOf", fn := fun _ => fun
  | [d] => { results := [.lit (.bool true)], args := [d] }
  | _ => none }
def fnExactBoxOfRow : OpenClaim := { program := "ytndmkibdcfpddaa", sum := "c145e1f1e039077a308e7c472c9effb21442d8dbd00762bc5b03654df2734c19", func := "loop.example/g01297/laws.FnExactBoxOf", spec := "fnExactBoxOf", unfollowed := true, recurses := true, plainKeys := false, apart := false }
def FnExactBoxOfSaid : Prop := fnExactBoxOfRow.holds Try.pinned (OpenSpec.ofChange fnExactBoxOfSpec)

/-- ITS FALSE NEIGHBOUR: 'it returns false'. Refute it at one input. -/
def fnExactBoxOfWrong : ChangeSpec := { name := "fnExactBoxOf", fn := fun _ => fun
  | [d] => { results := [.lit (.bool false)], args := [d] }
  | _ => none }
def FnExactBoxOfWrongFalsely : Prop := fnExactBoxOfRow.holds Try.pinned (OpenSpec.ofChange fnExactBoxOfWrong)

/-- 'laws.FnExactHilbertBasis': WHATEVER THE INPUT: true; the input reads as it did. -/
def fnExactHilbertBasisSpec : ChangeSpec := { name := "fnExactHilbertBasis", fn := fun _ => fun
  | [d] => { results := [.lit (.bool true)], args := [d] }
  | _ => none }
def fnExactHilbertBasisRow : OpenClaim := { program := "ytndmkibdcfpddaa", sum := "c145e1f1e039077a308e7c472c9effb21442d8dbd00762bc5b03654df2734c19", func := "loop.example/g01297/laws.FnExactHilbertBasis", spec := "fnExactHilbertBasis", unfollowed := true, recurses := true, plainKeys := false, apart := false }
def FnExactHilbertBasisSaid : Prop := fnExactHilbertBasisRow.holds Try.pinned (OpenSpec.ofChange fnExactHilbertBasisSpec)

/-- ITS FALSE NEIGHBOUR: 'it returns false'. Refute it at one input. -/
def fnExactHilbertBasisWrong : ChangeSpec := { name := "fnExactHilbertBasis", fn := fun _ => fun
  | [d] => { results := [.lit (.bool false)], args := [d] }
  | _ => none }
def FnExactHilbertBasisWrongFalsely : Prop := fnExactHilbertBasisRow.holds Try.pinned (OpenSpec.ofChange fnExactHilbertBasisWrong)

/- THE SECOND FORM. 'bulk': how many values and letters a reading holds, each counted each time it is reached (what is shared counts as often as it is met; a slice's spare places count too). A statement '..UptoSaid' is the law's where the arguments, and the package variables that the reading takes, are together of bulk at most 1048576: NARROWER than '..Said'. Prove '..Said' where nothing that the law and all that it calls make is longer than what came in: it says more and counts as full. Else prove '..UptoSaid'. A law counts once. -/
mutual
def uptoBulk {H : Type} : DataW H → Nat
  | .lit (.string bytes) => bytes.length + 1
  | .lit _ => 1
  | .nil => 1
  | .ptr d => uptoBulk d + 1
  | .slice elems spare => uptoBulkAll elems + uptoBulkAll spare + 1
  | .agg parts => uptoBulkAll parts + 1
  | .iface _ d => uptoBulk d + 1
  | .map entries => uptoBulkEntries entries + 1
  | .held _ => 1
def uptoBulkAll {H : Type} : List (DataW H) → Nat
  | [] => 0
  | d :: r => uptoBulk d + uptoBulkAll r
def uptoBulkEntries {H : Type} : List (Lit × DataW H) → Nat
  | [] => 0
  | x :: r => uptoBulkEntry x + uptoBulkEntries r
def uptoBulkEntry {H : Type} : Lit × DataW H → Nat
  | (.string bytes, d) => bytes.length + uptoBulk d + 1
  | (_, d) => uptoBulk d + 1
 end
def uptoSmall : (H : Type) → List (DataW H) → Bool := fun _ ds => decide (uptoBulkAll ds ≤ 1048576)
def OpenSpec.upto (s : _root_.Go.ChangeSpec) : _root_.Go.OpenSpec := { _root_.Go.OpenSpec.ofChange s with cond := some uptoSmall }

/-- 'laws.FnExactIsInCone', WHERE WHAT IT READS IS OF BULK AT MOST 1048576: true; the input reads as it did. -/
def fnExactIsInConeUptoRow : OpenClaim := { program := "ytndmkibdcfpddaa", sum := "c145e1f1e039077a308e7c472c9effb21442d8dbd00762bc5b03654df2734c19", func := "loop.example/g01297/laws.FnExactIsInCone", spec := "fnExactIsInCone", unfollowed := true, recurses := true, plainKeys := false, apart := false, narrowed := true }
def FnExactIsInConeUptoSaid : Prop := fnExactIsInConeUptoRow.holds Try.pinned (OpenSpec.upto fnExactIsInConeSpec)

/-- 'laws.FnExactCoordinatesIn', WHERE WHAT IT READS IS OF BULK AT MOST 1048576: true; the input reads as it did. -/
def fnExactCoordinatesInUptoRow : OpenClaim := { program := "ytndmkibdcfpddaa", sum := "c145e1f1e039077a308e7c472c9effb21442d8dbd00762bc5b03654df2734c19", func := "loop.example/g01297/laws.FnExactCoordinatesIn", spec := "fnExactCoordinatesIn", unfollowed := true, recurses := true, plainKeys := false, apart := false, narrowed := true }
def FnExactCoordinatesInUptoSaid : Prop := fnExactCoordinatesInUptoRow.holds Try.pinned (OpenSpec.upto fnExactCoordinatesInSpec)

/-- 'laws.FnExactCountSpots', WHERE WHAT IT READS IS OF BULK AT MOST 1048576: true; the input reads as it did. -/
def fnExactCountSpotsUptoRow : OpenClaim := { program := "ytndmkibdcfpddaa", sum := "c145e1f1e039077a308e7c472c9effb21442d8dbd00762bc5b03654df2734c19", func := "loop.example/g01297/laws.FnExactCountSpots", spec := "fnExactCountSpots", unfollowed := true, recurses := true, plainKeys := false, apart := false, narrowed := true }
def FnExactCountSpotsUptoSaid : Prop := fnExactCountSpotsUptoRow.holds Try.pinned (OpenSpec.upto fnExactCountSpotsSpec)

/-- 'laws.FnExactIsEmptyTetra', WHERE WHAT IT READS IS OF BULK AT MOST 1048576: true; the input reads as it did. -/
def fnExactIsEmptyTetraUptoRow : OpenClaim := { program := "ytndmkibdcfpddaa", sum := "c145e1f1e039077a308e7c472c9effb21442d8dbd00762bc5b03654df2734c19", func := "loop.example/g01297/laws.FnExactIsEmptyTetra", spec := "fnExactIsEmptyTetra", unfollowed := true, recurses := true, plainKeys := false, apart := false, narrowed := true }
def FnExactIsEmptyTetraUptoSaid : Prop := fnExactIsEmptyTetraUptoRow.holds Try.pinned (OpenSpec.upto fnExactIsEmptyTetraSpec)

/-- 'laws.FnTetras', WHERE WHAT IT READS IS OF BULK AT MOST 1048576: true; the input reads as it did. -/
def fnTetrasUptoRow : OpenClaim := { program := "ytndmkibdcfpddaa", sum := "c145e1f1e039077a308e7c472c9effb21442d8dbd00762bc5b03654df2734c19", func := "loop.example/g01297/laws.FnTetras", spec := "fnTetras", unfollowed := true, recurses := true, plainKeys := false, apart := false, narrowed := true }
def FnTetrasUptoSaid : Prop := fnTetrasUptoRow.holds Try.pinned (OpenSpec.upto fnTetrasSpec)

/-- 'laws.FnExactBoxOf', WHERE WHAT IT READS IS OF BULK AT MOST 1048576: true; the input reads as it did. -/
def fnExactBoxOfUptoRow : OpenClaim := { program := "ytndmkibdcfpddaa", sum := "c145e1f1e039077a308e7c472c9effb21442d8dbd00762bc5b03654df2734c19", func := "loop.example/g01297/laws.FnExactBoxOf", spec := "fnExactBoxOf", unfollowed := true, recurses := true, plainKeys := false, apart := false, narrowed := true }
def FnExactBoxOfUptoSaid : Prop := fnExactBoxOfUptoRow.holds Try.pinned (OpenSpec.upto fnExactBoxOfSpec)

/-- 'laws.FnExactHilbertBasis', WHERE WHAT IT READS IS OF BULK AT MOST 1048576: true; the input reads as it did. -/
def fnExactHilbertBasisUptoRow : OpenClaim := { program := "ytndmkibdcfpddaa", sum := "c145e1f1e039077a308e7c472c9effb21442d8dbd00762bc5b03654df2734c19", func := "loop.example/g01297/laws.FnExactHilbertBasis", spec := "fnExactHilbertBasis", unfollowed := true, recurses := true, plainKeys := false, apart := false, narrowed := true }
def FnExactHilbertBasisUptoSaid : Prop := fnExactHilbertBasisUptoRow.holds Try.pinned (OpenSpec.upto fnExactHilbertBasisSpec)

end Rows
end Go.Proofs.Ytndmkibdcfpddaa
