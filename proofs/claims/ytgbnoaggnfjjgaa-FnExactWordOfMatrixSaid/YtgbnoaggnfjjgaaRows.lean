/-
  No cell of these rows narrows 'for every input' (looked for: loops, veiled, ifaces, maps, wideKeys, modest, calm, conditions, laid).
  DERIVED. THE GIVEN ROWS OF THIS SEAT. 10 by the template 'for every input the law returns true; each argument reads behind the call as it read before'; 0 by the template 'total and deterministic' (their statements: YtgbnoaggnfjjgaaTotals.lean).
  GIVEN WITH THE SEED: the statements are not yours to turn. If you find one false, say at which input.
  Laid BY PROGRAM, IN A SANDBOX (cutbox-rows.mjs): the forced cells as the released guide's own fill.sh prints them over the translation 1d7b9234d062d9f5… (all of the seat's roots in one cut). By AI agents, Wed Nov 11 2026. No macro, syntax, notation, axiom, sorry.
-/
import Derived.Test.YtgbnoaggnfjjgaaChecked
import GoSem.Claim
import GoSem.ClaimJoined
import GoSem.ClaimMapViews
import Derived.JoinedTies
import Derived.KernelRfl
namespace Go.Proofs.Ytgbnoaggnfjjgaa
/- THE CELL 'sum', in the pinned program and in every row, IS THE sha256 OF THE DUMP (.gsa) THAT YtgbnoaggnfjjgaaProg.lean LOADS. Nothing in Lean hashes anything: it is a label: what it is worth is what the hold of that sum in a sandbox is worth. -/
noncomputable def Try.pinned : Pinned := { name := "ytgbnoaggnfjjgaa", sum := "1d7b9234d062d9f5732c8581514c5525dca9350fef08fd881d9770c4434523ae", checked := Try.checked }
namespace Rows
def none {H : Type} : Left H := { results := [], args := [] }

/-- 'laws.FnExactFormOfMatrix': WHATEVER THE INPUT: true; the input reads as it did. -/
def fnExactFormOfMatrixSpec : ChangeSpec := { name := "fnExactFormOfMatrix", fn := fun _ => fun
  | [d] => { results := [.lit (.bool true)], args := [d] }
  | _ => none }
def fnExactFormOfMatrixRow : OpenClaim := { program := "ytgbnoaggnfjjgaa", sum := "1d7b9234d062d9f5732c8581514c5525dca9350fef08fd881d9770c4434523ae", func := "loop.example/g01297/laws.FnExactFormOfMatrix", spec := "fnExactFormOfMatrix", unfollowed := true, recurses := true, apart := false }
def FnExactFormOfMatrixSaid : Prop := fnExactFormOfMatrixRow.holds Try.pinned (OpenSpec.ofChange fnExactFormOfMatrixSpec)

/-- ITS FALSE NEIGHBOUR: 'it returns false'. Refute it at one input. -/
def fnExactFormOfMatrixWrong : ChangeSpec := { name := "fnExactFormOfMatrix", fn := fun _ => fun
  | [d] => { results := [.lit (.bool false)], args := [d] }
  | _ => none }
def FnExactFormOfMatrixWrongFalsely : Prop := fnExactFormOfMatrixRow.holds Try.pinned (OpenSpec.ofChange fnExactFormOfMatrixWrong)

/-- 'laws.FnExactConjugateMatrix': WHATEVER THE INPUT: true; the input reads as it did. -/
def fnExactConjugateMatrixSpec : ChangeSpec := { name := "fnExactConjugateMatrix", fn := fun _ => fun
  | [d1, d2] => { results := [.lit (.bool true)], args := [d1, d2] }
  | _ => none }
def fnExactConjugateMatrixRow : OpenClaim := { program := "ytgbnoaggnfjjgaa", sum := "1d7b9234d062d9f5732c8581514c5525dca9350fef08fd881d9770c4434523ae", func := "loop.example/g01297/laws.FnExactConjugateMatrix", spec := "fnExactConjugateMatrix", unfollowed := true, recurses := true, apart := false }
def FnExactConjugateMatrixSaid : Prop := fnExactConjugateMatrixRow.holds Try.pinned (OpenSpec.ofChange fnExactConjugateMatrixSpec)

/-- ITS FALSE NEIGHBOUR: 'it returns false'. Refute it at one input. -/
def fnExactConjugateMatrixWrong : ChangeSpec := { name := "fnExactConjugateMatrix", fn := fun _ => fun
  | [d1, d2] => { results := [.lit (.bool false)], args := [d1, d2] }
  | _ => none }
def FnExactConjugateMatrixWrongFalsely : Prop := fnExactConjugateMatrixRow.holds Try.pinned (OpenSpec.ofChange fnExactConjugateMatrixWrong)

/-- 'laws.FnExactWordOfMatrix': WHATEVER THE INPUT: true; the input reads as it did. -/
def fnExactWordOfMatrixSpec : ChangeSpec := { name := "fnExactWordOfMatrix", fn := fun _ => fun
  | [d] => { results := [.lit (.bool true)], args := [d] }
  | _ => none }
def fnExactWordOfMatrixRow : OpenClaim := { program := "ytgbnoaggnfjjgaa", sum := "1d7b9234d062d9f5732c8581514c5525dca9350fef08fd881d9770c4434523ae", func := "loop.example/g01297/laws.FnExactWordOfMatrix", spec := "fnExactWordOfMatrix", inPlace := ["internal/abi.NoEscape"], unfollowed := true, recurses := true, apart := false }
def FnExactWordOfMatrixSaid : Prop := fnExactWordOfMatrixRow.holds Try.pinned (OpenSpec.ofChange fnExactWordOfMatrixSpec)

/-- ITS FALSE NEIGHBOUR: 'it returns false'. Refute it at one input. -/
def fnExactWordOfMatrixWrong : ChangeSpec := { name := "fnExactWordOfMatrix", fn := fun _ => fun
  | [d] => { results := [.lit (.bool false)], args := [d] }
  | _ => none }
def FnExactWordOfMatrixWrongFalsely : Prop := fnExactWordOfMatrixRow.holds Try.pinned (OpenSpec.ofChange fnExactWordOfMatrixWrong)

/-- 'laws.FnExactApplyToFraction': WHATEVER THE INPUT: true; the input reads as it did. -/
def fnExactApplyToFractionSpec : ChangeSpec := { name := "fnExactApplyToFraction", fn := fun _ => fun
  | [d1, d2] => { results := [.lit (.bool true)], args := [d1, d2] }
  | _ => none }
def fnExactApplyToFractionRow : OpenClaim := { program := "ytgbnoaggnfjjgaa", sum := "1d7b9234d062d9f5732c8581514c5525dca9350fef08fd881d9770c4434523ae", func := "loop.example/g01297/laws.FnExactApplyToFraction", spec := "fnExactApplyToFraction", unfollowed := true, recurses := true, apart := false }
def FnExactApplyToFractionSaid : Prop := fnExactApplyToFractionRow.holds Try.pinned (OpenSpec.ofChange fnExactApplyToFractionSpec)

/-- ITS FALSE NEIGHBOUR: 'it returns false'. Refute it at one input. -/
def fnExactApplyToFractionWrong : ChangeSpec := { name := "fnExactApplyToFraction", fn := fun _ => fun
  | [d1, d2] => { results := [.lit (.bool false)], args := [d1, d2] }
  | _ => none }
def FnExactApplyToFractionWrongFalsely : Prop := fnExactApplyToFractionRow.holds Try.pinned (OpenSpec.ofChange fnExactApplyToFractionWrong)

/-- 'laws.FnExactAreEqualCorners': WHATEVER THE INPUT: true; the input reads as it did. -/
def fnExactAreEqualCornersSpec : ChangeSpec := { name := "fnExactAreEqualCorners", fn := fun _ => fun
  | [d1, d2] => { results := [.lit (.bool true)], args := [d1, d2] }
  | _ => none }
def fnExactAreEqualCornersRow : OpenClaim := { program := "ytgbnoaggnfjjgaa", sum := "1d7b9234d062d9f5732c8581514c5525dca9350fef08fd881d9770c4434523ae", func := "loop.example/g01297/laws.FnExactAreEqualCorners", spec := "fnExactAreEqualCorners", unfollowed := true, recurses := true, apart := false }
def FnExactAreEqualCornersSaid : Prop := fnExactAreEqualCornersRow.holds Try.pinned (OpenSpec.ofChange fnExactAreEqualCornersSpec)

/-- ITS FALSE NEIGHBOUR: 'it returns false'. Refute it at one input. -/
def fnExactAreEqualCornersWrong : ChangeSpec := { name := "fnExactAreEqualCorners", fn := fun _ => fun
  | [d1, d2] => { results := [.lit (.bool false)], args := [d1, d2] }
  | _ => none }
def FnExactAreEqualCornersWrongFalsely : Prop := fnExactAreEqualCornersRow.holds Try.pinned (OpenSpec.ofChange fnExactAreEqualCornersWrong)

/-- 'laws.FnExactMoveCorner': WHATEVER THE INPUT: true; the input reads as it did. -/
def fnExactMoveCornerSpec : ChangeSpec := { name := "fnExactMoveCorner", fn := fun _ => fun
  | [d1, d2] => { results := [.lit (.bool true)], args := [d1, d2] }
  | _ => none }
def fnExactMoveCornerRow : OpenClaim := { program := "ytgbnoaggnfjjgaa", sum := "1d7b9234d062d9f5732c8581514c5525dca9350fef08fd881d9770c4434523ae", func := "loop.example/g01297/laws.FnExactMoveCorner", spec := "fnExactMoveCorner", unfollowed := true, recurses := true, apart := false }
def FnExactMoveCornerSaid : Prop := fnExactMoveCornerRow.holds Try.pinned (OpenSpec.ofChange fnExactMoveCornerSpec)

/-- ITS FALSE NEIGHBOUR: 'it returns false'. Refute it at one input. -/
def fnExactMoveCornerWrong : ChangeSpec := { name := "fnExactMoveCorner", fn := fun _ => fun
  | [d1, d2] => { results := [.lit (.bool false)], args := [d1, d2] }
  | _ => none }
def FnExactMoveCornerWrongFalsely : Prop := fnExactMoveCornerRow.holds Try.pinned (OpenSpec.ofChange fnExactMoveCornerWrong)

/-- 'laws.FnExactIsRightCorner': WHATEVER THE INPUT: true; the input reads as it did. -/
def fnExactIsRightCornerSpec : ChangeSpec := { name := "fnExactIsRightCorner", fn := fun _ => fun
  | [d] => { results := [.lit (.bool true)], args := [d] }
  | _ => none }
def fnExactIsRightCornerRow : OpenClaim := { program := "ytgbnoaggnfjjgaa", sum := "1d7b9234d062d9f5732c8581514c5525dca9350fef08fd881d9770c4434523ae", func := "loop.example/g01297/laws.FnExactIsRightCorner", spec := "fnExactIsRightCorner", unfollowed := true, recurses := true, apart := false }
def FnExactIsRightCornerSaid : Prop := fnExactIsRightCornerRow.holds Try.pinned (OpenSpec.ofChange fnExactIsRightCornerSpec)

/-- ITS FALSE NEIGHBOUR: 'it returns false'. Refute it at one input. -/
def fnExactIsRightCornerWrong : ChangeSpec := { name := "fnExactIsRightCorner", fn := fun _ => fun
  | [d] => { results := [.lit (.bool false)], args := [d] }
  | _ => none }
def FnExactIsRightCornerWrongFalsely : Prop := fnExactIsRightCornerRow.holds Try.pinned (OpenSpec.ofChange fnExactIsRightCornerWrong)

/-- 'laws.FnExactCosineOf': WHATEVER THE INPUT: true; the input reads as it did. -/
def fnExactCosineOfSpec : ChangeSpec := { name := "fnExactCosineOf", fn := fun _ => fun
  | [d] => { results := [.lit (.bool true)], args := [d] }
  | _ => none }
def fnExactCosineOfRow : OpenClaim := { program := "ytgbnoaggnfjjgaa", sum := "1d7b9234d062d9f5732c8581514c5525dca9350fef08fd881d9770c4434523ae", func := "loop.example/g01297/laws.FnExactCosineOf", spec := "fnExactCosineOf", unfollowed := true, recurses := true, apart := false }
def FnExactCosineOfSaid : Prop := fnExactCosineOfRow.holds Try.pinned (OpenSpec.ofChange fnExactCosineOfSpec)

/-- ITS FALSE NEIGHBOUR: 'it returns false'. Refute it at one input. -/
def fnExactCosineOfWrong : ChangeSpec := { name := "fnExactCosineOf", fn := fun _ => fun
  | [d] => { results := [.lit (.bool false)], args := [d] }
  | _ => none }
def FnExactCosineOfWrongFalsely : Prop := fnExactCosineOfRow.holds Try.pinned (OpenSpec.ofChange fnExactCosineOfWrong)

/-- 'laws.FnExactNormalCorner': WHATEVER THE INPUT: true; the input reads as it did. -/
def fnExactNormalCornerSpec : ChangeSpec := { name := "fnExactNormalCorner", fn := fun _ => fun
  | [d] => { results := [.lit (.bool true)], args := [d] }
  | _ => none }
def fnExactNormalCornerRow : OpenClaim := { program := "ytgbnoaggnfjjgaa", sum := "1d7b9234d062d9f5732c8581514c5525dca9350fef08fd881d9770c4434523ae", func := "loop.example/g01297/laws.FnExactNormalCorner", spec := "fnExactNormalCorner", unfollowed := true, recurses := true, apart := false }
def FnExactNormalCornerSaid : Prop := fnExactNormalCornerRow.holds Try.pinned (OpenSpec.ofChange fnExactNormalCornerSpec)

/-- ITS FALSE NEIGHBOUR: 'it returns false'. Refute it at one input. -/
def fnExactNormalCornerWrong : ChangeSpec := { name := "fnExactNormalCorner", fn := fun _ => fun
  | [d] => { results := [.lit (.bool false)], args := [d] }
  | _ => none }
def FnExactNormalCornerWrongFalsely : Prop := fnExactNormalCornerRow.holds Try.pinned (OpenSpec.ofChange fnExactNormalCornerWrong)

/-- 'laws.FnCorners': WHATEVER THE INPUT: true; the input reads as it did. -/
def fnCornersSpec : ChangeSpec := { name := "fnCorners", fn := fun _ => fun
  | [d] => { results := [.lit (.bool true)], args := [d] }
  | _ => none }
def fnCornersRow : OpenClaim := { program := "ytgbnoaggnfjjgaa", sum := "1d7b9234d062d9f5732c8581514c5525dca9350fef08fd881d9770c4434523ae", func := "loop.example/g01297/laws.FnCorners", spec := "fnCorners", unfollowed := true, recurses := true, apart := false }
def FnCornersSaid : Prop := fnCornersRow.holds Try.pinned (OpenSpec.ofChange fnCornersSpec)

/-- ITS FALSE NEIGHBOUR: 'it returns false'. Refute it at one input. -/
def fnCornersWrong : ChangeSpec := { name := "fnCorners", fn := fun _ => fun
  | [d] => { results := [.lit (.bool false)], args := [d] }
  | _ => none }
def FnCornersWrongFalsely : Prop := fnCornersRow.holds Try.pinned (OpenSpec.ofChange fnCornersWrong)

/- THE SECOND FORM. 'bulk': how many values and letters a reading holds, each counted each time it is reached (what is shared counts as often as it is met; a slice's spare places count too). A statement '..UptoSaid' is the law's where the arguments, and the package variables that the reading takes, are together of bulk at most 1048576: NARROWER than '..Said'. Prove '..Said' where nothing that the law and all that it calls make is longer than what came in: it says more and counts as full. Else prove '..UptoSaid'. A law counts once. -/
mutual
def uptoBulk {H : Type} : DataW H → Nat
  | .lit (.string bytes) => bytes.length + 1
  | .lit _ => 1
  | .nil => 1
  | .ptr d => uptoBulk d + 1
  | .slice elems spare => uptoBulkAll elems + uptoBulkAll spare + 1
  | .agg parts => uptoBulkAll parts + 1
  | .iface _ d => uptoBulk d + 1
  | .map entries => uptoBulkEntries entries + 1
  | .held _ => 1
def uptoBulkAll {H : Type} : List (DataW H) → Nat
  | [] => 0
  | d :: r => uptoBulk d + uptoBulkAll r
def uptoBulkEntries {H : Type} : List (Lit × DataW H) → Nat
  | [] => 0
  | x :: r => uptoBulkEntry x + uptoBulkEntries r
def uptoBulkEntry {H : Type} : Lit × DataW H → Nat
  | (.string bytes, d) => bytes.length + uptoBulk d + 1
  | (_, d) => uptoBulk d + 1
 end
def uptoSmall : (H : Type) → List (DataW H) → Bool := fun _ ds => decide (uptoBulkAll ds ≤ 1048576)
def OpenSpec.upto (s : _root_.Go.ChangeSpec) : _root_.Go.OpenSpec := { _root_.Go.OpenSpec.ofChange s with cond := some uptoSmall }

/-- 'laws.FnExactFormOfMatrix', WHERE WHAT IT READS IS OF BULK AT MOST 1048576: true; the input reads as it did. -/
def fnExactFormOfMatrixUptoRow : OpenClaim := { program := "ytgbnoaggnfjjgaa", sum := "1d7b9234d062d9f5732c8581514c5525dca9350fef08fd881d9770c4434523ae", func := "loop.example/g01297/laws.FnExactFormOfMatrix", spec := "fnExactFormOfMatrix", unfollowed := true, recurses := true, apart := false, narrowed := true }
def FnExactFormOfMatrixUptoSaid : Prop := fnExactFormOfMatrixUptoRow.holds Try.pinned (OpenSpec.upto fnExactFormOfMatrixSpec)

/-- 'laws.FnExactConjugateMatrix', WHERE WHAT IT READS IS OF BULK AT MOST 1048576: true; the input reads as it did. -/
def fnExactConjugateMatrixUptoRow : OpenClaim := { program := "ytgbnoaggnfjjgaa", sum := "1d7b9234d062d9f5732c8581514c5525dca9350fef08fd881d9770c4434523ae", func := "loop.example/g01297/laws.FnExactConjugateMatrix", spec := "fnExactConjugateMatrix", unfollowed := true, recurses := true, apart := false, narrowed := true }
def FnExactConjugateMatrixUptoSaid : Prop := fnExactConjugateMatrixUptoRow.holds Try.pinned (OpenSpec.upto fnExactConjugateMatrixSpec)

/-- 'laws.FnExactWordOfMatrix', WHERE WHAT IT READS IS OF BULK AT MOST 1048576: true; the input reads as it did. -/
def fnExactWordOfMatrixUptoRow : OpenClaim := { program := "ytgbnoaggnfjjgaa", sum := "1d7b9234d062d9f5732c8581514c5525dca9350fef08fd881d9770c4434523ae", func := "loop.example/g01297/laws.FnExactWordOfMatrix", spec := "fnExactWordOfMatrix", inPlace := ["internal/abi.NoEscape"], unfollowed := true, recurses := true, apart := false, narrowed := true }
def FnExactWordOfMatrixUptoSaid : Prop := fnExactWordOfMatrixUptoRow.holds Try.pinned (OpenSpec.upto fnExactWordOfMatrixSpec)

/-- 'laws.FnExactApplyToFraction', WHERE WHAT IT READS IS OF BULK AT MOST 1048576: true; the input reads as it did. -/
def fnExactApplyToFractionUptoRow : OpenClaim := { program := "ytgbnoaggnfjjgaa", sum := "1d7b9234d062d9f5732c8581514c5525dca9350fef08fd881d9770c4434523ae", func := "loop.example/g01297/laws.FnExactApplyToFraction", spec := "fnExactApplyToFraction", unfollowed := true, recurses := true, apart := false, narrowed := true }
def FnExactApplyToFractionUptoSaid : Prop := fnExactApplyToFractionUptoRow.holds Try.pinned (OpenSpec.upto fnExactApplyToFractionSpec)

/-- 'laws.FnExactAreEqualCorners', WHERE WHAT IT READS IS OF BULK AT MOST 1048576: true; the input reads as it did. -/
def fnExactAreEqualCornersUptoRow : OpenClaim := { program := "ytgbnoaggnfjjgaa", sum := "1d7b9234d062d9f5732c8581514c5525dca9350fef08fd881d9770c4434523ae", func := "loop.example/g01297/laws.FnExactAreEqualCorners", spec := "fnExactAreEqualCorners", unfollowed := true, recurses := true, apart := false, narrowed := true }
def FnExactAreEqualCornersUptoSaid : Prop := fnExactAreEqualCornersUptoRow.holds Try.pinned (OpenSpec.upto fnExactAreEqualCornersSpec)

/-- 'laws.FnExactMoveCorner', WHERE WHAT IT READS IS OF BULK AT MOST 1048576: true; the input reads as it did. -/
def fnExactMoveCornerUptoRow : OpenClaim := { program := "ytgbnoaggnfjjgaa", sum := "1d7b9234d062d9f5732c8581514c5525dca9350fef08fd881d9770c4434523ae", func := "loop.example/g01297/laws.FnExactMoveCorner", spec := "fnExactMoveCorner", unfollowed := true, recurses := true, apart := false, narrowed := true }
def FnExactMoveCornerUptoSaid : Prop := fnExactMoveCornerUptoRow.holds Try.pinned (OpenSpec.upto fnExactMoveCornerSpec)

/-- 'laws.FnExactIsRightCorner', WHERE WHAT IT READS IS OF BULK AT MOST 1048576: true; the input reads as it did. -/
def fnExactIsRightCornerUptoRow : OpenClaim := { program := "ytgbnoaggnfjjgaa", sum := "1d7b9234d062d9f5732c8581514c5525dca9350fef08fd881d9770c4434523ae", func := "loop.example/g01297/laws.FnExactIsRightCorner", spec := "fnExactIsRightCorner", unfollowed := true, recurses := true, apart := false, narrowed := true }
def FnExactIsRightCornerUptoSaid : Prop := fnExactIsRightCornerUptoRow.holds Try.pinned (OpenSpec.upto fnExactIsRightCornerSpec)

/-- 'laws.FnExactCosineOf', WHERE WHAT IT READS IS OF BULK AT MOST 1048576: true; the input reads as it did. -/
def fnExactCosineOfUptoRow : OpenClaim := { program := "ytgbnoaggnfjjgaa", sum := "1d7b9234d062d9f5732c8581514c5525dca9350fef08fd881d9770c4434523ae", func := "loop.example/g01297/laws.FnExactCosineOf", spec := "fnExactCosineOf", unfollowed := true, recurses := true, apart := false, narrowed := true }
def FnExactCosineOfUptoSaid : Prop := fnExactCosineOfUptoRow.holds Try.pinned (OpenSpec.upto fnExactCosineOfSpec)

/-- 'laws.FnExactNormalCorner', WHERE WHAT IT READS IS OF BULK AT MOST 1048576: true; the input reads as it did. -/
def fnExactNormalCornerUptoRow : OpenClaim := { program := "ytgbnoaggnfjjgaa", sum := "1d7b9234d062d9f5732c8581514c5525dca9350fef08fd881d9770c4434523ae", func := "loop.example/g01297/laws.FnExactNormalCorner", spec := "fnExactNormalCorner", unfollowed := true, recurses := true, apart := false, narrowed := true }
def FnExactNormalCornerUptoSaid : Prop := fnExactNormalCornerUptoRow.holds Try.pinned (OpenSpec.upto fnExactNormalCornerSpec)

/-- 'laws.FnCorners', WHERE WHAT IT READS IS OF BULK AT MOST 1048576: true; the input reads as it did. -/
def fnCornersUptoRow : OpenClaim := { program := "ytgbnoaggnfjjgaa", sum := "1d7b9234d062d9f5732c8581514c5525dca9350fef08fd881d9770c4434523ae", func := "loop.example/g01297/laws.FnCorners", spec := "fnCorners", unfollowed := true, recurses := true, apart := false, narrowed := true }
def FnCornersUptoSaid : Prop := fnCornersUptoRow.holds Try.pinned (OpenSpec.upto fnCornersSpec)

end Rows
end Go.Proofs.Ytgbnoaggnfjjgaa
