/-
  Contracts of functions of the program (printed by a program of this work; Lean checks each).
  Conditions: as each contract states.
-/
import Derived.Test.YtjakdmfodnpkkaaK11
namespace Go.Proofs.Ytjakdmfodnpkkaa
open Go.Ev Go.RowKit
set_option maxRecDepth 100000
set_option linter.unusedVariables false
set_option linter.unusedSimpArgs false

def ratF (p q : Int) : Bool := isCoordF p && inF q 1 1000000

theorem ratF_ok {a b : Int} (h : ratF a b = true) : ExpOk a b := by
  simp only [ratF, isCoordF, inF, Bool.and_eq_true, decide_eq_true_eq] at h
  exact ⟨by omega, by omega, by omega, by omega⟩

end Go.Proofs.Ytjakdmfodnpkkaa
