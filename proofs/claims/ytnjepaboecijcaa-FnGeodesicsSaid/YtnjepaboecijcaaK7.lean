/-
  Contracts of functions of the program (printed by a program of this work; Lean checks each).
  Conditions: as each contract states.
-/
import Derived.Test.YtnjepaboecijcaaK5
import Derived.Test.YtnjepaboecijcaaK6
import Derived.Test.YtnjepaboecijcaaList
namespace Go.Proofs.Ytnjepaboecijcaa
open Go.Ev Go.RowKit
set_option maxRecDepth 100000
set_option linter.unusedVariables false
set_option linter.unusedSimpArgs false

def isAngF (a b c d : Int) : Bool := isPtF a b && isPtF c d && primF a b && primF c d && decide (detF a b c d ≥ 1)

end Go.Proofs.Ytnjepaboecijcaa
