/-
  Plain functions on whole numbers: what the program's functions compute, wraps and all.
  Conditions: none.
-/
import Derived.Test.YtepmlacfaffmmaaEvOps
set_option linter.unusedVariables false
set_option linter.unusedSimpArgs false
namespace Go.Ev
open Go.RowKit

def inF (n l h : Int) : Bool := decide (n ≥ l) && decide (n ≤ h)
def isCoordF (n : Int) : Bool := inF n (-1000000) 1000000
def isPtF (a b : Int) : Bool := isCoordF a && isCoordF b
def detF (a b c d : Int) : Int := w64 (w64 (a * d) - w64 (b * c))
def plusF (a k c : Int) : Int := w64 (a + w64 (k * c))
def sizeF (n : Int) : Int := maxi n (w64 (0 - n))
def areaF (a b c d e f : Int) : Int := sizeF (detF (plusF c (-1) a) (plusF d (-1) b) (plusF e (-1) a) (plusF f (-1) b))
def smallF (a b : Int) : Bool := inF a (-1000) 1000 && inF b (-1000) 1000
def isTriF (a b c d e f : Int) : Bool := smallF a b && smallF c d && smallF e f && !decide (areaF a b c d e f = 0)

end Go.Ev
