/-
  Contracts of functions of the program (printed by a program of this work; Lean checks each).
  Conditions: as each contract states.
-/
import Derived.Test.YtndmkibdcfpddaaK4
import Derived.Test.YtndmkibdcfpddaaK2
namespace Go.Proofs.Ytndmkibdcfpddaa
open Go.Ev Go.RowKit
set_option maxRecDepth 100000
set_option linter.unusedVariables false
set_option linter.unusedSimpArgs false

def sumX (a b c d : Int) : Int := turnX (plusF a 1 c) (plusF b 1 d)
def sumY (a b c d : Int) : Int := turnY (plusF a 1 c) (plusF b 1 d)
def difX (a b c d : Int) : Int := turnX (plusF a (-1) c) (plusF b (-1) d)
def difY (a b c d : Int) : Int := turnY (plusF a (-1) c) (plusF b (-1) d)
def isSum (a b c d e f : Int) : Bool := decide (e = sumX a b c d) && decide (f = sumY a b c d)
def isDif (a b c d e f : Int) : Bool := decide (e = difX a b c d) && decide (f = difY a b c d)

theorem br_sum {a b c d e f : Int} {A B : Prop} (h : brK (isSum a b c d e f) A B) : brK (eqCells [.int .i64 e, .int .i64 f] [.int .i64 (turnX (plusF a 1 c) (plusF b 1 d)), .int .i64 (turnY (plusF a 1 c) (plusF b 1 d))]) A B := br_eq2 (by
  unfold isSum sumX sumY at h
  cases h1 : decide (e = turnX (plusF a 1 c) (plusF b 1 d)) <;> rw [h1] at h <;> exact h)
theorem br_dif {a b c d e f : Int} {A B : Prop} (h : brK (isDif a b c d e f) A B) : brK (eqCells [.int .i64 e, .int .i64 f] [.int .i64 (turnX (plusF a (-1) c) (plusF b (-1) d)), .int .i64 (turnY (plusF a (-1) c) (plusF b (-1) d))]) A B := br_eq2 (by
  unfold isDif difX difY at h
  cases h1 : decide (e = turnX (plusF a (-1) c) (plusF b (-1) d)) <;> rw [h1] at h <;> exact h)

attribute [local irreducible] plusF turnX turnY isPtF isFracF nearF

def primX (a b : Int) : Int := w64 (a.tdiv (gcdF a b))
def primY (a b : Int) : Int := w64 (b.tdiv (gcdF a b))

end Go.Proofs.Ytndmkibdcfpddaa
