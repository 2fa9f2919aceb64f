/-
  Contracts of functions of the program (printed by a program of this work; Lean checks each).
  Conditions: as each contract states.
-/
import Derived.Test.YtndmkibdcfpddaaK3
import Derived.Test.YtndmkibdcfpddaaCorn
namespace Go.Proofs.Ytndmkibdcfpddaa
open Go.Ev Go.RowKit
set_option maxRecDepth 100000
set_option linter.unusedVariables false
set_option linter.unusedSimpArgs false

def invA (k m : Int) : Int := w64 (k * m)
def invB (k m : Int) : Int := w64 (w64 (0 - k) * m)

def halfA (a b c d e f g i : Int) : Int := apF (invA (detF e f g i) i) (invB (detF e f g i) f) a c
def halfB (a b c d e f g i : Int) : Int := apF (invA (detF e f g i) i) (invB (detF e f g i) f) b d
def halfC (a b c d e f g i : Int) : Int := apF (invB (detF e f g i) g) (invA (detF e f g i) e) a c
def halfD (a b c d e f g i : Int) : Int := apF (invB (detF e f g i) g) (invA (detF e f g i) e) b d

theorem br_sel3 {p : Bool} {A B : Prop} (h : brK p A B) : brK (decide (selF p 0 3 = 0)) A B := by cases p <;> exact h

abbrev tr3 (a b c : Int) : Value := .agg #[.int .i64 a, .int .i64 b, .int .i64 c]

end Go.Proofs.Ytndmkibdcfpddaa
