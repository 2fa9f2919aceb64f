/-
  Contracts of functions of the program (printed by a program of this work; Lean checks each).
  Conditions: as each contract states.
-/
import Derived.Test.YtlkbfpklhncfbaaK4
import Derived.Test.YtlkbfpklhncfbaaK2
namespace Go.Proofs.Ytlkbfpklhncfbaa
open Go.Ev Go.RowKit
set_option maxRecDepth 100000
set_option linter.unusedVariables false
set_option linter.unusedSimpArgs false

def sumX (a b c d : Int) : Int := turnX (plusF a 1 c) (plusF b 1 d)
def sumY (a b c d : Int) : Int := turnY (plusF a 1 c) (plusF b 1 d)
def difX (a b c d : Int) : Int := turnX (plusF a (-1) c) (plusF b (-1) d)
def difY (a b c d : Int) : Int := turnY (plusF a (-1) c) (plusF b (-1) d)
def isSum (a b c d e f : Int) : Bool := decide (e = sumX a b c d) && decide (f = sumY a b c d)
def isDif (a b c d e f : Int) : Bool := decide (e = difX a b c d) && decide (f = difY a b c d)

theorem br_sum {a b c d e f : Int} {A B : Prop} (h : brK (isSum a b c d e f) A B) : brK (eqCells [.int .i64 e, .int .i64 f] [.int .i64 (turnX (plusF a 1 c) (plusF b 1 d)), .int .i64 (turnY (plusF a 1 c) (plusF b 1 d))]) A B := br_eq2 (by
  unfold isSum sumX sumY at h
  cases h1 : decide (e = turnX (plusF a 1 c) (plusF b 1 d)) <;> rw [h1] at h <;> exact h)
theorem br_dif {a b c d e f : Int} {A B : Prop} (h : brK (isDif a b c d e f) A B) : brK (eqCells [.int .i64 e, .int .i64 f] [.int .i64 (turnX (plusF a (-1) c) (plusF b (-1) d)), .int .i64 (turnY (plusF a (-1) c) (plusF b (-1) d))]) A B := br_eq2 (by
  unfold isDif difX difY at h
  cases h1 : decide (e = turnX (plusF a (-1) c) (plusF b (-1) d)) <;> rw [h1] at h <;> exact h)

attribute [local irreducible] plusF turnX turnY isPtF isFracF nearF

def primX (a b : Int) : Int := w64 (a.tdiv (gcdF a b))
def primY (a b : Int) : Int := w64 (b.tdiv (gcdF a b))

theorem c_spec_l01Part {a b : Int} (hb : decide (gcdF a b = 0) = false) : Pure Try.prog n_spec_l01Part [pt a b] (pt (primX a b) (primY a b)) := by
  refine pure_of good fn_spec_l01Part rfl rfl ?_
  conv => whnf
  all_goals (repeat' first
    | (refine StoreK.mk rfl ?_; conv => whnf)
    | exact join_same
    | exact (by assumption : (_ : Bool) = (_ : Bool))
    | (refine br_true (by assumption) ?_; conv => whnf)
    | (refine br_false (by assumption) ?_; conv => whnf)
    | (refine br_not ?_; conv => whnf)
    | (refine br_code ?_; conv => whnf)
    | (with_reducible refine br_and ?_; conv => whnf)
    | (with_reducible refine br_or ?_; conv => whnf)
    | (refine br_eq2 ?_; conv => whnf)
    | (refine c_spec_l01Gcd.call ?_; conv => whnf)
    | (refine c_spec_l01Gcd.quiet ?_; conv => whnf)
    | (refine draw_auto (by decide +kernel) ?_; conv => whnf)
    | (refine draw_asg (by decide +kernel) ?_; conv => whnf)
    | (refine draw_st (by decide +kernel) ?_; conv => whnf)
    | (refine draw_call (by decide +kernel) ?_; conv => whnf)
    | (refine enter_same (loop_n 12 ?_); conv => whnf)
    | (refine next_same ?_; conv => whnf)
    | (refine mapK_row (by assumption) ?_; conv => whnf)
    | (refine mapK_plain (Plain.of rfl) ?_; conv => whnf)
    | (refine mapK_lit ?_; conv => whnf)
    | (refine br_split (fun _ => ?_) (fun _ => ?_) <;> conv => whnf)
    | exact (rfl : (_ : Value) = _)
    | (simp only [*]; exact (rfl : (_ : Value) = _))
    | (simp [*]; done))

end Go.Proofs.Ytlkbfpklhncfbaa
