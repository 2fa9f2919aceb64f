/-
  Contracts of functions of the program (printed by a program of this work; Lean checks each).
  Conditions: as each contract states.
-/
import Derived.Test.YtgbnoaggnfjjgaaK58
import Derived.Test.YtgbnoaggnfjjgaaK49
import Derived.Test.YtgbnoaggnfjjgaaCos
namespace Go.Proofs.Ytgbnoaggnfjjgaa
open Go.Ev Go.RowKit
set_option maxRecDepth 100000
set_option linter.unusedVariables false
set_option linter.unusedSimpArgs false

attribute [local irreducible] isCornF sineF cosF apF nearF bigF

theorem c_impl_TransposeCorner {a b c d : Int}  : Pure Try.prog n_impl_TransposeCorner [q4 a b c d] (t2 (q4 (tp0 a b c d) (tp1 a b c d) (tp2 a b c d) (tp3 a b c d)) (ii (trE a b c d))) := by
  refine pure_of good fn_impl_TransposeCorner rfl rfl ?_
  conv => whnf
  all_goals (repeat' first
    | (refine StoreK.mk rfl ?_; conv => whnf)
    | exact join_same
    | exact (by assumption : (_ : Bool) = (_ : Bool))
    | (refine br_true (by assumption) ?_; conv => whnf)
    | (refine br_false (by assumption) ?_; conv => whnf)
    | (refine br_not ?_; conv => whnf)
    | (refine br_code ?_; conv => whnf)
    | (with_reducible refine br_and ?_; conv => whnf)
    | (with_reducible refine br_or ?_; conv => whnf)
    | (refine br_eq2 ?_; conv => whnf)
    | (refine c_impl_IsCorner.call ?_; conv => whnf)
    | (refine c_impl_IsCorner.quiet ?_; conv => whnf)
    | (refine c_impl_Corner_transposed.call ?_; conv => whnf)
    | (refine c_impl_Corner_transposed.quiet ?_; conv => whnf)
    | (refine draw_auto (by decide +kernel) ?_; conv => whnf)
    | (refine draw_asg (by decide +kernel) ?_; conv => whnf)
    | (refine draw_st (by decide +kernel) ?_; conv => whnf)
    | (refine draw_call (by decide +kernel) ?_; conv => whnf)
    | (refine enter_same (loop_n 12 ?_); conv => whnf)
    | (refine next_same ?_; conv => whnf)
    | (refine mapK_row (by assumption) ?_; conv => whnf)
    | (refine mapK_plain (Plain.of rfl) ?_; conv => whnf)
    | (refine mapK_lit ?_; conv => whnf)
    | (refine br_split (fun _ => ?_) (fun _ => ?_) <;> conv => whnf)
    | exact (rfl : (_ : Value) = _)
    | (simp only [*]; exact (rfl : (_ : Value) = _))
    | (simp [tp0, tp1, tp2, tp3, trE, selF, codeF, *]; done))

theorem c_impl_AdjacentCorner {a b c d : Int}  : Pure Try.prog n_impl_AdjacentCorner [q4 a b c d] (t2 (q4 (tp0 a b c d) (tp1 a b c d) (ad2 a b c d) (ad3 a b c d)) (ii (trE a b c d))) := by
  refine pure_of good fn_impl_AdjacentCorner rfl rfl ?_
  conv => whnf
  all_goals (repeat' first
    | (refine StoreK.mk rfl ?_; conv => whnf)
    | exact join_same
    | exact (by assumption : (_ : Bool) = (_ : Bool))
    | (refine br_true (by assumption) ?_; conv => whnf)
    | (refine br_false (by assumption) ?_; conv => whnf)
    | (refine br_not ?_; conv => whnf)
    | (refine br_code ?_; conv => whnf)
    | (with_reducible refine br_and ?_; conv => whnf)
    | (with_reducible refine br_or ?_; conv => whnf)
    | (refine br_eq2 ?_; conv => whnf)
    | (refine c_impl_IsCorner.call ?_; conv => whnf)
    | (refine c_impl_IsCorner.quiet ?_; conv => whnf)
    | (refine c_impl_Corner_adjacent.call ?_; conv => whnf)
    | (refine c_impl_Corner_adjacent.quiet ?_; conv => whnf)
    | (refine draw_auto (by decide +kernel) ?_; conv => whnf)
    | (refine draw_asg (by decide +kernel) ?_; conv => whnf)
    | (refine draw_st (by decide +kernel) ?_; conv => whnf)
    | (refine draw_call (by decide +kernel) ?_; conv => whnf)
    | (refine enter_same (loop_n 12 ?_); conv => whnf)
    | (refine next_same ?_; conv => whnf)
    | (refine mapK_row (by assumption) ?_; conv => whnf)
    | (refine mapK_plain (Plain.of rfl) ?_; conv => whnf)
    | (refine mapK_lit ?_; conv => whnf)
    | (refine br_split (fun _ => ?_) (fun _ => ?_) <;> conv => whnf)
    | exact (rfl : (_ : Value) = _)
    | (simp only [*]; exact (rfl : (_ : Value) = _))
    | (simp [tp0, tp1, ad2, ad3, trE, selF, codeF, *]; done))

theorem c_impl_MoveCorner_all {a b c d e f g i : Int} : Pure Try.prog n_impl_MoveCorner [q4 a b c d, q4 e f g i] (t2 (q4 (mv0 a b c d e f g i) (mv1 a b c d e f g i) (mv2 a b c d e f g i) (mv3 a b c d e f g i)) (ii (mvE a b c d e f g i))) := c_impl_MoveCorner

theorem c_impl_CosineOf_all {a b c d : Int} : Pure Try.prog n_impl_CosineOf [q4 a b c d] (t2 (ii (coV a b c d)) (ii (coE a b c d))) := c_impl_CosineOf

theorem c_impl_SineOf_all {a b c d : Int} : Pure Try.prog n_impl_SineOf [q4 a b c d] (t2 (ii (siV a b c d)) (ii (coE a b c d))) := c_impl_SineOf

theorem c_impl_IsRightCorner_all {a b c d : Int} : Pure Try.prog n_impl_IsRightCorner [q4 a b c d] (t2 (bb (riV a b c d)) (ii (trE a b c d))) := c_impl_IsRightCorner

theorem c_impl_AreEqualCorners_all {a b c d e f g i : Int} : Pure Try.prog n_impl_AreEqualCorners [q4 a b c d, q4 e f g i] (t2 (bb (eqV a b c d e f g i)) (ii (eqE a b c d e f g i))) := c_impl_AreEqualCorners

theorem c_spec_TransposeCorner {a b c d : Int}  : Pure Try.prog n_spec_TransposeCorner [q4 a b c d] (t2 (q4 (tp0 a b c d) (tp1 a b c d) (tp2 a b c d) (tp3 a b c d)) (ii (trE a b c d))) := by
  refine pure_of good fn_spec_TransposeCorner rfl rfl ?_
  conv => whnf
  all_goals (repeat' first
    | (refine StoreK.mk rfl ?_; conv => whnf)
    | exact join_same
    | exact (by assumption : (_ : Bool) = (_ : Bool))
    | (refine br_true (by assumption) ?_; conv => whnf)
    | (refine br_false (by assumption) ?_; conv => whnf)
    | (refine br_not ?_; conv => whnf)
    | (refine br_code ?_; conv => whnf)
    | (with_reducible refine br_and ?_; conv => whnf)
    | (with_reducible refine br_or ?_; conv => whnf)
    | (refine br_eq2 ?_; conv => whnf)
    | (refine c_spec_l02Is.call ?_; conv => whnf)
    | (refine c_spec_l02Is.quiet ?_; conv => whnf)
    | (refine draw_auto (by decide +kernel) ?_; conv => whnf)
    | (refine draw_asg (by decide +kernel) ?_; conv => whnf)
    | (refine draw_st (by decide +kernel) ?_; conv => whnf)
    | (refine draw_call (by decide +kernel) ?_; conv => whnf)
    | (refine enter_same (loop_n 12 ?_); conv => whnf)
    | (refine next_same ?_; conv => whnf)
    | (refine mapK_row (by assumption) ?_; conv => whnf)
    | (refine mapK_plain (Plain.of rfl) ?_; conv => whnf)
    | (refine mapK_lit ?_; conv => whnf)
    | (refine br_split (fun _ => ?_) (fun _ => ?_) <;> conv => whnf)
    | exact (rfl : (_ : Value) = _)
    | (simp only [*]; exact (rfl : (_ : Value) = _))
    | (simp [tp0, tp1, tp2, tp3, trE, selF, codeF, *]; done))

theorem c_spec_AdjacentCorner {a b c d : Int}  : Pure Try.prog n_spec_AdjacentCorner [q4 a b c d] (t2 (q4 (tp0 a b c d) (tp1 a b c d) (ad2 a b c d) (ad3 a b c d)) (ii (trE a b c d))) := by
  refine pure_of good fn_spec_AdjacentCorner rfl rfl ?_
  conv => whnf
  all_goals (repeat' first
    | (refine StoreK.mk rfl ?_; conv => whnf)
    | exact join_same
    | exact (by assumption : (_ : Bool) = (_ : Bool))
    | (refine br_true (by assumption) ?_; conv => whnf)
    | (refine br_false (by assumption) ?_; conv => whnf)
    | (refine br_not ?_; conv => whnf)
    | (refine br_code ?_; conv => whnf)
    | (with_reducible refine br_and ?_; conv => whnf)
    | (with_reducible refine br_or ?_; conv => whnf)
    | (refine br_eq2 ?_; conv => whnf)
    | (refine c_spec_l02Is.call ?_; conv => whnf)
    | (refine c_spec_l02Is.quiet ?_; conv => whnf)
    | (refine c_spec_l02Adjacent.call ?_; conv => whnf)
    | (refine c_spec_l02Adjacent.quiet ?_; conv => whnf)
    | (refine draw_auto (by decide +kernel) ?_; conv => whnf)
    | (refine draw_asg (by decide +kernel) ?_; conv => whnf)
    | (refine draw_st (by decide +kernel) ?_; conv => whnf)
    | (refine draw_call (by decide +kernel) ?_; conv => whnf)
    | (refine enter_same (loop_n 12 ?_); conv => whnf)
    | (refine next_same ?_; conv => whnf)
    | (refine mapK_row (by assumption) ?_; conv => whnf)
    | (refine mapK_plain (Plain.of rfl) ?_; conv => whnf)
    | (refine mapK_lit ?_; conv => whnf)
    | (refine br_split (fun _ => ?_) (fun _ => ?_) <;> conv => whnf)
    | exact (rfl : (_ : Value) = _)
    | (simp only [*]; exact (rfl : (_ : Value) = _))
    | (simp [tp0, tp1, ad2, ad3, trE, selF, codeF, *]; done))

theorem c_spec_MoveCorner_all {a b c d e f g i : Int} : Pure Try.prog n_spec_MoveCorner [q4 a b c d, q4 e f g i] (t2 (q4 (mv0 a b c d e f g i) (mv1 a b c d e f g i) (mv2 a b c d e f g i) (mv3 a b c d e f g i)) (ii (mvE a b c d e f g i))) := c_spec_MoveCorner

theorem c_spec_CosineOf_all {a b c d : Int} : Pure Try.prog n_spec_CosineOf [q4 a b c d] (t2 (ii (coV a b c d)) (ii (coE a b c d))) := c_spec_CosineOf

theorem c_spec_SineOf_all {a b c d : Int} : Pure Try.prog n_spec_SineOf [q4 a b c d] (t2 (ii (siV a b c d)) (ii (coE a b c d))) := c_spec_SineOf

theorem c_spec_IsRightCorner_all {a b c d : Int} : Pure Try.prog n_spec_IsRightCorner [q4 a b c d] (t2 (bb (riV a b c d)) (ii (trE a b c d))) := c_spec_IsRightCorner

theorem c_spec_AreEqualCorners_all {a b c d e f g i : Int} : Pure Try.prog n_spec_AreEqualCorners [q4 a b c d, q4 e f g i] (t2 (bb (eqV a b c d e f g i)) (ii (eqE a b c d e f g i))) := c_spec_AreEqualCorners

end Go.Proofs.Ytgbnoaggnfjjgaa
