/-
  Contracts of functions of the program (printed by a program of this work; Lean checks each).
  Conditions: as each contract states.
-/
import Derived.Test.YtnjepaboecijcaaK4
import Derived.Test.YtnjepaboecijcaaK2
namespace Go.Proofs.Ytnjepaboecijcaa
open Go.Ev Go.RowKit
set_option maxRecDepth 100000
set_option linter.unusedVariables false
set_option linter.unusedSimpArgs false

theorem c_impl_together {a b c d k : Int}  : Pure Try.prog n_impl_together [pt a b, pt c d, ii k] (t2 (pt (selF (isPtF a b && isPtF c d) (selF (isFracF a b && isFracF c d) (selF (nearF a b c d) (selF (isPtF (turnX (plusF a k c) (plusF b k d)) (turnY (plusF a k c) (plusF b k d))) (turnX (plusF a k c) (plusF b k d)) 0) 0) 0) 0) (selF (isPtF a b && isPtF c d) (selF (isFracF a b && isFracF c d) (selF (nearF a b c d) (selF (isPtF (turnX (plusF a k c) (plusF b k d)) (turnY (plusF a k c) (plusF b k d))) (turnY (plusF a k c) (plusF b k d)) 0) 0) 0) 0)) (ii (selF (isPtF a b && isPtF c d) (selF (isFracF a b && isFracF c d) (selF (nearF a b c d) (selF (isPtF (turnX (plusF a k c) (plusF b k d)) (turnY (plusF a k c) (plusF b k d))) (0) 3) 5) 2) 1))) := by
  refine pure_of good fn_impl_together rfl rfl ?_
  conv => whnf
  all_goals (repeat' first
    | (refine br_fault ?_; conv => whnf)
    | (refine StoreK.mk rfl ?_; conv => whnf)
    | exact join_same
    | exact (by assumption : (_ : Bool) = (_ : Bool))
    | (refine br_true (by assumption) ?_; conv => whnf)
    | (refine br_false (by assumption) ?_; conv => whnf)
    | (refine br_not ?_; conv => whnf)
    | (refine br_code ?_; conv => whnf)
    | (with_reducible refine br_and ?_; conv => whnf)
    | (with_reducible refine br_or ?_; conv => whnf)
    | (refine br_eq2 ?_; conv => whnf)
    | (refine c_fault_1.call1 rfl rfl ⟨_, rfl⟩ ?_; conv => whnf)
    | (refine c_fault_1.quiet1 rfl rfl ⟨_, rfl⟩ ?_; conv => whnf)
    | (refine c_fault_2.call1 rfl rfl ⟨_, rfl⟩ ?_; conv => whnf)
    | (refine c_fault_2.quiet1 rfl rfl ⟨_, rfl⟩ ?_; conv => whnf)
    | (refine c_fault_3.call1 rfl rfl ⟨_, rfl⟩ ?_; conv => whnf)
    | (refine c_fault_3.quiet1 rfl rfl ⟨_, rfl⟩ ?_; conv => whnf)
    | (refine c_impl_neighbours.call ?_; conv => whnf)
    | (refine c_impl_neighbours.quiet ?_; conv => whnf)
    | (refine c_impl_Point_plus.call ?_; conv => whnf)
    | (refine c_impl_Point_plus.quiet ?_; conv => whnf)
    | (refine c_impl_Point_fraction.call ?_; conv => whnf)
    | (refine c_impl_Point_fraction.quiet ?_; conv => whnf)
    | (refine c_impl_Point_told.call ?_; conv => whnf)
    | (refine c_impl_Point_told.quiet ?_; conv => whnf)
    | (refine draw_auto (by decide +kernel) ?_; conv => whnf)
    | (refine draw_asg (by decide +kernel) ?_; conv => whnf)
    | (refine draw_st (by decide +kernel) ?_; conv => whnf)
    | (refine draw_call (by decide +kernel) ?_; conv => whnf)
    | (refine enter_same (loop_n 12 ?_); conv => whnf)
    | (refine next_same ?_; conv => whnf)
    | (refine mapK_row (by assumption) ?_; conv => whnf)
    | (refine mapK_plain (Plain.of rfl) ?_; conv => whnf)
    | (refine mapK_lit ?_; conv => whnf)
    | (refine br_split (fun _ => ?_) (fun _ => ?_) <;> conv => whnf)
    | exact (rfl : (_ : Value) = _)
    | (simp only [*]; exact (rfl : (_ : Value) = _))
    | (simp [selF, faultF, *]; done))

theorem c_spec_l05Both {a b c d k : Int}  : Pure Try.prog n_spec_l05Both [pt a b, pt c d, ii k] (t2 (pt (selF (isPtF a b && isPtF c d) (selF (isFracF a b && isFracF c d) (selF (nearF a b c d) (selF (isPtF (turnX (plusF a k c) (plusF b k d)) (turnY (plusF a k c) (plusF b k d))) (turnX (plusF a k c) (plusF b k d)) 0) 0) 0) 0) (selF (isPtF a b && isPtF c d) (selF (isFracF a b && isFracF c d) (selF (nearF a b c d) (selF (isPtF (turnX (plusF a k c) (plusF b k d)) (turnY (plusF a k c) (plusF b k d))) (turnY (plusF a k c) (plusF b k d)) 0) 0) 0) 0)) (ii (selF (isPtF a b && isPtF c d) (selF (isFracF a b && isFracF c d) (selF (nearF a b c d) (selF (isPtF (turnX (plusF a k c) (plusF b k d)) (turnY (plusF a k c) (plusF b k d))) (0) 3) 5) 2) 1))) := by
  refine pure_of good fn_spec_l05Both rfl rfl ?_
  conv => whnf
  all_goals (repeat' first
    | (refine br_fault ?_; conv => whnf)
    | (refine StoreK.mk rfl ?_; conv => whnf)
    | exact join_same
    | exact (by assumption : (_ : Bool) = (_ : Bool))
    | (refine br_true (by assumption) ?_; conv => whnf)
    | (refine br_false (by assumption) ?_; conv => whnf)
    | (refine br_not ?_; conv => whnf)
    | (refine br_code ?_; conv => whnf)
    | (with_reducible refine br_and ?_; conv => whnf)
    | (with_reducible refine br_or ?_; conv => whnf)
    | (refine br_eq2 ?_; conv => whnf)
    | (refine c_l05Code_1.call1 rfl rfl ⟨_, rfl⟩ ?_; conv => whnf)
    | (refine c_l05Code_1.quiet1 rfl rfl ⟨_, rfl⟩ ?_; conv => whnf)
    | (refine c_l05Code_2.call1 rfl rfl ⟨_, rfl⟩ ?_; conv => whnf)
    | (refine c_l05Code_2.quiet1 rfl rfl ⟨_, rfl⟩ ?_; conv => whnf)
    | (refine c_l05Code_3.call1 rfl rfl ⟨_, rfl⟩ ?_; conv => whnf)
    | (refine c_l05Code_3.quiet1 rfl rfl ⟨_, rfl⟩ ?_; conv => whnf)
    | (refine c_spec_l05Near.call ?_; conv => whnf)
    | (refine c_spec_l05Near.quiet ?_; conv => whnf)
    | (refine c_spec_l01Plus.call ?_; conv => whnf)
    | (refine c_spec_l01Plus.quiet ?_; conv => whnf)
    | (refine c_spec_l05Turn.call ?_; conv => whnf)
    | (refine c_spec_l05Turn.quiet ?_; conv => whnf)
    | (refine c_spec_l01Told.call ?_; conv => whnf)
    | (refine c_spec_l01Told.quiet ?_; conv => whnf)
    | (refine draw_auto (by decide +kernel) ?_; conv => whnf)
    | (refine draw_asg (by decide +kernel) ?_; conv => whnf)
    | (refine draw_st (by decide +kernel) ?_; conv => whnf)
    | (refine draw_call (by decide +kernel) ?_; conv => whnf)
    | (refine enter_same (loop_n 12 ?_); conv => whnf)
    | (refine next_same ?_; conv => whnf)
    | (refine mapK_row (by assumption) ?_; conv => whnf)
    | (refine mapK_plain (Plain.of rfl) ?_; conv => whnf)
    | (refine mapK_lit ?_; conv => whnf)
    | (refine br_split (fun _ => ?_) (fun _ => ?_) <;> conv => whnf)
    | exact (rfl : (_ : Value) = _)
    | (simp only [*]; exact (rfl : (_ : Value) = _))
    | (simp [selF, faultF, *]; done))

theorem c_impl_SumOfNeighbours {a b c d : Int}  : Pure Try.prog n_impl_SumOfNeighbours [pt a b, pt c d] (t2 (pt (selF (isPtF a b && isPtF c d) (selF (isFracF a b && isFracF c d) (selF (nearF a b c d) (selF (isPtF (turnX (plusF a 1 c) (plusF b 1 d)) (turnY (plusF a 1 c) (plusF b 1 d))) (turnX (plusF a 1 c) (plusF b 1 d)) 0) 0) 0) 0) (selF (isPtF a b && isPtF c d) (selF (isFracF a b && isFracF c d) (selF (nearF a b c d) (selF (isPtF (turnX (plusF a 1 c) (plusF b 1 d)) (turnY (plusF a 1 c) (plusF b 1 d))) (turnY (plusF a 1 c) (plusF b 1 d)) 0) 0) 0) 0)) (ii (selF (isPtF a b && isPtF c d) (selF (isFracF a b && isFracF c d) (selF (nearF a b c d) (selF (isPtF (turnX (plusF a 1 c) (plusF b 1 d)) (turnY (plusF a 1 c) (plusF b 1 d))) (0) 3) 5) 2) 1))) := by
  refine pure_of good fn_impl_SumOfNeighbours rfl rfl ?_
  conv => whnf
  all_goals (repeat' first
    | (refine StoreK.mk rfl ?_; conv => whnf)
    | exact join_same
    | exact (by assumption : (_ : Bool) = (_ : Bool))
    | (refine br_true (by assumption) ?_; conv => whnf)
    | (refine br_false (by assumption) ?_; conv => whnf)
    | (refine br_not ?_; conv => whnf)
    | (refine br_code ?_; conv => whnf)
    | (with_reducible refine br_and ?_; conv => whnf)
    | (with_reducible refine br_or ?_; conv => whnf)
    | (refine br_eq2 ?_; conv => whnf)
    | (refine c_impl_together.call ?_; conv => whnf)
    | (refine c_impl_together.quiet ?_; conv => whnf)
    | (refine draw_auto (by decide +kernel) ?_; conv => whnf)
    | (refine draw_asg (by decide +kernel) ?_; conv => whnf)
    | (refine draw_st (by decide +kernel) ?_; conv => whnf)
    | (refine draw_call (by decide +kernel) ?_; conv => whnf)
    | (refine enter_same (loop_n 12 ?_); conv => whnf)
    | (refine next_same ?_; conv => whnf)
    | (refine mapK_row (by assumption) ?_; conv => whnf)
    | (refine mapK_plain (Plain.of rfl) ?_; conv => whnf)
    | (refine mapK_lit ?_; conv => whnf)
    | (refine br_split (fun _ => ?_) (fun _ => ?_) <;> conv => whnf)
    | exact (rfl : (_ : Value) = _)
    | (simp only [*]; exact (rfl : (_ : Value) = _))
    | (simp [selF, *]; done))

theorem c_spec_SumOfNeighbours {a b c d : Int}  : Pure Try.prog n_spec_SumOfNeighbours [pt a b, pt c d] (t2 (pt (selF (isPtF a b && isPtF c d) (selF (isFracF a b && isFracF c d) (selF (nearF a b c d) (selF (isPtF (turnX (plusF a 1 c) (plusF b 1 d)) (turnY (plusF a 1 c) (plusF b 1 d))) (turnX (plusF a 1 c) (plusF b 1 d)) 0) 0) 0) 0) (selF (isPtF a b && isPtF c d) (selF (isFracF a b && isFracF c d) (selF (nearF a b c d) (selF (isPtF (turnX (plusF a 1 c) (plusF b 1 d)) (turnY (plusF a 1 c) (plusF b 1 d))) (turnY (plusF a 1 c) (plusF b 1 d)) 0) 0) 0) 0)) (ii (selF (isPtF a b && isPtF c d) (selF (isFracF a b && isFracF c d) (selF (nearF a b c d) (selF (isPtF (turnX (plusF a 1 c) (plusF b 1 d)) (turnY (plusF a 1 c) (plusF b 1 d))) (0) 3) 5) 2) 1))) := by
  refine pure_of good fn_spec_SumOfNeighbours rfl rfl ?_
  conv => whnf
  all_goals (repeat' first
    | (refine StoreK.mk rfl ?_; conv => whnf)
    | exact join_same
    | exact (by assumption : (_ : Bool) = (_ : Bool))
    | (refine br_true (by assumption) ?_; conv => whnf)
    | (refine br_false (by assumption) ?_; conv => whnf)
    | (refine br_not ?_; conv => whnf)
    | (refine br_code ?_; conv => whnf)
    | (with_reducible refine br_and ?_; conv => whnf)
    | (with_reducible refine br_or ?_; conv => whnf)
    | (refine br_eq2 ?_; conv => whnf)
    | (refine c_spec_l05Both.call ?_; conv => whnf)
    | (refine c_spec_l05Both.quiet ?_; conv => whnf)
    | (refine draw_auto (by decide +kernel) ?_; conv => whnf)
    | (refine draw_asg (by decide +kernel) ?_; conv => whnf)
    | (refine draw_st (by decide +kernel) ?_; conv => whnf)
    | (refine draw_call (by decide +kernel) ?_; conv => whnf)
    | (refine enter_same (loop_n 12 ?_); conv => whnf)
    | (refine next_same ?_; conv => whnf)
    | (refine mapK_row (by assumption) ?_; conv => whnf)
    | (refine mapK_plain (Plain.of rfl) ?_; conv => whnf)
    | (refine mapK_lit ?_; conv => whnf)
    | (refine br_split (fun _ => ?_) (fun _ => ?_) <;> conv => whnf)
    | exact (rfl : (_ : Value) = _)
    | (simp only [*]; exact (rfl : (_ : Value) = _))
    | (simp [selF, *]; done))

theorem c_laws_FnExactSumOfNeighbours {a b c d : Int}  : Pure Try.prog n_laws_FnExactSumOfNeighbours [pt a b, pt c d] (bb true) := by
  refine pure_of good fn_laws_FnExactSumOfNeighbours rfl rfl ?_
  conv => whnf
  all_goals (repeat' first
    | (refine br_true ?_ ?_; (focus (simp; done)); conv => whnf)
    | (refine br_false ?_ ?_; (focus (simp; done)); conv => whnf)
    | (refine StoreK.mk rfl ?_; conv => whnf)
    | exact join_same
    | exact (by assumption : (_ : Bool) = (_ : Bool))
    | (refine br_true (by assumption) ?_; conv => whnf)
    | (refine br_false (by assumption) ?_; conv => whnf)
    | (refine br_not ?_; conv => whnf)
    | (refine br_code ?_; conv => whnf)
    | (with_reducible refine br_and ?_; conv => whnf)
    | (with_reducible refine br_or ?_; conv => whnf)
    | (refine br_eq2 ?_; conv => whnf)
    | (refine c_laws_toPoint.call ?_; conv => whnf)
    | (refine c_laws_toPoint.quiet ?_; conv => whnf)
    | (refine c_spec_SumOfNeighbours.call ?_; conv => whnf)
    | (refine c_spec_SumOfNeighbours.quiet ?_; conv => whnf)
    | (refine c_impl_SumOfNeighbours.call ?_; conv => whnf)
    | (refine c_impl_SumOfNeighbours.quiet ?_; conv => whnf)
    | (refine c_laws_eqPoint.call ?_; conv => whnf)
    | (refine c_laws_eqPoint.quiet ?_; conv => whnf)
    | (refine draw_auto (by decide +kernel) ?_; conv => whnf)
    | (refine draw_asg (by decide +kernel) ?_; conv => whnf)
    | (refine draw_st (by decide +kernel) ?_; conv => whnf)
    | (refine draw_call (by decide +kernel) ?_; conv => whnf)
    | (refine enter_same (loop_n 12 ?_); conv => whnf)
    | (refine next_same ?_; conv => whnf)
    | (refine mapK_row (by assumption) ?_; conv => whnf)
    | (refine mapK_plain (Plain.of rfl) ?_; conv => whnf)
    | (refine mapK_lit ?_; conv => whnf)
    | (refine br_split (fun _ => ?_) (fun _ => ?_) <;> conv => whnf)
    | exact (rfl : (_ : Value) = _)
    | (simp only [*]; exact (rfl : (_ : Value) = _))
    | (simp [*]; done))

theorem c_impl_DifferenceOfNeighbours {a b c d : Int}  : Pure Try.prog n_impl_DifferenceOfNeighbours [pt a b, pt c d] (t2 (pt (selF (isPtF a b && isPtF c d) (selF (isFracF a b && isFracF c d) (selF (nearF a b c d) (selF (isPtF (turnX (plusF a (-1) c) (plusF b (-1) d)) (turnY (plusF a (-1) c) (plusF b (-1) d))) (turnX (plusF a (-1) c) (plusF b (-1) d)) 0) 0) 0) 0) (selF (isPtF a b && isPtF c d) (selF (isFracF a b && isFracF c d) (selF (nearF a b c d) (selF (isPtF (turnX (plusF a (-1) c) (plusF b (-1) d)) (turnY (plusF a (-1) c) (plusF b (-1) d))) (turnY (plusF a (-1) c) (plusF b (-1) d)) 0) 0) 0) 0)) (ii (selF (isPtF a b && isPtF c d) (selF (isFracF a b && isFracF c d) (selF (nearF a b c d) (selF (isPtF (turnX (plusF a (-1) c) (plusF b (-1) d)) (turnY (plusF a (-1) c) (plusF b (-1) d))) (0) 3) 5) 2) 1))) := by
  refine pure_of good fn_impl_DifferenceOfNeighbours rfl rfl ?_
  conv => whnf
  all_goals (repeat' first
    | (refine StoreK.mk rfl ?_; conv => whnf)
    | exact join_same
    | exact (by assumption : (_ : Bool) = (_ : Bool))
    | (refine br_true (by assumption) ?_; conv => whnf)
    | (refine br_false (by assumption) ?_; conv => whnf)
    | (refine br_not ?_; conv => whnf)
    | (refine br_code ?_; conv => whnf)
    | (with_reducible refine br_and ?_; conv => whnf)
    | (with_reducible refine br_or ?_; conv => whnf)
    | (refine br_eq2 ?_; conv => whnf)
    | (refine c_impl_together.call ?_; conv => whnf)
    | (refine c_impl_together.quiet ?_; conv => whnf)
    | (refine draw_auto (by decide +kernel) ?_; conv => whnf)
    | (refine draw_asg (by decide +kernel) ?_; conv => whnf)
    | (refine draw_st (by decide +kernel) ?_; conv => whnf)
    | (refine draw_call (by decide +kernel) ?_; conv => whnf)
    | (refine enter_same (loop_n 12 ?_); conv => whnf)
    | (refine next_same ?_; conv => whnf)
    | (refine mapK_row (by assumption) ?_; conv => whnf)
    | (refine mapK_plain (Plain.of rfl) ?_; conv => whnf)
    | (refine mapK_lit ?_; conv => whnf)
    | (refine br_split (fun _ => ?_) (fun _ => ?_) <;> conv => whnf)
    | exact (rfl : (_ : Value) = _)
    | (simp only [*]; exact (rfl : (_ : Value) = _))
    | (simp [selF, *]; done))

theorem c_spec_DifferenceOfNeighbours {a b c d : Int}  : Pure Try.prog n_spec_DifferenceOfNeighbours [pt a b, pt c d] (t2 (pt (selF (isPtF a b && isPtF c d) (selF (isFracF a b && isFracF c d) (selF (nearF a b c d) (selF (isPtF (turnX (plusF a (-1) c) (plusF b (-1) d)) (turnY (plusF a (-1) c) (plusF b (-1) d))) (turnX (plusF a (-1) c) (plusF b (-1) d)) 0) 0) 0) 0) (selF (isPtF a b && isPtF c d) (selF (isFracF a b && isFracF c d) (selF (nearF a b c d) (selF (isPtF (turnX (plusF a (-1) c) (plusF b (-1) d)) (turnY (plusF a (-1) c) (plusF b (-1) d))) (turnY (plusF a (-1) c) (plusF b (-1) d)) 0) 0) 0) 0)) (ii (selF (isPtF a b && isPtF c d) (selF (isFracF a b && isFracF c d) (selF (nearF a b c d) (selF (isPtF (turnX (plusF a (-1) c) (plusF b (-1) d)) (turnY (plusF a (-1) c) (plusF b (-1) d))) (0) 3) 5) 2) 1))) := by
  refine pure_of good fn_spec_DifferenceOfNeighbours rfl rfl ?_
  conv => whnf
  all_goals (repeat' first
    | (refine StoreK.mk rfl ?_; conv => whnf)
    | exact join_same
    | exact (by assumption : (_ : Bool) = (_ : Bool))
    | (refine br_true (by assumption) ?_; conv => whnf)
    | (refine br_false (by assumption) ?_; conv => whnf)
    | (refine br_not ?_; conv => whnf)
    | (refine br_code ?_; conv => whnf)
    | (with_reducible refine br_and ?_; conv => whnf)
    | (with_reducible refine br_or ?_; conv => whnf)
    | (refine br_eq2 ?_; conv => whnf)
    | (refine c_spec_l05Both.call ?_; conv => whnf)
    | (refine c_spec_l05Both.quiet ?_; conv => whnf)
    | (refine draw_auto (by decide +kernel) ?_; conv => whnf)
    | (refine draw_asg (by decide +kernel) ?_; conv => whnf)
    | (refine draw_st (by decide +kernel) ?_; conv => whnf)
    | (refine draw_call (by decide +kernel) ?_; conv => whnf)
    | (refine enter_same (loop_n 12 ?_); conv => whnf)
    | (refine next_same ?_; conv => whnf)
    | (refine mapK_row (by assumption) ?_; conv => whnf)
    | (refine mapK_plain (Plain.of rfl) ?_; conv => whnf)
    | (refine mapK_lit ?_; conv => whnf)
    | (refine br_split (fun _ => ?_) (fun _ => ?_) <;> conv => whnf)
    | exact (rfl : (_ : Value) = _)
    | (simp only [*]; exact (rfl : (_ : Value) = _))
    | (simp [selF, *]; done))

theorem c_laws_FnExactDifferenceOfNeighbours {a b c d : Int}  : Pure Try.prog n_laws_FnExactDifferenceOfNeighbours [pt a b, pt c d] (bb true) := by
  refine pure_of good fn_laws_FnExactDifferenceOfNeighbours rfl rfl ?_
  conv => whnf
  all_goals (repeat' first
    | (refine br_true ?_ ?_; (focus (simp; done)); conv => whnf)
    | (refine br_false ?_ ?_; (focus (simp; done)); conv => whnf)
    | (refine StoreK.mk rfl ?_; conv => whnf)
    | exact join_same
    | exact (by assumption : (_ : Bool) = (_ : Bool))
    | (refine br_true (by assumption) ?_; conv => whnf)
    | (refine br_false (by assumption) ?_; conv => whnf)
    | (refine br_not ?_; conv => whnf)
    | (refine br_code ?_; conv => whnf)
    | (with_reducible refine br_and ?_; conv => whnf)
    | (with_reducible refine br_or ?_; conv => whnf)
    | (refine br_eq2 ?_; conv => whnf)
    | (refine c_laws_toPoint.call ?_; conv => whnf)
    | (refine c_laws_toPoint.quiet ?_; conv => whnf)
    | (refine c_spec_DifferenceOfNeighbours.call ?_; conv => whnf)
    | (refine c_spec_DifferenceOfNeighbours.quiet ?_; conv => whnf)
    | (refine c_impl_DifferenceOfNeighbours.call ?_; conv => whnf)
    | (refine c_impl_DifferenceOfNeighbours.quiet ?_; conv => whnf)
    | (refine c_laws_eqPoint.call ?_; conv => whnf)
    | (refine c_laws_eqPoint.quiet ?_; conv => whnf)
    | (refine draw_auto (by decide +kernel) ?_; conv => whnf)
    | (refine draw_asg (by decide +kernel) ?_; conv => whnf)
    | (refine draw_st (by decide +kernel) ?_; conv => whnf)
    | (refine draw_call (by decide +kernel) ?_; conv => whnf)
    | (refine enter_same (loop_n 12 ?_); conv => whnf)
    | (refine next_same ?_; conv => whnf)
    | (refine mapK_row (by assumption) ?_; conv => whnf)
    | (refine mapK_plain (Plain.of rfl) ?_; conv => whnf)
    | (refine mapK_lit ?_; conv => whnf)
    | (refine br_split (fun _ => ?_) (fun _ => ?_) <;> conv => whnf)
    | exact (rfl : (_ : Value) = _)
    | (simp only [*]; exact (rfl : (_ : Value) = _))
    | (simp [*]; done))

def sumX (a b c d : Int) : Int := turnX (plusF a 1 c) (plusF b 1 d)
def sumY (a b c d : Int) : Int := turnY (plusF a 1 c) (plusF b 1 d)
def difX (a b c d : Int) : Int := turnX (plusF a (-1) c) (plusF b (-1) d)
def difY (a b c d : Int) : Int := turnY (plusF a (-1) c) (plusF b (-1) d)
def isSum (a b c d e f : Int) : Bool := decide (e = sumX a b c d) && decide (f = sumY a b c d)
def isDif (a b c d e f : Int) : Bool := decide (e = difX a b c d) && decide (f = difY a b c d)

theorem br_sum {a b c d e f : Int} {A B : Prop} (h : brK (isSum a b c d e f) A B) : brK (eqCells [.int .i64 e, .int .i64 f] [.int .i64 (turnX (plusF a 1 c) (plusF b 1 d)), .int .i64 (turnY (plusF a 1 c) (plusF b 1 d))]) A B := br_eq2 (by
  unfold isSum sumX sumY at h
  cases h1 : decide (e = turnX (plusF a 1 c) (plusF b 1 d)) <;> rw [h1] at h <;> exact h)
theorem br_dif {a b c d e f : Int} {A B : Prop} (h : brK (isDif a b c d e f) A B) : brK (eqCells [.int .i64 e, .int .i64 f] [.int .i64 (turnX (plusF a (-1) c) (plusF b (-1) d)), .int .i64 (turnY (plusF a (-1) c) (plusF b (-1) d))]) A B := br_eq2 (by
  unfold isDif difX difY at h
  cases h1 : decide (e = turnX (plusF a (-1) c) (plusF b (-1) d)) <;> rw [h1] at h <;> exact h)

attribute [local irreducible] plusF turnX turnY isPtF isFracF nearF

theorem c_impl_ReflectFraction {a b c d e f : Int}  : Pure Try.prog n_impl_ReflectFraction [pt a b, pt c d, pt e f] (t2 (pt (selF (isPtF a b && isPtF c d && isPtF e f) (selF (isFracF a b && isFracF c d && isFracF e f) (selF (nearF a b c d) (selF (isSum a b c d e f || isDif a b c d e f) (selF (isPtF (selF (isSum a b c d e f) (difX a b c d) (sumX a b c d)) (selF (isSum a b c d e f) (difY a b c d) (sumY a b c d))) (selF (isSum a b c d e f) (difX a b c d) (sumX a b c d)) 0) 0) 0) 0) 0) (selF (isPtF a b && isPtF c d && isPtF e f) (selF (isFracF a b && isFracF c d && isFracF e f) (selF (nearF a b c d) (selF (isSum a b c d e f || isDif a b c d e f) (selF (isPtF (selF (isSum a b c d e f) (difX a b c d) (sumX a b c d)) (selF (isSum a b c d e f) (difY a b c d) (sumY a b c d))) (selF (isSum a b c d e f) (difY a b c d) (sumY a b c d)) 0) 0) 0) 0) 0)) (ii (selF (isPtF a b && isPtF c d && isPtF e f) (selF (isFracF a b && isFracF c d && isFracF e f) (selF (nearF a b c d) (selF (isSum a b c d e f || isDif a b c d e f) (selF (isPtF (selF (isSum a b c d e f) (difX a b c d) (sumX a b c d)) (selF (isSum a b c d e f) (difY a b c d) (sumY a b c d))) (0) 3) 5) 5) 2) 1))) := by
  refine pure_of good fn_impl_ReflectFraction rfl rfl ?_
  conv => whnf
  all_goals (repeat' first
    | (refine br_fault ?_; conv => whnf)
    | (refine br_sum ?_; conv => whnf)
    | (refine br_dif ?_; conv => whnf)
    | (refine StoreK.mk rfl ?_; conv => whnf)
    | exact join_same
    | exact (by assumption : (_ : Bool) = (_ : Bool))
    | (refine br_true (by assumption) ?_; conv => whnf)
    | (refine br_false (by assumption) ?_; conv => whnf)
    | (refine br_not ?_; conv => whnf)
    | (refine br_code ?_; conv => whnf)
    | (with_reducible refine br_and ?_; conv => whnf)
    | (with_reducible refine br_or ?_; conv => whnf)
    | (refine br_eq2 ?_; conv => whnf)
    | (refine c_fault_1.call1 rfl rfl ⟨_, rfl⟩ ?_; conv => whnf)
    | (refine c_fault_1.quiet1 rfl rfl ⟨_, rfl⟩ ?_; conv => whnf)
    | (refine c_fault_2.call1 rfl rfl ⟨_, rfl⟩ ?_; conv => whnf)
    | (refine c_fault_2.quiet1 rfl rfl ⟨_, rfl⟩ ?_; conv => whnf)
    | (refine c_fault_3.call1 rfl rfl ⟨_, rfl⟩ ?_; conv => whnf)
    | (refine c_fault_3.quiet1 rfl rfl ⟨_, rfl⟩ ?_; conv => whnf)
    | (refine c_impl_Point_plus.call ?_; conv => whnf)
    | (refine c_impl_Point_plus.quiet ?_; conv => whnf)
    | (refine c_impl_Point_fraction.call ?_; conv => whnf)
    | (refine c_impl_Point_fraction.quiet ?_; conv => whnf)
    | (refine c_impl_Point_less.call ?_; conv => whnf)
    | (refine c_impl_Point_less.quiet ?_; conv => whnf)
    | (refine c_impl_neighbours.call ?_; conv => whnf)
    | (refine c_impl_neighbours.quiet ?_; conv => whnf)
    | (refine c_impl_Point_told.call ?_; conv => whnf)
    | (refine c_impl_Point_told.quiet ?_; conv => whnf)
    | (refine draw_auto (by decide +kernel) ?_; conv => whnf)
    | (refine draw_asg (by decide +kernel) ?_; conv => whnf)
    | (refine draw_st (by decide +kernel) ?_; conv => whnf)
    | (refine draw_call (by decide +kernel) ?_; conv => whnf)
    | (refine enter_same (loop_n 12 ?_); conv => whnf)
    | (refine next_same ?_; conv => whnf)
    | (refine mapK_row (by assumption) ?_; conv => whnf)
    | (refine mapK_plain (Plain.of rfl) ?_; conv => whnf)
    | (refine mapK_lit ?_; conv => whnf)
    | (refine br_split (fun _ => ?_) (fun _ => ?_) <;> conv => whnf)
    | exact (rfl : (_ : Value) = _)
    | (simp only [*]; exact (rfl : (_ : Value) = _))
    | (simp [selF, faultF, sumX, sumY, difX, difY, *]; done))

theorem c_spec_ReflectFraction {a b c d e f : Int}  : Pure Try.prog n_spec_ReflectFraction [pt a b, pt c d, pt e f] (t2 (pt (selF (isPtF a b && isPtF c d && isPtF e f) (selF (isFracF a b && isFracF c d && isFracF e f) (selF (nearF a b c d) (selF (isSum a b c d e f || isDif a b c d e f) (selF (isPtF (selF (isSum a b c d e f) (difX a b c d) (sumX a b c d)) (selF (isSum a b c d e f) (difY a b c d) (sumY a b c d))) (selF (isSum a b c d e f) (difX a b c d) (sumX a b c d)) 0) 0) 0) 0) 0) (selF (isPtF a b && isPtF c d && isPtF e f) (selF (isFracF a b && isFracF c d && isFracF e f) (selF (nearF a b c d) (selF (isSum a b c d e f || isDif a b c d e f) (selF (isPtF (selF (isSum a b c d e f) (difX a b c d) (sumX a b c d)) (selF (isSum a b c d e f) (difY a b c d) (sumY a b c d))) (selF (isSum a b c d e f) (difY a b c d) (sumY a b c d)) 0) 0) 0) 0) 0)) (ii (selF (isPtF a b && isPtF c d && isPtF e f) (selF (isFracF a b && isFracF c d && isFracF e f) (selF (nearF a b c d) (selF (isSum a b c d e f || isDif a b c d e f) (selF (isPtF (selF (isSum a b c d e f) (difX a b c d) (sumX a b c d)) (selF (isSum a b c d e f) (difY a b c d) (sumY a b c d))) (0) 3) 5) 5) 2) 1))) := by
  refine pure_of good fn_spec_ReflectFraction rfl rfl ?_
  conv => whnf
  all_goals (repeat' first
    | (refine br_fault ?_; conv => whnf)
    | (refine br_sum ?_; conv => whnf)
    | (refine br_dif ?_; conv => whnf)
    | (refine StoreK.mk rfl ?_; conv => whnf)
    | exact join_same
    | exact (by assumption : (_ : Bool) = (_ : Bool))
    | (refine br_true (by assumption) ?_; conv => whnf)
    | (refine br_false (by assumption) ?_; conv => whnf)
    | (refine br_not ?_; conv => whnf)
    | (refine br_code ?_; conv => whnf)
    | (with_reducible refine br_and ?_; conv => whnf)
    | (with_reducible refine br_or ?_; conv => whnf)
    | (refine br_eq2 ?_; conv => whnf)
    | (refine c_l05Code_1.call1 rfl rfl ⟨_, rfl⟩ ?_; conv => whnf)
    | (refine c_l05Code_1.quiet1 rfl rfl ⟨_, rfl⟩ ?_; conv => whnf)
    | (refine c_l05Code_2.call1 rfl rfl ⟨_, rfl⟩ ?_; conv => whnf)
    | (refine c_l05Code_2.quiet1 rfl rfl ⟨_, rfl⟩ ?_; conv => whnf)
    | (refine c_l05Code_3.call1 rfl rfl ⟨_, rfl⟩ ?_; conv => whnf)
    | (refine c_l05Code_3.quiet1 rfl rfl ⟨_, rfl⟩ ?_; conv => whnf)
    | (refine c_spec_l01Plus.call ?_; conv => whnf)
    | (refine c_spec_l01Plus.quiet ?_; conv => whnf)
    | (refine c_spec_l05Turn.call ?_; conv => whnf)
    | (refine c_spec_l05Turn.quiet ?_; conv => whnf)
    | (refine c_spec_l05Near.call ?_; conv => whnf)
    | (refine c_spec_l05Near.quiet ?_; conv => whnf)
    | (refine c_spec_l01Told.call ?_; conv => whnf)
    | (refine c_spec_l01Told.quiet ?_; conv => whnf)
    | (refine draw_auto (by decide +kernel) ?_; conv => whnf)
    | (refine draw_asg (by decide +kernel) ?_; conv => whnf)
    | (refine draw_st (by decide +kernel) ?_; conv => whnf)
    | (refine draw_call (by decide +kernel) ?_; conv => whnf)
    | (refine enter_same (loop_n 12 ?_); conv => whnf)
    | (refine next_same ?_; conv => whnf)
    | (refine mapK_row (by assumption) ?_; conv => whnf)
    | (refine mapK_plain (Plain.of rfl) ?_; conv => whnf)
    | (refine mapK_lit ?_; conv => whnf)
    | (refine br_split (fun _ => ?_) (fun _ => ?_) <;> conv => whnf)
    | exact (rfl : (_ : Value) = _)
    | (simp only [*]; exact (rfl : (_ : Value) = _))
    | (simp [selF, faultF, sumX, sumY, difX, difY, *]; done))

theorem c_laws_FnExactReflectFraction {a b c d e f : Int}  : Pure Try.prog n_laws_FnExactReflectFraction [pt a b, pt c d, pt e f] (bb true) := by
  refine pure_of good fn_laws_FnExactReflectFraction rfl rfl ?_
  conv => whnf
  all_goals (repeat' first
    | (refine br_true ?_ ?_; (focus (simp; done)); conv => whnf)
    | (refine br_false ?_ ?_; (focus (simp; done)); conv => whnf)
    | (refine StoreK.mk rfl ?_; conv => whnf)
    | exact join_same
    | exact (by assumption : (_ : Bool) = (_ : Bool))
    | (refine br_true (by assumption) ?_; conv => whnf)
    | (refine br_false (by assumption) ?_; conv => whnf)
    | (refine br_not ?_; conv => whnf)
    | (refine br_code ?_; conv => whnf)
    | (with_reducible refine br_and ?_; conv => whnf)
    | (with_reducible refine br_or ?_; conv => whnf)
    | (refine br_eq2 ?_; conv => whnf)
    | (refine c_laws_toPoint.call ?_; conv => whnf)
    | (refine c_laws_toPoint.quiet ?_; conv => whnf)
    | (refine c_spec_ReflectFraction.call ?_; conv => whnf)
    | (refine c_spec_ReflectFraction.quiet ?_; conv => whnf)
    | (refine c_impl_ReflectFraction.call ?_; conv => whnf)
    | (refine c_impl_ReflectFraction.quiet ?_; conv => whnf)
    | (refine c_laws_eqPoint.call ?_; conv => whnf)
    | (refine c_laws_eqPoint.quiet ?_; conv => whnf)
    | (refine draw_auto (by decide +kernel) ?_; conv => whnf)
    | (refine draw_asg (by decide +kernel) ?_; conv => whnf)
    | (refine draw_st (by decide +kernel) ?_; conv => whnf)
    | (refine draw_call (by decide +kernel) ?_; conv => whnf)
    | (refine enter_same (loop_n 12 ?_); conv => whnf)
    | (refine next_same ?_; conv => whnf)
    | (refine mapK_row (by assumption) ?_; conv => whnf)
    | (refine mapK_plain (Plain.of rfl) ?_; conv => whnf)
    | (refine mapK_lit ?_; conv => whnf)
    | (refine br_split (fun _ => ?_) (fun _ => ?_) <;> conv => whnf)
    | exact (rfl : (_ : Value) = _)
    | (simp only [*]; exact (rfl : (_ : Value) = _))
    | (simp [*]; done))

def primX (a b : Int) : Int := w64 (a.tdiv (gcdF a b))
def primY (a b : Int) : Int := w64 (b.tdiv (gcdF a b))

theorem c_spec_l01Part {a b : Int} (hb : decide (gcdF a b = 0) = false) : Pure Try.prog n_spec_l01Part [pt a b] (pt (primX a b) (primY a b)) := by
  refine pure_of good fn_spec_l01Part rfl rfl ?_
  conv => whnf
  all_goals (repeat' first
    | (refine StoreK.mk rfl ?_; conv => whnf)
    | exact join_same
    | exact (by assumption : (_ : Bool) = (_ : Bool))
    | (refine br_true (by assumption) ?_; conv => whnf)
    | (refine br_false (by assumption) ?_; conv => whnf)
    | (refine br_not ?_; conv => whnf)
    | (refine br_code ?_; conv => whnf)
    | (with_reducible refine br_and ?_; conv => whnf)
    | (with_reducible refine br_or ?_; conv => whnf)
    | (refine br_eq2 ?_; conv => whnf)
    | (refine c_spec_l01Gcd.call ?_; conv => whnf)
    | (refine c_spec_l01Gcd.quiet ?_; conv => whnf)
    | (refine draw_auto (by decide +kernel) ?_; conv => whnf)
    | (refine draw_asg (by decide +kernel) ?_; conv => whnf)
    | (refine draw_st (by decide +kernel) ?_; conv => whnf)
    | (refine draw_call (by decide +kernel) ?_; conv => whnf)
    | (refine enter_same (loop_n 12 ?_); conv => whnf)
    | (refine next_same ?_; conv => whnf)
    | (refine mapK_row (by assumption) ?_; conv => whnf)
    | (refine mapK_plain (Plain.of rfl) ?_; conv => whnf)
    | (refine mapK_lit ?_; conv => whnf)
    | (refine br_split (fun _ => ?_) (fun _ => ?_) <;> conv => whnf)
    | exact (rfl : (_ : Value) = _)
    | (simp only [*]; exact (rfl : (_ : Value) = _))
    | (simp [*]; done))

end Go.Proofs.Ytnjepaboecijcaa
