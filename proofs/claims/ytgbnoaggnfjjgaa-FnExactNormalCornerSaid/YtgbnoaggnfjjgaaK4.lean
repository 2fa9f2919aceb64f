/-
  Contracts of functions of the program (printed by a program of this work; Lean checks each).
  Conditions: as each contract states.
-/
import Derived.Test.YtgbnoaggnfjjgaaK3
import Derived.Test.YtgbnoaggnfjjgaaCorn
namespace Go.Proofs.Ytgbnoaggnfjjgaa
open Go.Ev Go.RowKit
set_option maxRecDepth 100000
set_option linter.unusedVariables false
set_option linter.unusedSimpArgs false

theorem c_impl_IsMatrix {a b c d : Int}  : Pure Try.prog n_impl_IsMatrix [q4 a b c d] (bb (isPtF a b && isPtF c d)) := by
  refine pure_of good fn_impl_IsMatrix rfl rfl ?_
  conv => whnf
  all_goals (repeat' first
    | exact (by assumption : (_ : Bool) = (_ : Bool))
    | (refine br_true (by assumption) ?_; conv => whnf)
    | (refine br_false (by assumption) ?_; conv => whnf)
    | (refine br_not ?_; conv => whnf)
    | (refine br_code ?_; conv => whnf)
    | (with_reducible refine br_and ?_; conv => whnf)
    | (with_reducible refine br_or ?_; conv => whnf)
    | (refine br_eq2 ?_; conv => whnf)
    | (refine c_points_2.call1 rfl rfl ⟨_, rfl⟩ ?_; conv => whnf)
    | (refine c_points_2.quiet1 rfl rfl ⟨_, rfl⟩ ?_; conv => whnf)
    | (refine c_points_3.call1 rfl rfl ⟨_, rfl⟩ ?_; conv => whnf)
    | (refine c_points_3.quiet1 rfl rfl ⟨_, rfl⟩ ?_; conv => whnf)
    | (refine c_points_1.call1 rfl rfl ⟨_, rfl⟩ ?_; conv => whnf)
    | (refine c_points_1.quiet1 rfl rfl ⟨_, rfl⟩ ?_; conv => whnf)
    | (refine draw_auto (by decide +kernel) ?_; conv => whnf)
    | (refine draw_asg (by decide +kernel) ?_; conv => whnf)
    | (refine draw_st (by decide +kernel) ?_; conv => whnf)
    | (refine loop_n 12 ?_; conv => whnf)
    | (refine br_split (fun _ => ?_) (fun _ => ?_) <;> conv => whnf)
    | exact (rfl : (_ : Value) = _)
    | (simp only [*]; exact (rfl : (_ : Value) = _))
    | (simp [*]; done))

theorem c_spec_l01Matrix {a b c d : Int}  : Pure Try.prog n_spec_l01Matrix [q4 a b c d] (bb (isPtF a b && isPtF c d)) := by
  refine pure_of good fn_spec_l01Matrix rfl rfl ?_
  conv => whnf
  all_goals (repeat' first
    | exact (by assumption : (_ : Bool) = (_ : Bool))
    | (refine br_true (by assumption) ?_; conv => whnf)
    | (refine br_false (by assumption) ?_; conv => whnf)
    | (refine br_not ?_; conv => whnf)
    | (refine br_code ?_; conv => whnf)
    | (with_reducible refine br_and ?_; conv => whnf)
    | (with_reducible refine br_or ?_; conv => whnf)
    | (refine br_eq2 ?_; conv => whnf)
    | (refine c_spec_l01Fits.call ?_; conv => whnf)
    | (refine c_spec_l01Fits.quiet ?_; conv => whnf)
    | (refine draw_auto (by decide +kernel) ?_; conv => whnf)
    | (refine draw_asg (by decide +kernel) ?_; conv => whnf)
    | (refine draw_st (by decide +kernel) ?_; conv => whnf)
    | (refine loop_n 12 ?_; conv => whnf)
    | (refine br_split (fun _ => ?_) (fun _ => ?_) <;> conv => whnf)
    | exact (rfl : (_ : Value) = _)
    | (simp only [*]; exact (rfl : (_ : Value) = _))
    | (simp [isPtF, *]; done))

theorem c_impl_Matrix_det {a b c d : Int}  : Pure Try.prog n_impl_Matrix_det [q4 a b c d] (ii (detF a b c d)) := by
  refine pure_of good fn_impl_Matrix_det rfl rfl ?_
  conv => whnf
  all_goals (repeat' first
    | exact (by assumption : (_ : Bool) = (_ : Bool))
    | (refine br_true (by assumption) ?_; conv => whnf)
    | (refine br_false (by assumption) ?_; conv => whnf)
    | (refine br_not ?_; conv => whnf)
    | (refine br_code ?_; conv => whnf)
    | (with_reducible refine br_and ?_; conv => whnf)
    | (with_reducible refine br_or ?_; conv => whnf)
    | (refine br_eq2 ?_; conv => whnf)
    | (refine c_impl_det.call ?_; conv => whnf)
    | (refine c_impl_det.quiet ?_; conv => whnf)
    | (refine draw_auto (by decide +kernel) ?_; conv => whnf)
    | (refine draw_asg (by decide +kernel) ?_; conv => whnf)
    | (refine draw_st (by decide +kernel) ?_; conv => whnf)
    | (refine loop_n 12 ?_; conv => whnf)
    | (refine br_split (fun _ => ?_) (fun _ => ?_) <;> conv => whnf)
    | exact (rfl : (_ : Value) = _)
    | (simp only [*]; exact (rfl : (_ : Value) = _))
    | (simp [*]; done))

theorem c_spec_l01DetOf {a b c d : Int}  : Pure Try.prog n_spec_l01DetOf [q4 a b c d] (ii (detF a b c d)) := by
  refine pure_of good fn_spec_l01DetOf rfl rfl ?_
  conv => whnf
  all_goals (repeat' first
    | exact (by assumption : (_ : Bool) = (_ : Bool))
    | (refine br_true (by assumption) ?_; conv => whnf)
    | (refine br_false (by assumption) ?_; conv => whnf)
    | (refine br_not ?_; conv => whnf)
    | (refine br_code ?_; conv => whnf)
    | (with_reducible refine br_and ?_; conv => whnf)
    | (with_reducible refine br_or ?_; conv => whnf)
    | (refine br_eq2 ?_; conv => whnf)
    | (refine draw_auto (by decide +kernel) ?_; conv => whnf)
    | (refine draw_asg (by decide +kernel) ?_; conv => whnf)
    | (refine draw_st (by decide +kernel) ?_; conv => whnf)
    | (refine loop_n 12 ?_; conv => whnf)
    | (refine br_split (fun _ => ?_) (fun _ => ?_) <;> conv => whnf)
    | exact (rfl : (_ : Value) = _)
    | (simp only [*]; exact (rfl : (_ : Value) = _))
    | (simp [*]; done))

theorem c_impl_Matrix_unimodular {a b c d : Int}  : Pure Try.prog n_impl_Matrix_unimodular [q4 a b c d] (bb (nearF a b c d)) := by
  refine pure_of good fn_impl_Matrix_unimodular rfl rfl ?_
  conv => whnf
  all_goals (repeat' first
    | exact (by assumption : (_ : Bool) = (_ : Bool))
    | (refine br_true (by assumption) ?_; conv => whnf)
    | (refine br_false (by assumption) ?_; conv => whnf)
    | (refine br_not ?_; conv => whnf)
    | (refine br_code ?_; conv => whnf)
    | (with_reducible refine br_and ?_; conv => whnf)
    | (with_reducible refine br_or ?_; conv => whnf)
    | (refine br_eq2 ?_; conv => whnf)
    | (refine c_impl_Matrix_det.call ?_; conv => whnf)
    | (refine c_impl_Matrix_det.quiet ?_; conv => whnf)
    | (refine c_impl_size.call ?_; conv => whnf)
    | (refine c_impl_size.quiet ?_; conv => whnf)
    | (refine draw_auto (by decide +kernel) ?_; conv => whnf)
    | (refine draw_asg (by decide +kernel) ?_; conv => whnf)
    | (refine draw_st (by decide +kernel) ?_; conv => whnf)
    | (refine loop_n 12 ?_; conv => whnf)
    | (refine br_split (fun _ => ?_) (fun _ => ?_) <;> conv => whnf)
    | exact (rfl : (_ : Value) = _)
    | (simp only [*]; exact (rfl : (_ : Value) = _))
    | (simp [*]; done))

theorem c_spec_l01Unit {a b c d : Int}  : Pure Try.prog n_spec_l01Unit [q4 a b c d] (bb (nearF a b c d)) := by
  refine pure_of good fn_spec_l01Unit rfl rfl ?_
  conv => whnf
  all_goals (repeat' first
    | exact (by assumption : (_ : Bool) = (_ : Bool))
    | (refine br_true (by assumption) ?_; conv => whnf)
    | (refine br_false (by assumption) ?_; conv => whnf)
    | (refine br_not ?_; conv => whnf)
    | (refine br_code ?_; conv => whnf)
    | (with_reducible refine br_and ?_; conv => whnf)
    | (with_reducible refine br_or ?_; conv => whnf)
    | (refine br_eq2 ?_; conv => whnf)
    | (refine c_spec_l01DetOf.call ?_; conv => whnf)
    | (refine c_spec_l01DetOf.quiet ?_; conv => whnf)
    | (refine draw_auto (by decide +kernel) ?_; conv => whnf)
    | (refine draw_asg (by decide +kernel) ?_; conv => whnf)
    | (refine draw_st (by decide +kernel) ?_; conv => whnf)
    | (refine loop_n 12 ?_; conv => whnf)
    | (refine br_split (fun _ => ?_) (fun _ => ?_) <;> conv => whnf)
    | exact (rfl : (_ : Value) = _)
    | (simp only [*]; exact (rfl : (_ : Value) = _))
    | (simp [near_alt, *]; done))

theorem c_impl_Matrix_apply {a b c d e f : Int}  : Pure Try.prog n_impl_Matrix_apply [q4 a b c d, pt e f] (pt (apF a b e f) (apF c d e f)) := by
  refine pure_of good fn_impl_Matrix_apply rfl rfl ?_
  conv => whnf
  all_goals (repeat' first
    | exact (by assumption : (_ : Bool) = (_ : Bool))
    | (refine br_true (by assumption) ?_; conv => whnf)
    | (refine br_false (by assumption) ?_; conv => whnf)
    | (refine br_not ?_; conv => whnf)
    | (refine br_code ?_; conv => whnf)
    | (with_reducible refine br_and ?_; conv => whnf)
    | (with_reducible refine br_or ?_; conv => whnf)
    | (refine br_eq2 ?_; conv => whnf)
    | (refine draw_auto (by decide +kernel) ?_; conv => whnf)
    | (refine draw_asg (by decide +kernel) ?_; conv => whnf)
    | (refine draw_st (by decide +kernel) ?_; conv => whnf)
    | (refine loop_n 12 ?_; conv => whnf)
    | (refine br_split (fun _ => ?_) (fun _ => ?_) <;> conv => whnf)
    | exact (rfl : (_ : Value) = _)
    | (simp only [*]; exact (rfl : (_ : Value) = _))
    | (simp [*]; done))

theorem c_spec_l01Apply {a b c d e f : Int}  : Pure Try.prog n_spec_l01Apply [q4 a b c d, pt e f] (pt (apF a b e f) (apF c d e f)) := by
  refine pure_of good fn_spec_l01Apply rfl rfl ?_
  conv => whnf
  all_goals (repeat' first
    | exact (by assumption : (_ : Bool) = (_ : Bool))
    | (refine br_true (by assumption) ?_; conv => whnf)
    | (refine br_false (by assumption) ?_; conv => whnf)
    | (refine br_not ?_; conv => whnf)
    | (refine br_code ?_; conv => whnf)
    | (with_reducible refine br_and ?_; conv => whnf)
    | (with_reducible refine br_or ?_; conv => whnf)
    | (refine br_eq2 ?_; conv => whnf)
    | (refine draw_auto (by decide +kernel) ?_; conv => whnf)
    | (refine draw_asg (by decide +kernel) ?_; conv => whnf)
    | (refine draw_st (by decide +kernel) ?_; conv => whnf)
    | (refine loop_n 12 ?_; conv => whnf)
    | (refine br_split (fun _ => ?_) (fun _ => ?_) <;> conv => whnf)
    | exact (rfl : (_ : Value) = _)
    | (simp only [*]; exact (rfl : (_ : Value) = _))
    | (simp [*]; done))

theorem c_impl_Point_fraction {a b : Int}  : Pure Try.prog n_impl_Point_fraction [pt a b] (pt (turnX a b) (turnY a b)) := by
  refine pure_of good fn_impl_Point_fraction rfl rfl ?_
  conv => whnf
  all_goals (repeat' first
    | exact (by assumption : (_ : Bool) = (_ : Bool))
    | (refine br_true (by assumption) ?_; conv => whnf)
    | (refine br_false (by assumption) ?_; conv => whnf)
    | (refine br_not ?_; conv => whnf)
    | (refine br_code ?_; conv => whnf)
    | (with_reducible refine br_and ?_; conv => whnf)
    | (with_reducible refine br_or ?_; conv => whnf)
    | (refine br_eq2 ?_; conv => whnf)
    | (refine c_impl_Point_less.call ?_; conv => whnf)
    | (refine c_impl_Point_less.quiet ?_; conv => whnf)
    | (refine draw_auto (by decide +kernel) ?_; conv => whnf)
    | (refine draw_asg (by decide +kernel) ?_; conv => whnf)
    | (refine draw_st (by decide +kernel) ?_; conv => whnf)
    | (refine loop_n 12 ?_; conv => whnf)
    | (refine br_split (fun _ => ?_) (fun _ => ?_) <;> conv => whnf)
    | exact (rfl : (_ : Value) = _)
    | (simp only [*]; exact (rfl : (_ : Value) = _))
    | (simp [turnX, turnY, turnF, selF, plusF_0neg, *]; done))

theorem c_spec_l05Turn {a b : Int}  : Pure Try.prog n_spec_l05Turn [pt a b] (pt (turnX a b) (turnY a b)) := by
  refine pure_of good fn_spec_l05Turn rfl rfl ?_
  conv => whnf
  all_goals (repeat' first
    | exact (by assumption : (_ : Bool) = (_ : Bool))
    | (refine br_true (by assumption) ?_; conv => whnf)
    | (refine br_false (by assumption) ?_; conv => whnf)
    | (refine br_not ?_; conv => whnf)
    | (refine br_code ?_; conv => whnf)
    | (with_reducible refine br_and ?_; conv => whnf)
    | (with_reducible refine br_or ?_; conv => whnf)
    | (refine br_eq2 ?_; conv => whnf)
    | (refine draw_auto (by decide +kernel) ?_; conv => whnf)
    | (refine draw_asg (by decide +kernel) ?_; conv => whnf)
    | (refine draw_st (by decide +kernel) ?_; conv => whnf)
    | (refine loop_n 12 ?_; conv => whnf)
    | (refine br_split (fun _ => ?_) (fun _ => ?_) <;> conv => whnf)
    | exact (rfl : (_ : Value) = _)
    | (simp only [*]; exact (rfl : (_ : Value) = _))
    | (simp [turnX, turnY, turnF, selF, *]; done))

theorem c_impl_ApplyToFraction {a b c d e f : Int}  : Pure Try.prog n_impl_ApplyToFraction [q4 a b c d, pt e f] (t2 (pt (selF ((isPtF a b && isPtF c d) && isPtF e f) (selF (isFracF e f) (selF (nearF a b c d) (selF (isPtF (turnX (apF a b e f) (apF c d e f)) (turnY (apF a b e f) (apF c d e f))) (turnX (apF a b e f) (apF c d e f)) 0) 0) 0) 0) (selF ((isPtF a b && isPtF c d) && isPtF e f) (selF (isFracF e f) (selF (nearF a b c d) (selF (isPtF (turnX (apF a b e f) (apF c d e f)) (turnY (apF a b e f) (apF c d e f))) (turnY (apF a b e f) (apF c d e f)) 0) 0) 0) 0)) (ii (selF ((isPtF a b && isPtF c d) && isPtF e f) (selF (isFracF e f) (selF (nearF a b c d) (selF (isPtF (turnX (apF a b e f) (apF c d e f)) (turnY (apF a b e f) (apF c d e f))) (0) 3) 5) 2) 1))) := by
  refine pure_of good fn_impl_ApplyToFraction rfl rfl ?_
  conv => whnf
  all_goals (repeat' first
    | exact (by assumption : (_ : Bool) = (_ : Bool))
    | (refine br_true (by assumption) ?_; conv => whnf)
    | (refine br_false (by assumption) ?_; conv => whnf)
    | (refine br_not ?_; conv => whnf)
    | (refine br_code ?_; conv => whnf)
    | (with_reducible refine br_and ?_; conv => whnf)
    | (with_reducible refine br_or ?_; conv => whnf)
    | (refine br_eq2 ?_; conv => whnf)
    | (refine c_impl_IsMatrix.call ?_; conv => whnf)
    | (refine c_impl_IsMatrix.quiet ?_; conv => whnf)
    | (refine c_impl_IsPoint.call ?_; conv => whnf)
    | (refine c_impl_IsPoint.quiet ?_; conv => whnf)
    | (refine c_impl_IsFraction.call ?_; conv => whnf)
    | (refine c_impl_IsFraction.quiet ?_; conv => whnf)
    | (refine c_impl_Matrix_unimodular.call ?_; conv => whnf)
    | (refine c_impl_Matrix_unimodular.quiet ?_; conv => whnf)
    | (refine c_impl_Matrix_apply.call ?_; conv => whnf)
    | (refine c_impl_Matrix_apply.quiet ?_; conv => whnf)
    | (refine c_impl_Point_fraction.call ?_; conv => whnf)
    | (refine c_impl_Point_fraction.quiet ?_; conv => whnf)
    | (refine c_impl_Point_told.call ?_; conv => whnf)
    | (refine c_impl_Point_told.quiet ?_; conv => whnf)
    | (refine draw_auto (by decide +kernel) ?_; conv => whnf)
    | (refine draw_asg (by decide +kernel) ?_; conv => whnf)
    | (refine draw_st (by decide +kernel) ?_; conv => whnf)
    | (refine loop_n 12 ?_; conv => whnf)
    | (refine br_split (fun _ => ?_) (fun _ => ?_) <;> conv => whnf)
    | exact (rfl : (_ : Value) = _)
    | (simp only [*]; exact (rfl : (_ : Value) = _))
    | (simp [selF, *]; done))

theorem c_spec_ApplyToFraction {a b c d e f : Int}  : Pure Try.prog n_spec_ApplyToFraction [q4 a b c d, pt e f] (t2 (pt (selF ((isPtF a b && isPtF c d) && isPtF e f) (selF (isFracF e f) (selF (nearF a b c d) (selF (isPtF (turnX (apF a b e f) (apF c d e f)) (turnY (apF a b e f) (apF c d e f))) (turnX (apF a b e f) (apF c d e f)) 0) 0) 0) 0) (selF ((isPtF a b && isPtF c d) && isPtF e f) (selF (isFracF e f) (selF (nearF a b c d) (selF (isPtF (turnX (apF a b e f) (apF c d e f)) (turnY (apF a b e f) (apF c d e f))) (turnY (apF a b e f) (apF c d e f)) 0) 0) 0) 0)) (ii (selF ((isPtF a b && isPtF c d) && isPtF e f) (selF (isFracF e f) (selF (nearF a b c d) (selF (isPtF (turnX (apF a b e f) (apF c d e f)) (turnY (apF a b e f) (apF c d e f))) (0) 3) 5) 2) 1))) := by
  refine pure_of good fn_spec_ApplyToFraction rfl rfl ?_
  conv => whnf
  all_goals (repeat' first
    | exact (by assumption : (_ : Bool) = (_ : Bool))
    | (refine br_true (by assumption) ?_; conv => whnf)
    | (refine br_false (by assumption) ?_; conv => whnf)
    | (refine br_not ?_; conv => whnf)
    | (refine br_code ?_; conv => whnf)
    | (with_reducible refine br_and ?_; conv => whnf)
    | (with_reducible refine br_or ?_; conv => whnf)
    | (refine br_eq2 ?_; conv => whnf)
    | (refine c_spec_l01Matrix.call ?_; conv => whnf)
    | (refine c_spec_l01Matrix.quiet ?_; conv => whnf)
    | (refine c_spec_l01Is.call ?_; conv => whnf)
    | (refine c_spec_l01Is.quiet ?_; conv => whnf)
    | (refine c_spec_l05Is.call ?_; conv => whnf)
    | (refine c_spec_l05Is.quiet ?_; conv => whnf)
    | (refine c_spec_l01Unit.call ?_; conv => whnf)
    | (refine c_spec_l01Unit.quiet ?_; conv => whnf)
    | (refine c_spec_l01Apply.call ?_; conv => whnf)
    | (refine c_spec_l01Apply.quiet ?_; conv => whnf)
    | (refine c_spec_l05Turn.call ?_; conv => whnf)
    | (refine c_spec_l05Turn.quiet ?_; conv => whnf)
    | (refine c_spec_l01Told.call ?_; conv => whnf)
    | (refine c_spec_l01Told.quiet ?_; conv => whnf)
    | (refine draw_auto (by decide +kernel) ?_; conv => whnf)
    | (refine draw_asg (by decide +kernel) ?_; conv => whnf)
    | (refine draw_st (by decide +kernel) ?_; conv => whnf)
    | (refine loop_n 12 ?_; conv => whnf)
    | (refine br_split (fun _ => ?_) (fun _ => ?_) <;> conv => whnf)
    | exact (rfl : (_ : Value) = _)
    | (simp only [*]; exact (rfl : (_ : Value) = _))
    | (simp [selF, *]; done))

theorem c_laws_toInt64A2 {a b : Int}  : Pure Try.prog n_laws_toInt64A2 [pt a b] (pt a b) := by
  refine pure_of good fn_laws_toInt64A2 rfl rfl ?_
  conv => whnf
  all_goals (repeat' first
    | exact (by assumption : (_ : Bool) = (_ : Bool))
    | (refine br_true (by assumption) ?_; conv => whnf)
    | (refine br_false (by assumption) ?_; conv => whnf)
    | (refine br_not ?_; conv => whnf)
    | (refine br_code ?_; conv => whnf)
    | (with_reducible refine br_and ?_; conv => whnf)
    | (with_reducible refine br_or ?_; conv => whnf)
    | (refine br_eq2 ?_; conv => whnf)
    | (refine draw_auto (by decide +kernel) ?_; conv => whnf)
    | (refine draw_asg (by decide +kernel) ?_; conv => whnf)
    | (refine draw_st (by decide +kernel) ?_; conv => whnf)
    | (refine loop_n 12 ?_; conv => whnf)
    | (refine br_split (fun _ => ?_) (fun _ => ?_) <;> conv => whnf)
    | exact (rfl : (_ : Value) = _)
    | (simp only [*]; exact (rfl : (_ : Value) = _))
    | (simp [*]; done))

theorem c_laws_toMatrix {a b c d : Int}  : Pure Try.prog n_laws_toMatrix [q4 a b c d] (q4 a b c d) := by
  refine pure_of good fn_laws_toMatrix rfl rfl ?_
  conv => whnf
  all_goals (repeat' first
    | exact (by assumption : (_ : Bool) = (_ : Bool))
    | (refine br_true (by assumption) ?_; conv => whnf)
    | (refine br_false (by assumption) ?_; conv => whnf)
    | (refine br_not ?_; conv => whnf)
    | (refine br_code ?_; conv => whnf)
    | (with_reducible refine br_and ?_; conv => whnf)
    | (with_reducible refine br_or ?_; conv => whnf)
    | (refine br_eq2 ?_; conv => whnf)
    | (refine c_laws_toInt64A2.call ?_; conv => whnf)
    | (refine c_laws_toInt64A2.quiet ?_; conv => whnf)
    | (refine draw_auto (by decide +kernel) ?_; conv => whnf)
    | (refine draw_asg (by decide +kernel) ?_; conv => whnf)
    | (refine draw_st (by decide +kernel) ?_; conv => whnf)
    | (refine loop_n 12 ?_; conv => whnf)
    | (refine br_split (fun _ => ?_) (fun _ => ?_) <;> conv => whnf)
    | exact (rfl : (_ : Value) = _)
    | (simp only [*]; exact (rfl : (_ : Value) = _))
    | (simp [*]; done))

theorem c_laws_FnExactApplyToFraction {a b c d e f : Int}  : Pure Try.prog n_laws_FnExactApplyToFraction [q4 a b c d, pt e f] (bb true) := by
  refine pure_of good fn_laws_FnExactApplyToFraction rfl rfl ?_
  conv => whnf
  all_goals (repeat' first
    | (refine br_true ?_ ?_; (focus (simp; done)); conv => whnf)
    | (refine br_false ?_ ?_; (focus (simp; done)); conv => whnf)
    | exact (by assumption : (_ : Bool) = (_ : Bool))
    | (refine br_true (by assumption) ?_; conv => whnf)
    | (refine br_false (by assumption) ?_; conv => whnf)
    | (refine br_not ?_; conv => whnf)
    | (refine br_code ?_; conv => whnf)
    | (with_reducible refine br_and ?_; conv => whnf)
    | (with_reducible refine br_or ?_; conv => whnf)
    | (refine br_eq2 ?_; conv => whnf)
    | (refine c_laws_toMatrix.call ?_; conv => whnf)
    | (refine c_laws_toMatrix.quiet ?_; conv => whnf)
    | (refine c_laws_toPoint.call ?_; conv => whnf)
    | (refine c_laws_toPoint.quiet ?_; conv => whnf)
    | (refine c_spec_ApplyToFraction.call ?_; conv => whnf)
    | (refine c_spec_ApplyToFraction.quiet ?_; conv => whnf)
    | (refine c_impl_ApplyToFraction.call ?_; conv => whnf)
    | (refine c_impl_ApplyToFraction.quiet ?_; conv => whnf)
    | (refine c_laws_eqPoint.call ?_; conv => whnf)
    | (refine c_laws_eqPoint.quiet ?_; conv => whnf)
    | (refine draw_auto (by decide +kernel) ?_; conv => whnf)
    | (refine draw_asg (by decide +kernel) ?_; conv => whnf)
    | (refine draw_st (by decide +kernel) ?_; conv => whnf)
    | (refine loop_n 12 ?_; conv => whnf)
    | (refine br_split (fun _ => ?_) (fun _ => ?_) <;> conv => whnf)
    | exact (rfl : (_ : Value) = _)
    | (simp only [*]; exact (rfl : (_ : Value) = _))
    | (simp [*]; done))

theorem c_impl_Corner_cosine {a b c d : Int} (h : isCornF a b c d = true) : Pure Try.prog n_impl_Corner_cosine [q4 a b c d] (ii (cosF a b c d)) := by
  refine pure_of good fn_impl_Corner_cosine rfl rfl ?_
  conv => whnf
  all_goals (repeat' first
    | exact corn_p1 h
    | exact sine_nz h
    | exact congrArg (Value.int IntKind.i64) (cos_impl h)
    | exact (by assumption : (_ : Bool) = (_ : Bool))
    | (refine br_true (by assumption) ?_; conv => whnf)
    | (refine br_false (by assumption) ?_; conv => whnf)
    | (refine br_not ?_; conv => whnf)
    | (refine br_code ?_; conv => whnf)
    | (with_reducible refine br_and ?_; conv => whnf)
    | (with_reducible refine br_or ?_; conv => whnf)
    | (refine br_eq2 ?_; conv => whnf)
    | (refine (c_impl_Point_mate ?_).call ?_ <;> conv => whnf)
    | (refine (c_impl_Point_mate ?_).quiet ?_ <;> conv => whnf)
    | (refine c_impl_det.call ?_; conv => whnf)
    | (refine c_impl_det.quiet ?_; conv => whnf)
    | (refine c_impl_Corner_sine.call ?_; conv => whnf)
    | (refine c_impl_Corner_sine.quiet ?_; conv => whnf)
    | (refine (c_impl_mod ?_).call ?_ <;> conv => whnf)
    | (refine (c_impl_mod ?_).quiet ?_ <;> conv => whnf)
    | (refine draw_auto (by decide +kernel) ?_; conv => whnf)
    | (refine draw_asg (by decide +kernel) ?_; conv => whnf)
    | (refine draw_st (by decide +kernel) ?_; conv => whnf)
    | (refine loop_n 12 ?_; conv => whnf)
    | (refine br_split (fun _ => ?_) (fun _ => ?_) <;> conv => whnf)
    | exact (rfl : (_ : Value) = _)
    | (simp only [*]; exact (rfl : (_ : Value) = _))
    | (simp [*]; done))

theorem c_spec_l02Cosine {a b c d : Int} (h : isCornF a b c d = true) : Pure Try.prog n_spec_l02Cosine [q4 a b c d] (ii (cosF a b c d)) := by
  refine pure_of good fn_spec_l02Cosine rfl rfl ?_
  conv => whnf
  all_goals (repeat' first
    | exact corn_p1 h
    | exact sine_nz h
    | exact congrArg (Value.int IntKind.i64) (cos_0 h (by assumption))
    | exact congrArg (Value.int IntKind.i64) (cos_1 h (by assumption))
    | exact (by assumption : (_ : Bool) = (_ : Bool))
    | (refine br_true (by assumption) ?_; conv => whnf)
    | (refine br_false (by assumption) ?_; conv => whnf)
    | (refine br_not ?_; conv => whnf)
    | (refine br_code ?_; conv => whnf)
    | (with_reducible refine br_and ?_; conv => whnf)
    | (with_reducible refine br_or ?_; conv => whnf)
    | (refine br_eq2 ?_; conv => whnf)
    | (refine c_spec_l02Sine.call ?_; conv => whnf)
    | (refine c_spec_l02Sine.quiet ?_; conv => whnf)
    | (refine (c_spec_l01Base ?_).call ?_ <;> conv => whnf)
    | (refine (c_spec_l01Base ?_).quiet ?_ <;> conv => whnf)
    | (refine c_spec_l01Det.call ?_; conv => whnf)
    | (refine c_spec_l01Det.quiet ?_; conv => whnf)
    | (refine (c_spec_l01Rest ?_).call ?_ <;> conv => whnf)
    | (refine (c_spec_l01Rest ?_).quiet ?_ <;> conv => whnf)
    | (refine draw_auto (by decide +kernel) ?_; conv => whnf)
    | (refine draw_asg (by decide +kernel) ?_; conv => whnf)
    | (refine draw_st (by decide +kernel) ?_; conv => whnf)
    | (refine loop_n 12 ?_; conv => whnf)
    | (refine br_split (fun _ => ?_) (fun _ => ?_) <;> conv => whnf)
    | exact (rfl : (_ : Value) = _)
    | (simp only [*]; exact (rfl : (_ : Value) = _))
    | (simp [*]; done))

theorem c_impl_Corner_same {a b c d e f g i : Int} (h : isCornF a b c d = true) (h2 : isCornF e f g i = true) : Pure Try.prog n_impl_Corner_same [q4 a b c d, q4 e f g i] (bb (sameF a b c d e f g i)) := by
  refine pure_of good fn_impl_Corner_same rfl rfl ?_
  conv => whnf
  all_goals (repeat' first
    | exact (by assumption : (_ : Bool) = (_ : Bool))
    | (refine br_true (by assumption) ?_; conv => whnf)
    | (refine br_false (by assumption) ?_; conv => whnf)
    | (refine br_not ?_; conv => whnf)
    | (refine br_code ?_; conv => whnf)
    | (with_reducible refine br_and ?_; conv => whnf)
    | (with_reducible refine br_or ?_; conv => whnf)
    | (refine br_eq2 ?_; conv => whnf)
    | (refine c_impl_Corner_sine.call ?_; conv => whnf)
    | (refine c_impl_Corner_sine.quiet ?_; conv => whnf)
    | (refine (c_impl_Corner_cosine ?_).call ?_ <;> conv => whnf)
    | (refine (c_impl_Corner_cosine ?_).quiet ?_ <;> conv => whnf)
    | (refine draw_auto (by decide +kernel) ?_; conv => whnf)
    | (refine draw_asg (by decide +kernel) ?_; conv => whnf)
    | (refine draw_st (by decide +kernel) ?_; conv => whnf)
    | (refine loop_n 12 ?_; conv => whnf)
    | (refine br_split (fun _ => ?_) (fun _ => ?_) <;> conv => whnf)
    | exact (rfl : (_ : Value) = _)
    | (simp only [*]; exact (rfl : (_ : Value) = _))
    | (simp [sameF, *]; done))

theorem c_spec_l02Equal {a b c d e f g i : Int} (h : isCornF a b c d = true) (h2 : isCornF e f g i = true) : Pure Try.prog n_spec_l02Equal [q4 a b c d, q4 e f g i] (bb (sameF a b c d e f g i)) := by
  refine pure_of good fn_spec_l02Equal rfl rfl ?_
  conv => whnf
  all_goals (repeat' first
    | exact (by assumption : (_ : Bool) = (_ : Bool))
    | (refine br_true (by assumption) ?_; conv => whnf)
    | (refine br_false (by assumption) ?_; conv => whnf)
    | (refine br_not ?_; conv => whnf)
    | (refine br_code ?_; conv => whnf)
    | (with_reducible refine br_and ?_; conv => whnf)
    | (with_reducible refine br_or ?_; conv => whnf)
    | (refine br_eq2 ?_; conv => whnf)
    | (refine c_spec_l02Sine.call ?_; conv => whnf)
    | (refine c_spec_l02Sine.quiet ?_; conv => whnf)
    | (refine (c_spec_l02Cosine ?_).call ?_ <;> conv => whnf)
    | (refine (c_spec_l02Cosine ?_).quiet ?_ <;> conv => whnf)
    | (refine draw_auto (by decide +kernel) ?_; conv => whnf)
    | (refine draw_asg (by decide +kernel) ?_; conv => whnf)
    | (refine draw_st (by decide +kernel) ?_; conv => whnf)
    | (refine loop_n 12 ?_; conv => whnf)
    | (refine br_split (fun _ => ?_) (fun _ => ?_) <;> conv => whnf)
    | exact (rfl : (_ : Value) = _)
    | (simp only [*]; exact (rfl : (_ : Value) = _))
    | (simp [sameF, *]; done))

theorem c_impl_AreEqualCorners {a b c d e f g i : Int}  : Pure Try.prog n_impl_AreEqualCorners [q4 a b c d, q4 e f g i] (t2 (bb ((isCornF a b c d && isCornF e f g i) && sameF a b c d e f g i)) (ii (codeF (isCornF a b c d && isCornF e f g i)))) := by
  refine pure_of good fn_impl_AreEqualCorners rfl rfl ?_
  conv => whnf
  all_goals (repeat' first
    | exact (by assumption : (_ : Bool) = (_ : Bool))
    | (refine br_true (by assumption) ?_; conv => whnf)
    | (refine br_false (by assumption) ?_; conv => whnf)
    | (refine br_not ?_; conv => whnf)
    | (refine br_code ?_; conv => whnf)
    | (with_reducible refine br_and ?_; conv => whnf)
    | (with_reducible refine br_or ?_; conv => whnf)
    | (refine br_eq2 ?_; conv => whnf)
    | (refine c_impl_IsCorner.call ?_; conv => whnf)
    | (refine c_impl_IsCorner.quiet ?_; conv => whnf)
    | (refine (c_impl_Corner_same ?_ ?_).call ?_ <;> conv => whnf)
    | (refine (c_impl_Corner_same ?_ ?_).quiet ?_ <;> conv => whnf)
    | (refine draw_auto (by decide +kernel) ?_; conv => whnf)
    | (refine draw_asg (by decide +kernel) ?_; conv => whnf)
    | (refine draw_st (by decide +kernel) ?_; conv => whnf)
    | (refine loop_n 12 ?_; conv => whnf)
    | (refine br_split (fun _ => ?_) (fun _ => ?_) <;> conv => whnf)
    | exact (rfl : (_ : Value) = _)
    | (simp only [*]; exact (rfl : (_ : Value) = _))
    | (simp [codeF, *]; done))

theorem c_spec_AreEqualCorners {a b c d e f g i : Int}  : Pure Try.prog n_spec_AreEqualCorners [q4 a b c d, q4 e f g i] (t2 (bb ((isCornF a b c d && isCornF e f g i) && sameF a b c d e f g i)) (ii (codeF (isCornF a b c d && isCornF e f g i)))) := by
  refine pure_of good fn_spec_AreEqualCorners rfl rfl ?_
  conv => whnf
  all_goals (repeat' first
    | exact (by assumption : (_ : Bool) = (_ : Bool))
    | (refine br_true (by assumption) ?_; conv => whnf)
    | (refine br_false (by assumption) ?_; conv => whnf)
    | (refine br_not ?_; conv => whnf)
    | (refine br_code ?_; conv => whnf)
    | (with_reducible refine br_and ?_; conv => whnf)
    | (with_reducible refine br_or ?_; conv => whnf)
    | (refine br_eq2 ?_; conv => whnf)
    | (refine c_spec_l02Is.call ?_; conv => whnf)
    | (refine c_spec_l02Is.quiet ?_; conv => whnf)
    | (refine (c_spec_l02Equal ?_ ?_).call ?_ <;> conv => whnf)
    | (refine (c_spec_l02Equal ?_ ?_).quiet ?_ <;> conv => whnf)
    | (refine draw_auto (by decide +kernel) ?_; conv => whnf)
    | (refine draw_asg (by decide +kernel) ?_; conv => whnf)
    | (refine draw_st (by decide +kernel) ?_; conv => whnf)
    | (refine loop_n 12 ?_; conv => whnf)
    | (refine br_split (fun _ => ?_) (fun _ => ?_) <;> conv => whnf)
    | exact (rfl : (_ : Value) = _)
    | (simp only [*]; exact (rfl : (_ : Value) = _))
    | (simp [codeF, *]; done))

theorem c_laws_FnExactAreEqualCorners {a b c d e f g i : Int}  : Pure Try.prog n_laws_FnExactAreEqualCorners [q4 a b c d, q4 e f g i] (bb true) := by
  refine pure_of good fn_laws_FnExactAreEqualCorners rfl rfl ?_
  conv => whnf
  all_goals (repeat' first
    | (refine br_true ?_ ?_; (focus (simp; done)); conv => whnf)
    | (refine br_false ?_ ?_; (focus (simp; done)); conv => whnf)
    | exact (by assumption : (_ : Bool) = (_ : Bool))
    | (refine br_true (by assumption) ?_; conv => whnf)
    | (refine br_false (by assumption) ?_; conv => whnf)
    | (refine br_not ?_; conv => whnf)
    | (refine br_code ?_; conv => whnf)
    | (with_reducible refine br_and ?_; conv => whnf)
    | (with_reducible refine br_or ?_; conv => whnf)
    | (refine br_eq2 ?_; conv => whnf)
    | (refine c_laws_toCorner.call ?_; conv => whnf)
    | (refine c_laws_toCorner.quiet ?_; conv => whnf)
    | (refine c_spec_AreEqualCorners.call ?_; conv => whnf)
    | (refine c_spec_AreEqualCorners.quiet ?_; conv => whnf)
    | (refine c_impl_AreEqualCorners.call ?_; conv => whnf)
    | (refine c_impl_AreEqualCorners.quiet ?_; conv => whnf)
    | (refine draw_auto (by decide +kernel) ?_; conv => whnf)
    | (refine draw_asg (by decide +kernel) ?_; conv => whnf)
    | (refine draw_st (by decide +kernel) ?_; conv => whnf)
    | (refine loop_n 12 ?_; conv => whnf)
    | (refine br_split (fun _ => ?_) (fun _ => ?_) <;> conv => whnf)
    | exact (rfl : (_ : Value) = _)
    | (simp only [*]; exact (rfl : (_ : Value) = _))
    | (simp [*]; done))

theorem c_impl_Corner_transposed {a b c d : Int}  : Pure Try.prog n_impl_Corner_transposed [q4 a b c d] (q4 c d a b) := by
  refine pure_of good fn_impl_Corner_transposed rfl rfl ?_
  conv => whnf
  all_goals (repeat' first
    | exact (by assumption : (_ : Bool) = (_ : Bool))
    | (refine br_true (by assumption) ?_; conv => whnf)
    | (refine br_false (by assumption) ?_; conv => whnf)
    | (refine br_not ?_; conv => whnf)
    | (refine br_code ?_; conv => whnf)
    | (with_reducible refine br_and ?_; conv => whnf)
    | (with_reducible refine br_or ?_; conv => whnf)
    | (refine br_eq2 ?_; conv => whnf)
    | (refine draw_auto (by decide +kernel) ?_; conv => whnf)
    | (refine draw_asg (by decide +kernel) ?_; conv => whnf)
    | (refine draw_st (by decide +kernel) ?_; conv => whnf)
    | (refine loop_n 12 ?_; conv => whnf)
    | (refine br_split (fun _ => ?_) (fun _ => ?_) <;> conv => whnf)
    | exact (rfl : (_ : Value) = _)
    | (simp only [*]; exact (rfl : (_ : Value) = _))
    | (simp [*]; done))

theorem c_impl_Corner_adjacent {a b c d : Int}  : Pure Try.prog n_impl_Corner_adjacent [q4 a b c d] (q4 c d (w64 (0 - a)) (w64 (0 - b))) := by
  refine pure_of good fn_impl_Corner_adjacent rfl rfl ?_
  conv => whnf
  all_goals (repeat' first
    | exact (by assumption : (_ : Bool) = (_ : Bool))
    | (refine br_true (by assumption) ?_; conv => whnf)
    | (refine br_false (by assumption) ?_; conv => whnf)
    | (refine br_not ?_; conv => whnf)
    | (refine br_code ?_; conv => whnf)
    | (with_reducible refine br_and ?_; conv => whnf)
    | (with_reducible refine br_or ?_; conv => whnf)
    | (refine br_eq2 ?_; conv => whnf)
    | (refine c_impl_Point_less.call ?_; conv => whnf)
    | (refine c_impl_Point_less.quiet ?_; conv => whnf)
    | (refine draw_auto (by decide +kernel) ?_; conv => whnf)
    | (refine draw_asg (by decide +kernel) ?_; conv => whnf)
    | (refine draw_st (by decide +kernel) ?_; conv => whnf)
    | (refine loop_n 12 ?_; conv => whnf)
    | (refine br_split (fun _ => ?_) (fun _ => ?_) <;> conv => whnf)
    | exact (rfl : (_ : Value) = _)
    | (simp only [*]; exact (rfl : (_ : Value) = _))
    | (simp [plusF_0neg, *]; done))

theorem c_spec_l02Adjacent {a b c d : Int}  : Pure Try.prog n_spec_l02Adjacent [q4 a b c d] (q4 c d (w64 (0 - a)) (w64 (0 - b))) := by
  refine pure_of good fn_spec_l02Adjacent rfl rfl ?_
  conv => whnf
  all_goals (repeat' first
    | exact (by assumption : (_ : Bool) = (_ : Bool))
    | (refine br_true (by assumption) ?_; conv => whnf)
    | (refine br_false (by assumption) ?_; conv => whnf)
    | (refine br_not ?_; conv => whnf)
    | (refine br_code ?_; conv => whnf)
    | (with_reducible refine br_and ?_; conv => whnf)
    | (with_reducible refine br_or ?_; conv => whnf)
    | (refine br_eq2 ?_; conv => whnf)
    | (refine draw_auto (by decide +kernel) ?_; conv => whnf)
    | (refine draw_asg (by decide +kernel) ?_; conv => whnf)
    | (refine draw_st (by decide +kernel) ?_; conv => whnf)
    | (refine loop_n 12 ?_; conv => whnf)
    | (refine br_split (fun _ => ?_) (fun _ => ?_) <;> conv => whnf)
    | exact (rfl : (_ : Value) = _)
    | (simp only [*]; exact (rfl : (_ : Value) = _))
    | (simp [*]; done))

theorem c_impl_Corner_right {a b c d : Int} (h : isCornF a b c d = true) : Pure Try.prog n_impl_Corner_right [q4 a b c d] (bb (sameF a b c d c d a b && sameF a b c d c d (w64 (0 - a)) (w64 (0 - b)))) := by
  refine pure_of good fn_impl_Corner_right rfl rfl ?_
  conv => whnf
  all_goals (repeat' first
    | exact (by assumption : (_ : Bool) = (_ : Bool))
    | (with_reducible exact corn_swap (by assumption))
    | (with_reducible exact corn_adj (by assumption))
    | exact (by assumption : (_ : Bool) = (_ : Bool))
    | (refine br_true (by assumption) ?_; conv => whnf)
    | (refine br_false (by assumption) ?_; conv => whnf)
    | (refine br_not ?_; conv => whnf)
    | (refine br_code ?_; conv => whnf)
    | (with_reducible refine br_and ?_; conv => whnf)
    | (with_reducible refine br_or ?_; conv => whnf)
    | (refine br_eq2 ?_; conv => whnf)
    | (refine c_impl_Corner_transposed.call ?_; conv => whnf)
    | (refine c_impl_Corner_transposed.quiet ?_; conv => whnf)
    | (refine (c_impl_Corner_same ?_ ?_).call ?_ <;> conv => whnf)
    | (refine (c_impl_Corner_same ?_ ?_).quiet ?_ <;> conv => whnf)
    | (refine c_impl_Corner_adjacent.call ?_; conv => whnf)
    | (refine c_impl_Corner_adjacent.quiet ?_; conv => whnf)
    | (refine draw_auto (by decide +kernel) ?_; conv => whnf)
    | (refine draw_asg (by decide +kernel) ?_; conv => whnf)
    | (refine draw_st (by decide +kernel) ?_; conv => whnf)
    | (refine loop_n 12 ?_; conv => whnf)
    | (refine br_split (fun _ => ?_) (fun _ => ?_) <;> conv => whnf)
    | exact (rfl : (_ : Value) = _)
    | (simp only [*]; exact (rfl : (_ : Value) = _))
    | (simp [*]; done))

theorem c_impl_IsRightCorner {a b c d : Int}  : Pure Try.prog n_impl_IsRightCorner [q4 a b c d] (t2 (bb (isCornF a b c d && (sameF a b c d c d a b && sameF a b c d c d (w64 (0 - a)) (w64 (0 - b))))) (ii (codeF (isCornF a b c d)))) := by
  refine pure_of good fn_impl_IsRightCorner rfl rfl ?_
  conv => whnf
  all_goals (repeat' first
    | exact (by assumption : (_ : Bool) = (_ : Bool))
    | (refine br_true (by assumption) ?_; conv => whnf)
    | (refine br_false (by assumption) ?_; conv => whnf)
    | (refine br_not ?_; conv => whnf)
    | (refine br_code ?_; conv => whnf)
    | (with_reducible refine br_and ?_; conv => whnf)
    | (with_reducible refine br_or ?_; conv => whnf)
    | (refine br_eq2 ?_; conv => whnf)
    | (refine c_impl_IsCorner.call ?_; conv => whnf)
    | (refine c_impl_IsCorner.quiet ?_; conv => whnf)
    | (refine (c_impl_Corner_right ?_).call ?_ <;> conv => whnf)
    | (refine (c_impl_Corner_right ?_).quiet ?_ <;> conv => whnf)
    | (refine draw_auto (by decide +kernel) ?_; conv => whnf)
    | (refine draw_asg (by decide +kernel) ?_; conv => whnf)
    | (refine draw_st (by decide +kernel) ?_; conv => whnf)
    | (refine loop_n 12 ?_; conv => whnf)
    | (refine br_split (fun _ => ?_) (fun _ => ?_) <;> conv => whnf)
    | exact (rfl : (_ : Value) = _)
    | (simp only [*]; exact (rfl : (_ : Value) = _))
    | (simp [codeF, *]; done))

theorem c_spec_IsRightCorner {a b c d : Int}  : Pure Try.prog n_spec_IsRightCorner [q4 a b c d] (t2 (bb (isCornF a b c d && (sameF a b c d c d a b && sameF a b c d c d (w64 (0 - a)) (w64 (0 - b))))) (ii (codeF (isCornF a b c d)))) := by
  refine pure_of good fn_spec_IsRightCorner rfl rfl ?_
  conv => whnf
  all_goals (repeat' first
    | exact (by assumption : (_ : Bool) = (_ : Bool))
    | (with_reducible exact corn_swap (by assumption))
    | (with_reducible exact corn_adj (by assumption))
    | exact (by assumption : (_ : Bool) = (_ : Bool))
    | (refine br_true (by assumption) ?_; conv => whnf)
    | (refine br_false (by assumption) ?_; conv => whnf)
    | (refine br_not ?_; conv => whnf)
    | (refine br_code ?_; conv => whnf)
    | (with_reducible refine br_and ?_; conv => whnf)
    | (with_reducible refine br_or ?_; conv => whnf)
    | (refine br_eq2 ?_; conv => whnf)
    | (refine c_spec_l02Is.call ?_; conv => whnf)
    | (refine c_spec_l02Is.quiet ?_; conv => whnf)
    | (refine (c_spec_l02Equal ?_ ?_).call ?_ <;> conv => whnf)
    | (refine (c_spec_l02Equal ?_ ?_).quiet ?_ <;> conv => whnf)
    | (refine c_spec_l02Adjacent.call ?_; conv => whnf)
    | (refine c_spec_l02Adjacent.quiet ?_; conv => whnf)
    | (refine draw_auto (by decide +kernel) ?_; conv => whnf)
    | (refine draw_asg (by decide +kernel) ?_; conv => whnf)
    | (refine draw_st (by decide +kernel) ?_; conv => whnf)
    | (refine loop_n 12 ?_; conv => whnf)
    | (refine br_split (fun _ => ?_) (fun _ => ?_) <;> conv => whnf)
    | exact (rfl : (_ : Value) = _)
    | (simp only [*]; exact (rfl : (_ : Value) = _))
    | (simp [codeF, *]; done))

theorem c_laws_FnExactIsRightCorner {a b c d : Int}  : Pure Try.prog n_laws_FnExactIsRightCorner [q4 a b c d] (bb true) := by
  refine pure_of good fn_laws_FnExactIsRightCorner rfl rfl ?_
  conv => whnf
  all_goals (repeat' first
    | (refine br_true ?_ ?_; (focus (simp; done)); conv => whnf)
    | (refine br_false ?_ ?_; (focus (simp; done)); conv => whnf)
    | exact (by assumption : (_ : Bool) = (_ : Bool))
    | (refine br_true (by assumption) ?_; conv => whnf)
    | (refine br_false (by assumption) ?_; conv => whnf)
    | (refine br_not ?_; conv => whnf)
    | (refine br_code ?_; conv => whnf)
    | (with_reducible refine br_and ?_; conv => whnf)
    | (with_reducible refine br_or ?_; conv => whnf)
    | (refine br_eq2 ?_; conv => whnf)
    | (refine c_laws_toCorner.call ?_; conv => whnf)
    | (refine c_laws_toCorner.quiet ?_; conv => whnf)
    | (refine c_spec_IsRightCorner.call ?_; conv => whnf)
    | (refine c_spec_IsRightCorner.quiet ?_; conv => whnf)
    | (refine c_impl_IsRightCorner.call ?_; conv => whnf)
    | (refine c_impl_IsRightCorner.quiet ?_; conv => whnf)
    | (refine draw_auto (by decide +kernel) ?_; conv => whnf)
    | (refine draw_asg (by decide +kernel) ?_; conv => whnf)
    | (refine draw_st (by decide +kernel) ?_; conv => whnf)
    | (refine loop_n 12 ?_; conv => whnf)
    | (refine br_split (fun _ => ?_) (fun _ => ?_) <;> conv => whnf)
    | exact (rfl : (_ : Value) = _)
    | (simp only [*]; exact (rfl : (_ : Value) = _))
    | (simp [*]; done))

theorem c_impl_MoveCorner {a b c d e f g i : Int}  : Pure Try.prog n_impl_MoveCorner [q4 a b c d, q4 e f g i] (t2 (q4 (selF ((isPtF a b && isPtF c d) && isCornF e f g i) (selF (nearF a b c d) (selF (isPtF (apF a b e f) (apF c d e f) && isPtF (apF a b g i) (apF c d g i)) (apF a b e f) 0) 0) 0) (selF ((isPtF a b && isPtF c d) && isCornF e f g i) (selF (nearF a b c d) (selF (isPtF (apF a b e f) (apF c d e f) && isPtF (apF a b g i) (apF c d g i)) (apF c d e f) 0) 0) 0) (selF ((isPtF a b && isPtF c d) && isCornF e f g i) (selF (nearF a b c d) (selF (isPtF (apF a b e f) (apF c d e f) && isPtF (apF a b g i) (apF c d g i)) (apF a b g i) 0) 0) 0) (selF ((isPtF a b && isPtF c d) && isCornF e f g i) (selF (nearF a b c d) (selF (isPtF (apF a b e f) (apF c d e f) && isPtF (apF a b g i) (apF c d g i)) (apF c d g i) 0) 0) 0)) (ii (selF ((isPtF a b && isPtF c d) && isCornF e f g i) (selF (nearF a b c d) (selF (isPtF (apF a b e f) (apF c d e f) && isPtF (apF a b g i) (apF c d g i)) (0) 3) 5) 1))) := by
  refine pure_of good fn_impl_MoveCorner rfl rfl ?_
  conv => whnf
  all_goals (repeat' first
    | exact (by assumption : (_ : Bool) = (_ : Bool))
    | (refine br_true (by assumption) ?_; conv => whnf)
    | (refine br_false (by assumption) ?_; conv => whnf)
    | (refine br_not ?_; conv => whnf)
    | (refine br_code ?_; conv => whnf)
    | (with_reducible refine br_and ?_; conv => whnf)
    | (with_reducible refine br_or ?_; conv => whnf)
    | (refine br_eq2 ?_; conv => whnf)
    | (refine c_impl_IsMatrix.call ?_; conv => whnf)
    | (refine c_impl_IsMatrix.quiet ?_; conv => whnf)
    | (refine c_impl_IsCorner.call ?_; conv => whnf)
    | (refine c_impl_IsCorner.quiet ?_; conv => whnf)
    | (refine c_impl_Matrix_unimodular.call ?_; conv => whnf)
    | (refine c_impl_Matrix_unimodular.quiet ?_; conv => whnf)
    | (refine c_impl_Matrix_apply.call ?_; conv => whnf)
    | (refine c_impl_Matrix_apply.quiet ?_; conv => whnf)
    | (refine c_points_2.call1 rfl rfl ⟨_, rfl⟩ ?_; conv => whnf)
    | (refine c_points_2.quiet1 rfl rfl ⟨_, rfl⟩ ?_; conv => whnf)
    | (refine c_points_3.call1 rfl rfl ⟨_, rfl⟩ ?_; conv => whnf)
    | (refine c_points_3.quiet1 rfl rfl ⟨_, rfl⟩ ?_; conv => whnf)
    | (refine c_points_1.call1 rfl rfl ⟨_, rfl⟩ ?_; conv => whnf)
    | (refine c_points_1.quiet1 rfl rfl ⟨_, rfl⟩ ?_; conv => whnf)
    | (refine draw_auto (by decide +kernel) ?_; conv => whnf)
    | (refine draw_asg (by decide +kernel) ?_; conv => whnf)
    | (refine draw_st (by decide +kernel) ?_; conv => whnf)
    | (refine loop_n 12 ?_; conv => whnf)
    | (refine br_split (fun _ => ?_) (fun _ => ?_) <;> conv => whnf)
    | exact (rfl : (_ : Value) = _)
    | (simp only [*]; exact (rfl : (_ : Value) = _))
    | (simp [selF, *]; done))

theorem c_spec_MoveCorner {a b c d e f g i : Int}  : Pure Try.prog n_spec_MoveCorner [q4 a b c d, q4 e f g i] (t2 (q4 (selF ((isPtF a b && isPtF c d) && isCornF e f g i) (selF (nearF a b c d) (selF (isPtF (apF a b e f) (apF c d e f) && isPtF (apF a b g i) (apF c d g i)) (apF a b e f) 0) 0) 0) (selF ((isPtF a b && isPtF c d) && isCornF e f g i) (selF (nearF a b c d) (selF (isPtF (apF a b e f) (apF c d e f) && isPtF (apF a b g i) (apF c d g i)) (apF c d e f) 0) 0) 0) (selF ((isPtF a b && isPtF c d) && isCornF e f g i) (selF (nearF a b c d) (selF (isPtF (apF a b e f) (apF c d e f) && isPtF (apF a b g i) (apF c d g i)) (apF a b g i) 0) 0) 0) (selF ((isPtF a b && isPtF c d) && isCornF e f g i) (selF (nearF a b c d) (selF (isPtF (apF a b e f) (apF c d e f) && isPtF (apF a b g i) (apF c d g i)) (apF c d g i) 0) 0) 0)) (ii (selF ((isPtF a b && isPtF c d) && isCornF e f g i) (selF (nearF a b c d) (selF (isPtF (apF a b e f) (apF c d e f) && isPtF (apF a b g i) (apF c d g i)) (0) 3) 5) 1))) := by
  refine pure_of good fn_spec_MoveCorner rfl rfl ?_
  conv => whnf
  all_goals (repeat' first
    | exact (by assumption : (_ : Bool) = (_ : Bool))
    | (refine br_true (by assumption) ?_; conv => whnf)
    | (refine br_false (by assumption) ?_; conv => whnf)
    | (refine br_not ?_; conv => whnf)
    | (refine br_code ?_; conv => whnf)
    | (with_reducible refine br_and ?_; conv => whnf)
    | (with_reducible refine br_or ?_; conv => whnf)
    | (refine br_eq2 ?_; conv => whnf)
    | (refine c_spec_l01Matrix.call ?_; conv => whnf)
    | (refine c_spec_l01Matrix.quiet ?_; conv => whnf)
    | (refine c_spec_l02Is.call ?_; conv => whnf)
    | (refine c_spec_l02Is.quiet ?_; conv => whnf)
    | (refine c_spec_l01Unit.call ?_; conv => whnf)
    | (refine c_spec_l01Unit.quiet ?_; conv => whnf)
    | (refine c_spec_l01Apply.call ?_; conv => whnf)
    | (refine c_spec_l01Apply.quiet ?_; conv => whnf)
    | (refine c_spec_l01Is.call ?_; conv => whnf)
    | (refine c_spec_l01Is.quiet ?_; conv => whnf)
    | (refine draw_auto (by decide +kernel) ?_; conv => whnf)
    | (refine draw_asg (by decide +kernel) ?_; conv => whnf)
    | (refine draw_st (by decide +kernel) ?_; conv => whnf)
    | (refine loop_n 12 ?_; conv => whnf)
    | (refine br_split (fun _ => ?_) (fun _ => ?_) <;> conv => whnf)
    | exact (rfl : (_ : Value) = _)
    | (simp only [*]; exact (rfl : (_ : Value) = _))
    | (simp [selF, *]; done))

theorem c_eqCorner_same {a b c d : Int}  : Pure Try.prog n_laws_eqCorner [q4 a b c d, q4 a b c d] (bb true) := by
  refine pure_of good fn_laws_eqCorner rfl rfl ?_
  conv => whnf
  all_goals (repeat' first
    | (refine br_true ?_ ?_; (focus (simp; done)); conv => whnf)
    | (refine br_false ?_ ?_; (focus (simp; done)); conv => whnf)
    | exact (by assumption : (_ : Bool) = (_ : Bool))
    | (refine br_true (by assumption) ?_; conv => whnf)
    | (refine br_false (by assumption) ?_; conv => whnf)
    | (refine br_not ?_; conv => whnf)
    | (refine br_code ?_; conv => whnf)
    | (with_reducible refine br_and ?_; conv => whnf)
    | (with_reducible refine br_or ?_; conv => whnf)
    | (refine br_eq2 ?_; conv => whnf)
    | (refine c_laws_eqPoint.call ?_; conv => whnf)
    | (refine c_laws_eqPoint.quiet ?_; conv => whnf)
    | (refine draw_auto (by decide +kernel) ?_; conv => whnf)
    | (refine draw_asg (by decide +kernel) ?_; conv => whnf)
    | (refine draw_st (by decide +kernel) ?_; conv => whnf)
    | (refine loop_n 12 ?_; conv => whnf)
    | (refine br_split (fun _ => ?_) (fun _ => ?_) <;> conv => whnf)
    | exact (rfl : (_ : Value) = _)
    | (simp only [*]; exact (rfl : (_ : Value) = _))
    | (simp [*]; done))

theorem c_laws_FnExactMoveCorner {a b c d e f g i : Int}  : Pure Try.prog n_laws_FnExactMoveCorner [q4 a b c d, q4 e f g i] (bb true) := by
  refine pure_of good fn_laws_FnExactMoveCorner rfl rfl ?_
  conv => whnf
  all_goals (repeat' first
    | (refine br_true ?_ ?_; (focus (simp; done)); conv => whnf)
    | (refine br_false ?_ ?_; (focus (simp; done)); conv => whnf)
    | exact (by assumption : (_ : Bool) = (_ : Bool))
    | (refine br_true (by assumption) ?_; conv => whnf)
    | (refine br_false (by assumption) ?_; conv => whnf)
    | (refine br_not ?_; conv => whnf)
    | (refine br_code ?_; conv => whnf)
    | (with_reducible refine br_and ?_; conv => whnf)
    | (with_reducible refine br_or ?_; conv => whnf)
    | (refine br_eq2 ?_; conv => whnf)
    | (refine c_laws_toMatrix.call ?_; conv => whnf)
    | (refine c_laws_toMatrix.quiet ?_; conv => whnf)
    | (refine c_laws_toCorner.call ?_; conv => whnf)
    | (refine c_laws_toCorner.quiet ?_; conv => whnf)
    | (refine c_spec_MoveCorner.call ?_; conv => whnf)
    | (refine c_spec_MoveCorner.quiet ?_; conv => whnf)
    | (refine c_impl_MoveCorner.call ?_; conv => whnf)
    | (refine c_impl_MoveCorner.quiet ?_; conv => whnf)
    | (refine c_eqCorner_same.call ?_; conv => whnf)
    | (refine c_eqCorner_same.quiet ?_; conv => whnf)
    | (refine draw_auto (by decide +kernel) ?_; conv => whnf)
    | (refine draw_asg (by decide +kernel) ?_; conv => whnf)
    | (refine draw_st (by decide +kernel) ?_; conv => whnf)
    | (refine loop_n 12 ?_; conv => whnf)
    | (refine br_split (fun _ => ?_) (fun _ => ?_) <;> conv => whnf)
    | exact (rfl : (_ : Value) = _)
    | (simp only [*]; exact (rfl : (_ : Value) = _))
    | (simp [*]; done))

theorem c_impl_CosineOf {a b c d : Int}  : Pure Try.prog n_impl_CosineOf [q4 a b c d] (t2 (ii (selF (isCornF a b c d) (selF (bigF a b c d) 0 (cosF a b c d)) 0)) (ii (limF (isCornF a b c d) (bigF a b c d)))) := by
  refine pure_of good fn_impl_CosineOf rfl rfl ?_
  conv => whnf
  all_goals (repeat' first
    | (refine br_lim ?_; conv => whnf)
    | exact (by assumption : (_ : Bool) = (_ : Bool))
    | (refine br_true (by assumption) ?_; conv => whnf)
    | (refine br_false (by assumption) ?_; conv => whnf)
    | (refine br_not ?_; conv => whnf)
    | (refine br_code ?_; conv => whnf)
    | (with_reducible refine br_and ?_; conv => whnf)
    | (with_reducible refine br_or ?_; conv => whnf)
    | (refine br_eq2 ?_; conv => whnf)
    | (refine c_limited_1.call1 rfl rfl ⟨_, rfl⟩ ?_; conv => whnf)
    | (refine c_limited_1.quiet1 rfl rfl ⟨_, rfl⟩ ?_; conv => whnf)
    | (refine c_limited_2.call1 rfl rfl ⟨_, rfl⟩ ?_; conv => whnf)
    | (refine c_limited_2.quiet1 rfl rfl ⟨_, rfl⟩ ?_; conv => whnf)
    | (refine (c_impl_Corner_cosine ?_).call ?_ <;> conv => whnf)
    | (refine (c_impl_Corner_cosine ?_).quiet ?_ <;> conv => whnf)
    | (refine draw_auto (by decide +kernel) ?_; conv => whnf)
    | (refine draw_asg (by decide +kernel) ?_; conv => whnf)
    | (refine draw_st (by decide +kernel) ?_; conv => whnf)
    | (refine loop_n 12 ?_; conv => whnf)
    | (refine br_split (fun _ => ?_) (fun _ => ?_) <;> conv => whnf)
    | exact (rfl : (_ : Value) = _)
    | (simp only [*]; exact (rfl : (_ : Value) = _))
    | (simp [selF, limF, *]; done))

theorem c_spec_CosineOf {a b c d : Int}  : Pure Try.prog n_spec_CosineOf [q4 a b c d] (t2 (ii (selF (isCornF a b c d) (selF (bigF a b c d) 0 (cosF a b c d)) 0)) (ii (limF (isCornF a b c d) (bigF a b c d)))) := by
  refine pure_of good fn_spec_CosineOf rfl rfl ?_
  conv => whnf
  all_goals (repeat' first
    | (refine br_lim ?_; conv => whnf)
    | exact (by assumption : (_ : Bool) = (_ : Bool))
    | (refine br_true (by assumption) ?_; conv => whnf)
    | (refine br_false (by assumption) ?_; conv => whnf)
    | (refine br_not ?_; conv => whnf)
    | (refine br_code ?_; conv => whnf)
    | (with_reducible refine br_and ?_; conv => whnf)
    | (with_reducible refine br_or ?_; conv => whnf)
    | (refine br_eq2 ?_; conv => whnf)
    | (refine c_l02Code_1.call1 rfl rfl ⟨_, rfl⟩ ?_; conv => whnf)
    | (refine c_l02Code_1.quiet1 rfl rfl ⟨_, rfl⟩ ?_; conv => whnf)
    | (refine c_l02Code_2.call1 rfl rfl ⟨_, rfl⟩ ?_; conv => whnf)
    | (refine c_l02Code_2.quiet1 rfl rfl ⟨_, rfl⟩ ?_; conv => whnf)
    | (refine (c_spec_l02Cosine ?_).call ?_ <;> conv => whnf)
    | (refine (c_spec_l02Cosine ?_).quiet ?_ <;> conv => whnf)
    | (refine draw_auto (by decide +kernel) ?_; conv => whnf)
    | (refine draw_asg (by decide +kernel) ?_; conv => whnf)
    | (refine draw_st (by decide +kernel) ?_; conv => whnf)
    | (refine loop_n 12 ?_; conv => whnf)
    | (refine br_split (fun _ => ?_) (fun _ => ?_) <;> conv => whnf)
    | exact (rfl : (_ : Value) = _)
    | (simp only [*]; exact (rfl : (_ : Value) = _))
    | (simp [selF, limF, *]; done))

theorem c_laws_FnExactCosineOf {a b c d : Int}  : Pure Try.prog n_laws_FnExactCosineOf [q4 a b c d] (bb true) := by
  refine pure_of good fn_laws_FnExactCosineOf rfl rfl ?_
  conv => whnf
  all_goals (repeat' first
    | (refine br_true ?_ ?_; (focus (simp; done)); conv => whnf)
    | (refine br_false ?_ ?_; (focus (simp; done)); conv => whnf)
    | exact (by assumption : (_ : Bool) = (_ : Bool))
    | (refine br_true (by assumption) ?_; conv => whnf)
    | (refine br_false (by assumption) ?_; conv => whnf)
    | (refine br_not ?_; conv => whnf)
    | (refine br_code ?_; conv => whnf)
    | (with_reducible refine br_and ?_; conv => whnf)
    | (with_reducible refine br_or ?_; conv => whnf)
    | (refine br_eq2 ?_; conv => whnf)
    | (refine c_laws_toCorner.call ?_; conv => whnf)
    | (refine c_laws_toCorner.quiet ?_; conv => whnf)
    | (refine c_spec_CosineOf.call ?_; conv => whnf)
    | (refine c_spec_CosineOf.quiet ?_; conv => whnf)
    | (refine c_impl_CosineOf.call ?_; conv => whnf)
    | (refine c_impl_CosineOf.quiet ?_; conv => whnf)
    | (refine draw_auto (by decide +kernel) ?_; conv => whnf)
    | (refine draw_asg (by decide +kernel) ?_; conv => whnf)
    | (refine draw_st (by decide +kernel) ?_; conv => whnf)
    | (refine loop_n 12 ?_; conv => whnf)
    | (refine br_split (fun _ => ?_) (fun _ => ?_) <;> conv => whnf)
    | exact (rfl : (_ : Value) = _)
    | (simp only [*]; exact (rfl : (_ : Value) = _))
    | (simp [*]; done))

theorem c_impl_tangent {a b : Int}  : Pure Try.prog n_impl_tangent [ii a, ii b] (q4 1 0 b a) := by
  refine pure_of good fn_impl_tangent rfl rfl ?_
  conv => whnf
  all_goals (repeat' first
    | exact (by assumption : (_ : Bool) = (_ : Bool))
    | (refine br_true (by assumption) ?_; conv => whnf)
    | (refine br_false (by assumption) ?_; conv => whnf)
    | (refine br_not ?_; conv => whnf)
    | (refine br_code ?_; conv => whnf)
    | (with_reducible refine br_and ?_; conv => whnf)
    | (with_reducible refine br_or ?_; conv => whnf)
    | (refine br_eq2 ?_; conv => whnf)
    | (refine draw_auto (by decide +kernel) ?_; conv => whnf)
    | (refine draw_asg (by decide +kernel) ?_; conv => whnf)
    | (refine draw_st (by decide +kernel) ?_; conv => whnf)
    | (refine loop_n 12 ?_; conv => whnf)
    | (refine br_split (fun _ => ?_) (fun _ => ?_) <;> conv => whnf)
    | exact (rfl : (_ : Value) = _)
    | (simp only [*]; exact (rfl : (_ : Value) = _))
    | (simp [*]; done))

theorem c_spec_l02Normal {a b : Int}  : Pure Try.prog n_spec_l02Normal [ii a, ii b] (q4 1 0 b a) := by
  refine pure_of good fn_spec_l02Normal rfl rfl ?_
  conv => whnf
  all_goals (repeat' first
    | exact (by assumption : (_ : Bool) = (_ : Bool))
    | (refine br_true (by assumption) ?_; conv => whnf)
    | (refine br_false (by assumption) ?_; conv => whnf)
    | (refine br_not ?_; conv => whnf)
    | (refine br_code ?_; conv => whnf)
    | (with_reducible refine br_and ?_; conv => whnf)
    | (with_reducible refine br_or ?_; conv => whnf)
    | (refine br_eq2 ?_; conv => whnf)
    | (refine draw_auto (by decide +kernel) ?_; conv => whnf)
    | (refine draw_asg (by decide +kernel) ?_; conv => whnf)
    | (refine draw_st (by decide +kernel) ?_; conv => whnf)
    | (refine loop_n 12 ?_; conv => whnf)
    | (refine br_split (fun _ => ?_) (fun _ => ?_) <;> conv => whnf)
    | exact (rfl : (_ : Value) = _)
    | (simp only [*]; exact (rfl : (_ : Value) = _))
    | (simp [*]; done))

theorem c_impl_NormalCorner {a b c d : Int}  : Pure Try.prog n_impl_NormalCorner [q4 a b c d] (t2 (q4 (selF (isCornF a b c d) (selF (bigF a b c d) 0 (1)) 0) 0 (selF (isCornF a b c d) (selF (bigF a b c d) 0 (cosF a b c d)) 0) (selF (isCornF a b c d) (selF (bigF a b c d) 0 (sineF a b c d)) 0)) (ii (limF (isCornF a b c d) (bigF a b c d)))) := by
  refine pure_of good fn_impl_NormalCorner rfl rfl ?_
  conv => whnf
  all_goals (repeat' first
    | (refine br_lim ?_; conv => whnf)
    | exact (by assumption : (_ : Bool) = (_ : Bool))
    | (refine br_true (by assumption) ?_; conv => whnf)
    | (refine br_false (by assumption) ?_; conv => whnf)
    | (refine br_not ?_; conv => whnf)
    | (refine br_code ?_; conv => whnf)
    | (with_reducible refine br_and ?_; conv => whnf)
    | (with_reducible refine br_or ?_; conv => whnf)
    | (refine br_eq2 ?_; conv => whnf)
    | (refine c_limited_1.call1 rfl rfl ⟨_, rfl⟩ ?_; conv => whnf)
    | (refine c_limited_1.quiet1 rfl rfl ⟨_, rfl⟩ ?_; conv => whnf)
    | (refine c_limited_2.call1 rfl rfl ⟨_, rfl⟩ ?_; conv => whnf)
    | (refine c_limited_2.quiet1 rfl rfl ⟨_, rfl⟩ ?_; conv => whnf)
    | (refine c_impl_Corner_sine.call ?_; conv => whnf)
    | (refine c_impl_Corner_sine.quiet ?_; conv => whnf)
    | (refine (c_impl_Corner_cosine ?_).call ?_ <;> conv => whnf)
    | (refine (c_impl_Corner_cosine ?_).quiet ?_ <;> conv => whnf)
    | (refine c_impl_tangent.call ?_; conv => whnf)
    | (refine c_impl_tangent.quiet ?_; conv => whnf)
    | (refine draw_auto (by decide +kernel) ?_; conv => whnf)
    | (refine draw_asg (by decide +kernel) ?_; conv => whnf)
    | (refine draw_st (by decide +kernel) ?_; conv => whnf)
    | (refine loop_n 12 ?_; conv => whnf)
    | (refine br_split (fun _ => ?_) (fun _ => ?_) <;> conv => whnf)
    | exact (rfl : (_ : Value) = _)
    | (simp only [*]; exact (rfl : (_ : Value) = _))
    | (simp [selF, limF, *]; done))

theorem c_spec_NormalCorner {a b c d : Int}  : Pure Try.prog n_spec_NormalCorner [q4 a b c d] (t2 (q4 (selF (isCornF a b c d) (selF (bigF a b c d) 0 (1)) 0) 0 (selF (isCornF a b c d) (selF (bigF a b c d) 0 (cosF a b c d)) 0) (selF (isCornF a b c d) (selF (bigF a b c d) 0 (sineF a b c d)) 0)) (ii (limF (isCornF a b c d) (bigF a b c d)))) := by
  refine pure_of good fn_spec_NormalCorner rfl rfl ?_
  conv => whnf
  all_goals (repeat' first
    | (refine br_lim ?_; conv => whnf)
    | exact (by assumption : (_ : Bool) = (_ : Bool))
    | (refine br_true (by assumption) ?_; conv => whnf)
    | (refine br_false (by assumption) ?_; conv => whnf)
    | (refine br_not ?_; conv => whnf)
    | (refine br_code ?_; conv => whnf)
    | (with_reducible refine br_and ?_; conv => whnf)
    | (with_reducible refine br_or ?_; conv => whnf)
    | (refine br_eq2 ?_; conv => whnf)
    | (refine c_l02Code_1.call1 rfl rfl ⟨_, rfl⟩ ?_; conv => whnf)
    | (refine c_l02Code_1.quiet1 rfl rfl ⟨_, rfl⟩ ?_; conv => whnf)
    | (refine c_l02Code_2.call1 rfl rfl ⟨_, rfl⟩ ?_; conv => whnf)
    | (refine c_l02Code_2.quiet1 rfl rfl ⟨_, rfl⟩ ?_; conv => whnf)
    | (refine c_spec_l02Sine.call ?_; conv => whnf)
    | (refine c_spec_l02Sine.quiet ?_; conv => whnf)
    | (refine (c_spec_l02Cosine ?_).call ?_ <;> conv => whnf)
    | (refine (c_spec_l02Cosine ?_).quiet ?_ <;> conv => whnf)
    | (refine c_spec_l02Normal.call ?_; conv => whnf)
    | (refine c_spec_l02Normal.quiet ?_; conv => whnf)
    | (refine draw_auto (by decide +kernel) ?_; conv => whnf)
    | (refine draw_asg (by decide +kernel) ?_; conv => whnf)
    | (refine draw_st (by decide +kernel) ?_; conv => whnf)
    | (refine loop_n 12 ?_; conv => whnf)
    | (refine br_split (fun _ => ?_) (fun _ => ?_) <;> conv => whnf)
    | exact (rfl : (_ : Value) = _)
    | (simp only [*]; exact (rfl : (_ : Value) = _))
    | (simp [selF, limF, *]; done))

theorem c_laws_FnExactNormalCorner {a b c d : Int}  : Pure Try.prog n_laws_FnExactNormalCorner [q4 a b c d] (bb true) := by
  refine pure_of good fn_laws_FnExactNormalCorner rfl rfl ?_
  conv => whnf
  all_goals (repeat' first
    | (refine br_true ?_ ?_; (focus (simp; done)); conv => whnf)
    | (refine br_false ?_ ?_; (focus (simp; done)); conv => whnf)
    | exact (by assumption : (_ : Bool) = (_ : Bool))
    | (refine br_true (by assumption) ?_; conv => whnf)
    | (refine br_false (by assumption) ?_; conv => whnf)
    | (refine br_not ?_; conv => whnf)
    | (refine br_code ?_; conv => whnf)
    | (with_reducible refine br_and ?_; conv => whnf)
    | (with_reducible refine br_or ?_; conv => whnf)
    | (refine br_eq2 ?_; conv => whnf)
    | (refine c_laws_toCorner.call ?_; conv => whnf)
    | (refine c_laws_toCorner.quiet ?_; conv => whnf)
    | (refine c_spec_NormalCorner.call ?_; conv => whnf)
    | (refine c_spec_NormalCorner.quiet ?_; conv => whnf)
    | (refine c_impl_NormalCorner.call ?_; conv => whnf)
    | (refine c_impl_NormalCorner.quiet ?_; conv => whnf)
    | (refine c_eqCorner_same.call ?_; conv => whnf)
    | (refine c_eqCorner_same.quiet ?_; conv => whnf)
    | (refine draw_auto (by decide +kernel) ?_; conv => whnf)
    | (refine draw_asg (by decide +kernel) ?_; conv => whnf)
    | (refine draw_st (by decide +kernel) ?_; conv => whnf)
    | (refine loop_n 12 ?_; conv => whnf)
    | (refine br_split (fun _ => ?_) (fun _ => ?_) <;> conv => whnf)
    | exact (rfl : (_ : Value) = _)
    | (simp only [*]; exact (rfl : (_ : Value) = _))
    | (simp [*]; done))

theorem c_column_0 {a b c d : Int}  : Pure Try.prog n_impl_Matrix_column [q4 a b c d, ii 0] (pt a c) := by
  refine pure_of good fn_impl_Matrix_column rfl rfl ?_
  conv => whnf
  all_goals (repeat' first
    | exact (by assumption : (_ : Bool) = (_ : Bool))
    | (refine br_true (by assumption) ?_; conv => whnf)
    | (refine br_false (by assumption) ?_; conv => whnf)
    | (refine br_not ?_; conv => whnf)
    | (refine br_code ?_; conv => whnf)
    | (with_reducible refine br_and ?_; conv => whnf)
    | (with_reducible refine br_or ?_; conv => whnf)
    | (refine br_eq2 ?_; conv => whnf)
    | (refine draw_auto (by decide +kernel) ?_; conv => whnf)
    | (refine draw_asg (by decide +kernel) ?_; conv => whnf)
    | (refine draw_st (by decide +kernel) ?_; conv => whnf)
    | (refine loop_n 12 ?_; conv => whnf)
    | (refine br_split (fun _ => ?_) (fun _ => ?_) <;> conv => whnf)
    | exact (rfl : (_ : Value) = _)
    | (simp only [*]; exact (rfl : (_ : Value) = _))
    | (simp [*]; done))

theorem c_column_1 {a b c d : Int}  : Pure Try.prog n_impl_Matrix_column [q4 a b c d, ii 1] (pt b d) := by
  refine pure_of good fn_impl_Matrix_column rfl rfl ?_
  conv => whnf
  all_goals (repeat' first
    | exact (by assumption : (_ : Bool) = (_ : Bool))
    | (refine br_true (by assumption) ?_; conv => whnf)
    | (refine br_false (by assumption) ?_; conv => whnf)
    | (refine br_not ?_; conv => whnf)
    | (refine br_code ?_; conv => whnf)
    | (with_reducible refine br_and ?_; conv => whnf)
    | (with_reducible refine br_or ?_; conv => whnf)
    | (refine br_eq2 ?_; conv => whnf)
    | (refine draw_auto (by decide +kernel) ?_; conv => whnf)
    | (refine draw_asg (by decide +kernel) ?_; conv => whnf)
    | (refine draw_st (by decide +kernel) ?_; conv => whnf)
    | (refine loop_n 12 ?_; conv => whnf)
    | (refine br_split (fun _ => ?_) (fun _ => ?_) <;> conv => whnf)
    | exact (rfl : (_ : Value) = _)
    | (simp only [*]; exact (rfl : (_ : Value) = _))
    | (simp [*]; done))

theorem c_impl_Matrix_times {a b c d e f g i : Int}  : Pure Try.prog n_impl_Matrix_times [q4 a b c d, q4 e f g i] (q4 (apF a b e g) (apF a b f i) (apF c d e g) (apF c d f i)) := by
  refine pure_of good fn_impl_Matrix_times rfl rfl ?_
  conv => whnf
  all_goals (repeat' first
    | exact (by assumption : (_ : Bool) = (_ : Bool))
    | (refine br_true (by assumption) ?_; conv => whnf)
    | (refine br_false (by assumption) ?_; conv => whnf)
    | (refine br_not ?_; conv => whnf)
    | (refine br_code ?_; conv => whnf)
    | (with_reducible refine br_and ?_; conv => whnf)
    | (with_reducible refine br_or ?_; conv => whnf)
    | (refine br_eq2 ?_; conv => whnf)
    | (refine c_column_0.call ?_; conv => whnf)
    | (refine c_column_0.quiet ?_; conv => whnf)
    | (refine c_column_1.call ?_; conv => whnf)
    | (refine c_column_1.quiet ?_; conv => whnf)
    | (refine c_impl_Matrix_apply.call ?_; conv => whnf)
    | (refine c_impl_Matrix_apply.quiet ?_; conv => whnf)
    | (refine draw_auto (by decide +kernel) ?_; conv => whnf)
    | (refine draw_asg (by decide +kernel) ?_; conv => whnf)
    | (refine draw_st (by decide +kernel) ?_; conv => whnf)
    | (refine loop_n 12 ?_; conv => whnf)
    | (refine br_split (fun _ => ?_) (fun _ => ?_) <;> conv => whnf)
    | exact (rfl : (_ : Value) = _)
    | (simp only [*]; exact (rfl : (_ : Value) = _))
    | (simp [*]; done))

theorem c_spec_l01Times {a b c d e f g i : Int}  : Pure Try.prog n_spec_l01Times [q4 a b c d, q4 e f g i] (q4 (apF a b e g) (apF a b f i) (apF c d e g) (apF c d f i)) := by
  refine pure_of good fn_spec_l01Times rfl rfl ?_
  conv => whnf
  all_goals (repeat' first
    | exact (by assumption : (_ : Bool) = (_ : Bool))
    | (refine br_true (by assumption) ?_; conv => whnf)
    | (refine br_false (by assumption) ?_; conv => whnf)
    | (refine br_not ?_; conv => whnf)
    | (refine br_code ?_; conv => whnf)
    | (with_reducible refine br_and ?_; conv => whnf)
    | (with_reducible refine br_or ?_; conv => whnf)
    | (refine br_eq2 ?_; conv => whnf)
    | (refine draw_auto (by decide +kernel) ?_; conv => whnf)
    | (refine draw_asg (by decide +kernel) ?_; conv => whnf)
    | (refine draw_st (by decide +kernel) ?_; conv => whnf)
    | (refine loop_n 12 ?_; conv => whnf)
    | (refine br_split (fun _ => ?_) (fun _ => ?_) <;> conv => whnf)
    | exact (rfl : (_ : Value) = _)
    | (simp only [*]; exact (rfl : (_ : Value) = _))
    | (simp [*]; done))

def invA (k m : Int) : Int := w64 (k * m)
def invB (k m : Int) : Int := w64 (w64 (0 - k) * m)

theorem c_impl_Matrix_inverse {a b c d : Int}  : Pure Try.prog n_impl_Matrix_inverse [q4 a b c d] (q4 (invA (detF a b c d) d) (invB (detF a b c d) b) (invB (detF a b c d) c) (invA (detF a b c d) a)) := by
  refine pure_of good fn_impl_Matrix_inverse rfl rfl ?_
  conv => whnf
  all_goals (repeat' first
    | exact (by assumption : (_ : Bool) = (_ : Bool))
    | (refine br_true (by assumption) ?_; conv => whnf)
    | (refine br_false (by assumption) ?_; conv => whnf)
    | (refine br_not ?_; conv => whnf)
    | (refine br_code ?_; conv => whnf)
    | (with_reducible refine br_and ?_; conv => whnf)
    | (with_reducible refine br_or ?_; conv => whnf)
    | (refine br_eq2 ?_; conv => whnf)
    | (refine c_impl_Matrix_det.call ?_; conv => whnf)
    | (refine c_impl_Matrix_det.quiet ?_; conv => whnf)
    | (refine draw_auto (by decide +kernel) ?_; conv => whnf)
    | (refine draw_asg (by decide +kernel) ?_; conv => whnf)
    | (refine draw_st (by decide +kernel) ?_; conv => whnf)
    | (refine loop_n 12 ?_; conv => whnf)
    | (refine br_split (fun _ => ?_) (fun _ => ?_) <;> conv => whnf)
    | exact (rfl : (_ : Value) = _)
    | (simp only [*]; exact (rfl : (_ : Value) = _))
    | (simp [*]; done))

theorem c_spec_l01Minus {a b c d : Int}  : Pure Try.prog n_spec_l01Minus [q4 a b c d] (q4 (invA (detF a b c d) d) (invB (detF a b c d) b) (invB (detF a b c d) c) (invA (detF a b c d) a)) := by
  refine pure_of good fn_spec_l01Minus rfl rfl ?_
  conv => whnf
  all_goals (repeat' first
    | exact (by assumption : (_ : Bool) = (_ : Bool))
    | (refine br_true (by assumption) ?_; conv => whnf)
    | (refine br_false (by assumption) ?_; conv => whnf)
    | (refine br_not ?_; conv => whnf)
    | (refine br_code ?_; conv => whnf)
    | (with_reducible refine br_and ?_; conv => whnf)
    | (with_reducible refine br_or ?_; conv => whnf)
    | (refine br_eq2 ?_; conv => whnf)
    | (refine c_spec_l01DetOf.call ?_; conv => whnf)
    | (refine c_spec_l01DetOf.quiet ?_; conv => whnf)
    | (refine draw_auto (by decide +kernel) ?_; conv => whnf)
    | (refine draw_asg (by decide +kernel) ?_; conv => whnf)
    | (refine draw_st (by decide +kernel) ?_; conv => whnf)
    | (refine loop_n 12 ?_; conv => whnf)
    | (refine br_split (fun _ => ?_) (fun _ => ?_) <;> conv => whnf)
    | exact (rfl : (_ : Value) = _)
    | (simp only [*]; exact (rfl : (_ : Value) = _))
    | (simp [*]; done))

theorem c_impl_Matrix_told {a b c d : Int}  : Pure Try.prog n_impl_Matrix_told [q4 a b c d] (t2 (q4 (selF (isPtF a b && isPtF c d) a 0) (selF (isPtF a b && isPtF c d) b 0) (selF (isPtF a b && isPtF c d) c 0) (selF (isPtF a b && isPtF c d) d 0)) (ii (selF (isPtF a b && isPtF c d) 0 3))) := by
  refine pure_of good fn_impl_Matrix_told rfl rfl ?_
  conv => whnf
  all_goals (repeat' first
    | exact (by assumption : (_ : Bool) = (_ : Bool))
    | (refine br_true (by assumption) ?_; conv => whnf)
    | (refine br_false (by assumption) ?_; conv => whnf)
    | (refine br_not ?_; conv => whnf)
    | (refine br_code ?_; conv => whnf)
    | (with_reducible refine br_and ?_; conv => whnf)
    | (with_reducible refine br_or ?_; conv => whnf)
    | (refine br_eq2 ?_; conv => whnf)
    | (refine c_impl_IsMatrix.call ?_; conv => whnf)
    | (refine c_impl_IsMatrix.quiet ?_; conv => whnf)
    | (refine draw_auto (by decide +kernel) ?_; conv => whnf)
    | (refine draw_asg (by decide +kernel) ?_; conv => whnf)
    | (refine draw_st (by decide +kernel) ?_; conv => whnf)
    | (refine loop_n 12 ?_; conv => whnf)
    | (refine br_split (fun _ => ?_) (fun _ => ?_) <;> conv => whnf)
    | exact (rfl : (_ : Value) = _)
    | (simp only [*]; exact (rfl : (_ : Value) = _))
    | (simp [selF, *]; done))

def halfA (a b c d e f g i : Int) : Int := apF (invA (detF e f g i) i) (invB (detF e f g i) f) a c
def halfB (a b c d e f g i : Int) : Int := apF (invA (detF e f g i) i) (invB (detF e f g i) f) b d
def halfC (a b c d e f g i : Int) : Int := apF (invB (detF e f g i) g) (invA (detF e f g i) e) a c
def halfD (a b c d e f g i : Int) : Int := apF (invB (detF e f g i) g) (invA (detF e f g i) e) b d

theorem br_sel3 {p : Bool} {A B : Prop} (h : brK p A B) : brK (decide (selF p 0 3 = 0)) A B := by cases p <;> exact h

theorem c_impl_ConjugateMatrix {a b c d e f g i : Int}  : Pure Try.prog n_impl_ConjugateMatrix [q4 a b c d, q4 e f g i] (t2 (q4 (selF ((isPtF a b && isPtF c d) && (isPtF e f && isPtF g i)) (selF (nearF e f g i) (selF (isPtF (halfA a b c d e f g i) (halfB a b c d e f g i) && isPtF (halfC a b c d e f g i) (halfD a b c d e f g i)) (selF (isPtF (apF (halfA a b c d e f g i) (halfB a b c d e f g i) e g) (apF (halfA a b c d e f g i) (halfB a b c d e f g i) f i) && isPtF (apF (halfC a b c d e f g i) (halfD a b c d e f g i) e g) (apF (halfC a b c d e f g i) (halfD a b c d e f g i) f i)) (apF (halfA a b c d e f g i) (halfB a b c d e f g i) e g) 0) 0) 0) 0) (selF ((isPtF a b && isPtF c d) && (isPtF e f && isPtF g i)) (selF (nearF e f g i) (selF (isPtF (halfA a b c d e f g i) (halfB a b c d e f g i) && isPtF (halfC a b c d e f g i) (halfD a b c d e f g i)) (selF (isPtF (apF (halfA a b c d e f g i) (halfB a b c d e f g i) e g) (apF (halfA a b c d e f g i) (halfB a b c d e f g i) f i) && isPtF (apF (halfC a b c d e f g i) (halfD a b c d e f g i) e g) (apF (halfC a b c d e f g i) (halfD a b c d e f g i) f i)) (apF (halfA a b c d e f g i) (halfB a b c d e f g i) f i) 0) 0) 0) 0) (selF ((isPtF a b && isPtF c d) && (isPtF e f && isPtF g i)) (selF (nearF e f g i) (selF (isPtF (halfA a b c d e f g i) (halfB a b c d e f g i) && isPtF (halfC a b c d e f g i) (halfD a b c d e f g i)) (selF (isPtF (apF (halfA a b c d e f g i) (halfB a b c d e f g i) e g) (apF (halfA a b c d e f g i) (halfB a b c d e f g i) f i) && isPtF (apF (halfC a b c d e f g i) (halfD a b c d e f g i) e g) (apF (halfC a b c d e f g i) (halfD a b c d e f g i) f i)) (apF (halfC a b c d e f g i) (halfD a b c d e f g i) e g) 0) 0) 0) 0) (selF ((isPtF a b && isPtF c d) && (isPtF e f && isPtF g i)) (selF (nearF e f g i) (selF (isPtF (halfA a b c d e f g i) (halfB a b c d e f g i) && isPtF (halfC a b c d e f g i) (halfD a b c d e f g i)) (selF (isPtF (apF (halfA a b c d e f g i) (halfB a b c d e f g i) e g) (apF (halfA a b c d e f g i) (halfB a b c d e f g i) f i) && isPtF (apF (halfC a b c d e f g i) (halfD a b c d e f g i) e g) (apF (halfC a b c d e f g i) (halfD a b c d e f g i) f i)) (apF (halfC a b c d e f g i) (halfD a b c d e f g i) f i) 0) 0) 0) 0)) (ii (selF ((isPtF a b && isPtF c d) && (isPtF e f && isPtF g i)) (selF (nearF e f g i) (selF (isPtF (halfA a b c d e f g i) (halfB a b c d e f g i) && isPtF (halfC a b c d e f g i) (halfD a b c d e f g i)) (selF (isPtF (apF (halfA a b c d e f g i) (halfB a b c d e f g i) e g) (apF (halfA a b c d e f g i) (halfB a b c d e f g i) f i) && isPtF (apF (halfC a b c d e f g i) (halfD a b c d e f g i) e g) (apF (halfC a b c d e f g i) (halfD a b c d e f g i) f i)) (0) 3) 3) 5) 1))) := by
  refine pure_of good fn_impl_ConjugateMatrix rfl rfl ?_
  conv => whnf
  all_goals (repeat' first
    | (refine br_sel3 ?_; conv => whnf)
    | exact (by assumption : (_ : Bool) = (_ : Bool))
    | (refine br_true (by assumption) ?_; conv => whnf)
    | (refine br_false (by assumption) ?_; conv => whnf)
    | (refine br_not ?_; conv => whnf)
    | (refine br_code ?_; conv => whnf)
    | (with_reducible refine br_and ?_; conv => whnf)
    | (with_reducible refine br_or ?_; conv => whnf)
    | (refine br_eq2 ?_; conv => whnf)
    | (refine c_impl_IsMatrix.call ?_; conv => whnf)
    | (refine c_impl_IsMatrix.quiet ?_; conv => whnf)
    | (refine c_impl_Matrix_unimodular.call ?_; conv => whnf)
    | (refine c_impl_Matrix_unimodular.quiet ?_; conv => whnf)
    | (refine c_impl_Matrix_inverse.call ?_; conv => whnf)
    | (refine c_impl_Matrix_inverse.quiet ?_; conv => whnf)
    | (refine c_impl_Matrix_times.call ?_; conv => whnf)
    | (refine c_impl_Matrix_times.quiet ?_; conv => whnf)
    | (refine c_impl_Matrix_told.call ?_; conv => whnf)
    | (refine c_impl_Matrix_told.quiet ?_; conv => whnf)
    | (refine draw_auto (by decide +kernel) ?_; conv => whnf)
    | (refine draw_asg (by decide +kernel) ?_; conv => whnf)
    | (refine draw_st (by decide +kernel) ?_; conv => whnf)
    | (refine loop_n 12 ?_; conv => whnf)
    | (refine br_split (fun _ => ?_) (fun _ => ?_) <;> conv => whnf)
    | exact (rfl : (_ : Value) = _)
    | (simp only [*]; exact (rfl : (_ : Value) = _))
    | (simp [selF, halfA, halfB, halfC, halfD, *]; done))

theorem c_spec_ConjugateMatrix {a b c d e f g i : Int}  : Pure Try.prog n_spec_ConjugateMatrix [q4 a b c d, q4 e f g i] (t2 (q4 (selF ((isPtF a b && isPtF c d) && (isPtF e f && isPtF g i)) (selF (nearF e f g i) (selF (isPtF (halfA a b c d e f g i) (halfB a b c d e f g i) && isPtF (halfC a b c d e f g i) (halfD a b c d e f g i)) (selF (isPtF (apF (halfA a b c d e f g i) (halfB a b c d e f g i) e g) (apF (halfA a b c d e f g i) (halfB a b c d e f g i) f i) && isPtF (apF (halfC a b c d e f g i) (halfD a b c d e f g i) e g) (apF (halfC a b c d e f g i) (halfD a b c d e f g i) f i)) (apF (halfA a b c d e f g i) (halfB a b c d e f g i) e g) 0) 0) 0) 0) (selF ((isPtF a b && isPtF c d) && (isPtF e f && isPtF g i)) (selF (nearF e f g i) (selF (isPtF (halfA a b c d e f g i) (halfB a b c d e f g i) && isPtF (halfC a b c d e f g i) (halfD a b c d e f g i)) (selF (isPtF (apF (halfA a b c d e f g i) (halfB a b c d e f g i) e g) (apF (halfA a b c d e f g i) (halfB a b c d e f g i) f i) && isPtF (apF (halfC a b c d e f g i) (halfD a b c d e f g i) e g) (apF (halfC a b c d e f g i) (halfD a b c d e f g i) f i)) (apF (halfA a b c d e f g i) (halfB a b c d e f g i) f i) 0) 0) 0) 0) (selF ((isPtF a b && isPtF c d) && (isPtF e f && isPtF g i)) (selF (nearF e f g i) (selF (isPtF (halfA a b c d e f g i) (halfB a b c d e f g i) && isPtF (halfC a b c d e f g i) (halfD a b c d e f g i)) (selF (isPtF (apF (halfA a b c d e f g i) (halfB a b c d e f g i) e g) (apF (halfA a b c d e f g i) (halfB a b c d e f g i) f i) && isPtF (apF (halfC a b c d e f g i) (halfD a b c d e f g i) e g) (apF (halfC a b c d e f g i) (halfD a b c d e f g i) f i)) (apF (halfC a b c d e f g i) (halfD a b c d e f g i) e g) 0) 0) 0) 0) (selF ((isPtF a b && isPtF c d) && (isPtF e f && isPtF g i)) (selF (nearF e f g i) (selF (isPtF (halfA a b c d e f g i) (halfB a b c d e f g i) && isPtF (halfC a b c d e f g i) (halfD a b c d e f g i)) (selF (isPtF (apF (halfA a b c d e f g i) (halfB a b c d e f g i) e g) (apF (halfA a b c d e f g i) (halfB a b c d e f g i) f i) && isPtF (apF (halfC a b c d e f g i) (halfD a b c d e f g i) e g) (apF (halfC a b c d e f g i) (halfD a b c d e f g i) f i)) (apF (halfC a b c d e f g i) (halfD a b c d e f g i) f i) 0) 0) 0) 0)) (ii (selF ((isPtF a b && isPtF c d) && (isPtF e f && isPtF g i)) (selF (nearF e f g i) (selF (isPtF (halfA a b c d e f g i) (halfB a b c d e f g i) && isPtF (halfC a b c d e f g i) (halfD a b c d e f g i)) (selF (isPtF (apF (halfA a b c d e f g i) (halfB a b c d e f g i) e g) (apF (halfA a b c d e f g i) (halfB a b c d e f g i) f i) && isPtF (apF (halfC a b c d e f g i) (halfD a b c d e f g i) e g) (apF (halfC a b c d e f g i) (halfD a b c d e f g i) f i)) (0) 3) 3) 5) 1))) := by
  refine pure_of good fn_spec_ConjugateMatrix rfl rfl ?_
  conv => whnf
  all_goals (repeat' first
    | (refine br_sel3 ?_; conv => whnf)
    | exact (by assumption : (_ : Bool) = (_ : Bool))
    | (refine br_true (by assumption) ?_; conv => whnf)
    | (refine br_false (by assumption) ?_; conv => whnf)
    | (refine br_not ?_; conv => whnf)
    | (refine br_code ?_; conv => whnf)
    | (with_reducible refine br_and ?_; conv => whnf)
    | (with_reducible refine br_or ?_; conv => whnf)
    | (refine br_eq2 ?_; conv => whnf)
    | (refine c_spec_l01Matrix.call ?_; conv => whnf)
    | (refine c_spec_l01Matrix.quiet ?_; conv => whnf)
    | (refine c_spec_l01Unit.call ?_; conv => whnf)
    | (refine c_spec_l01Unit.quiet ?_; conv => whnf)
    | (refine c_spec_l01Minus.call ?_; conv => whnf)
    | (refine c_spec_l01Minus.quiet ?_; conv => whnf)
    | (refine c_spec_l01Times.call ?_; conv => whnf)
    | (refine c_spec_l01Times.quiet ?_; conv => whnf)
    | (refine draw_auto (by decide +kernel) ?_; conv => whnf)
    | (refine draw_asg (by decide +kernel) ?_; conv => whnf)
    | (refine draw_st (by decide +kernel) ?_; conv => whnf)
    | (refine loop_n 12 ?_; conv => whnf)
    | (refine br_split (fun _ => ?_) (fun _ => ?_) <;> conv => whnf)
    | exact (rfl : (_ : Value) = _)
    | (simp only [*]; exact (rfl : (_ : Value) = _))
    | (simp [selF, halfA, halfB, halfC, halfD, *]; done))

theorem c_eqInt64A2_same {a b : Int}  : Pure Try.prog n_laws_eqInt64A2 [pt a b, pt a b] (bb true) := by
  refine pure_of good fn_laws_eqInt64A2 rfl rfl ?_
  conv => whnf
  all_goals (repeat' first
    | (refine br_true ?_ ?_; (focus (simp; done)); conv => whnf)
    | (refine br_false ?_ ?_; (focus (simp; done)); conv => whnf)
    | exact (by assumption : (_ : Bool) = (_ : Bool))
    | (refine br_true (by assumption) ?_; conv => whnf)
    | (refine br_false (by assumption) ?_; conv => whnf)
    | (refine br_not ?_; conv => whnf)
    | (refine br_code ?_; conv => whnf)
    | (with_reducible refine br_and ?_; conv => whnf)
    | (with_reducible refine br_or ?_; conv => whnf)
    | (refine br_eq2 ?_; conv => whnf)
    | (refine draw_auto (by decide +kernel) ?_; conv => whnf)
    | (refine draw_asg (by decide +kernel) ?_; conv => whnf)
    | (refine draw_st (by decide +kernel) ?_; conv => whnf)
    | (refine loop_n 12 ?_; conv => whnf)
    | (refine br_split (fun _ => ?_) (fun _ => ?_) <;> conv => whnf)
    | exact (rfl : (_ : Value) = _)
    | (simp only [*]; exact (rfl : (_ : Value) = _))
    | (simp [*]; done))

theorem c_eqMatrix_same {a b c d : Int}  : Pure Try.prog n_laws_eqMatrix [q4 a b c d, q4 a b c d] (bb true) := by
  refine pure_of good fn_laws_eqMatrix rfl rfl ?_
  conv => whnf
  all_goals (repeat' first
    | (refine br_true ?_ ?_; (focus (simp; done)); conv => whnf)
    | (refine br_false ?_ ?_; (focus (simp; done)); conv => whnf)
    | exact (by assumption : (_ : Bool) = (_ : Bool))
    | (refine br_true (by assumption) ?_; conv => whnf)
    | (refine br_false (by assumption) ?_; conv => whnf)
    | (refine br_not ?_; conv => whnf)
    | (refine br_code ?_; conv => whnf)
    | (with_reducible refine br_and ?_; conv => whnf)
    | (with_reducible refine br_or ?_; conv => whnf)
    | (refine br_eq2 ?_; conv => whnf)
    | (refine c_eqInt64A2_same.call ?_; conv => whnf)
    | (refine c_eqInt64A2_same.quiet ?_; conv => whnf)
    | (refine draw_auto (by decide +kernel) ?_; conv => whnf)
    | (refine draw_asg (by decide +kernel) ?_; conv => whnf)
    | (refine draw_st (by decide +kernel) ?_; conv => whnf)
    | (refine loop_n 12 ?_; conv => whnf)
    | (refine br_split (fun _ => ?_) (fun _ => ?_) <;> conv => whnf)
    | exact (rfl : (_ : Value) = _)
    | (simp only [*]; exact (rfl : (_ : Value) = _))
    | (simp [*]; done))

theorem c_laws_FnExactConjugateMatrix {a b c d e f g i : Int}  : Pure Try.prog n_laws_FnExactConjugateMatrix [q4 a b c d, q4 e f g i] (bb true) := by
  refine pure_of good fn_laws_FnExactConjugateMatrix rfl rfl ?_
  conv => whnf
  all_goals (repeat' first
    | (refine br_true ?_ ?_; (focus (simp; done)); conv => whnf)
    | (refine br_false ?_ ?_; (focus (simp; done)); conv => whnf)
    | exact (by assumption : (_ : Bool) = (_ : Bool))
    | (refine br_true (by assumption) ?_; conv => whnf)
    | (refine br_false (by assumption) ?_; conv => whnf)
    | (refine br_not ?_; conv => whnf)
    | (refine br_code ?_; conv => whnf)
    | (with_reducible refine br_and ?_; conv => whnf)
    | (with_reducible refine br_or ?_; conv => whnf)
    | (refine br_eq2 ?_; conv => whnf)
    | (refine c_laws_toMatrix.call ?_; conv => whnf)
    | (refine c_laws_toMatrix.quiet ?_; conv => whnf)
    | (refine c_spec_ConjugateMatrix.call ?_; conv => whnf)
    | (refine c_spec_ConjugateMatrix.quiet ?_; conv => whnf)
    | (refine c_impl_ConjugateMatrix.call ?_; conv => whnf)
    | (refine c_impl_ConjugateMatrix.quiet ?_; conv => whnf)
    | (refine c_eqMatrix_same.call ?_; conv => whnf)
    | (refine c_eqMatrix_same.quiet ?_; conv => whnf)
    | (refine draw_auto (by decide +kernel) ?_; conv => whnf)
    | (refine draw_asg (by decide +kernel) ?_; conv => whnf)
    | (refine draw_st (by decide +kernel) ?_; conv => whnf)
    | (refine loop_n 12 ?_; conv => whnf)
    | (refine br_split (fun _ => ?_) (fun _ => ?_) <;> conv => whnf)
    | exact (rfl : (_ : Value) = _)
    | (simp only [*]; exact (rfl : (_ : Value) = _))
    | (simp [*]; done))

abbrev tr3 (a b c : Int) : Value := .agg #[.int .i64 a, .int .i64 b, .int .i64 c]

theorem c_impl_root {d : Int} (h : inF d 1 4000 = true) : Pure Try.prog n_impl_root [ii d] (ii (rootL d 0)) := by
  refine pure_of good fn_impl_root rfl rfl ?_
  conv => whnf
  all_goals (repeat' first
    | (refine loop_rec (fun (s : Int × Value × Value × Value × Value × Value × Value × Value × Value × Value) => match s with | (w, u4, u5, u6, u7, u8, u9, u10, u11, u12) => [ii d, undef, ii 0, ii w, u4, u5, u6, u7, u8, u9, u10, u11, u12, undef]) (fun (s : Int × Value × Value × Value × Value × Value × Value × Value × Value × Value) => match s with | (w, u4, u5, u6, u7, u8, u9, u10, u11, u12) => []) (fun (s : Int × Value × Value × Value × Value × Value × Value × Value × Value × Value) => match s with | (w, u4, u5, u6, u7, u8, u9, u10, u11, u12) => (d - w).toNat) (fun (s : Int × Value × Value × Value × Value × Value × Value × Value × Value × Value) => match s with | (w, u4, u5, u6, u7, u8, u9, u10, u11, u12) => RInv d w) (0, _, _, _, _, _, _, _, _, _) (root_start h) ?_; rintro n ⟨w, u4, u5, u6, u7, u8, u9, u10, u11, u12⟩ hI IH; replace hI : RInv d w := hI; conv => whnf)
    | exact IH (w64 (w + 1), _, _, _, _, _, _, _, _, _) (root_next hI (by assumption)) (root_mu hI (by assumption))
    | exact congrArg (Value.int IntKind.i64) (root_end hI (by assumption))
    | exact (by assumption : (_ : Bool) = (_ : Bool))
    | (refine br_true (by assumption) ?_; conv => whnf)
    | (refine br_false (by assumption) ?_; conv => whnf)
    | (refine br_not ?_; conv => whnf)
    | (refine br_code ?_; conv => whnf)
    | (with_reducible refine br_and ?_; conv => whnf)
    | (with_reducible refine br_or ?_; conv => whnf)
    | (refine br_eq2 ?_; conv => whnf)
    | (refine draw_auto (by decide +kernel) ?_; conv => whnf)
    | (refine draw_asg (by decide +kernel) ?_; conv => whnf)
    | (refine draw_st (by decide +kernel) ?_; conv => whnf)
    | (refine loop_n 12 ?_; conv => whnf)
    | (refine br_split (fun _ => ?_) (fun _ => ?_) <;> conv => whnf)
    | exact (rfl : (_ : Value) = _)
    | (simp only [*]; exact (rfl : (_ : Value) = _))
    | (simp [*]; done))

theorem c_spec_l06Root {d : Int} (h : inF d 1 4000 = true) : Pure Try.prog n_spec_l06Root [ii d] (ii (rootL d 0)) := by
  refine pure_of good fn_spec_l06Root rfl rfl ?_
  conv => whnf
  all_goals (repeat' first
    | (refine loop_rec (fun (s : Int × Value × Value × Value × Value × Value × Value × Value × Value × Value) => match s with | (w, u4, u5, u6, u7, u8, u9, u10, u11, u12) => [ii d, undef, ii 0, ii w, u4, u5, u6, u7, u8, u9, u10, u11, u12, undef]) (fun (s : Int × Value × Value × Value × Value × Value × Value × Value × Value × Value) => match s with | (w, u4, u5, u6, u7, u8, u9, u10, u11, u12) => []) (fun (s : Int × Value × Value × Value × Value × Value × Value × Value × Value × Value) => match s with | (w, u4, u5, u6, u7, u8, u9, u10, u11, u12) => (d - w).toNat) (fun (s : Int × Value × Value × Value × Value × Value × Value × Value × Value × Value) => match s with | (w, u4, u5, u6, u7, u8, u9, u10, u11, u12) => RInv d w) (0, _, _, _, _, _, _, _, _, _) (root_start h) ?_; rintro n ⟨w, u4, u5, u6, u7, u8, u9, u10, u11, u12⟩ hI IH; replace hI : RInv d w := hI; conv => whnf)
    | exact IH (w64 (w + 1), _, _, _, _, _, _, _, _, _) (root_next hI (by assumption)) (root_mu hI (by assumption))
    | exact congrArg (Value.int IntKind.i64) (root_end hI (by assumption))
    | exact (by assumption : (_ : Bool) = (_ : Bool))
    | (refine br_true (by assumption) ?_; conv => whnf)
    | (refine br_false (by assumption) ?_; conv => whnf)
    | (refine br_not ?_; conv => whnf)
    | (refine br_code ?_; conv => whnf)
    | (with_reducible refine br_and ?_; conv => whnf)
    | (with_reducible refine br_or ?_; conv => whnf)
    | (refine br_eq2 ?_; conv => whnf)
    | (refine draw_auto (by decide +kernel) ?_; conv => whnf)
    | (refine draw_asg (by decide +kernel) ?_; conv => whnf)
    | (refine draw_st (by decide +kernel) ?_; conv => whnf)
    | (refine loop_n 12 ?_; conv => whnf)
    | (refine br_split (fun _ => ?_) (fun _ => ?_) <;> conv => whnf)
    | exact (rfl : (_ : Value) = _)
    | (simp only [*]; exact (rfl : (_ : Value) = _))
    | (simp [*]; done))

theorem c_impl_discOk {d : Int}  : Pure Try.prog n_impl_discOk [ii d] (bb (discF d)) := by
  refine pure_of good fn_impl_discOk rfl rfl ?_
  conv => whnf
  all_goals (repeat' first
    | exact (by assumption : (_ : Bool) = (_ : Bool))
    | (refine br_true (by assumption) ?_; conv => whnf)
    | (refine br_false (by assumption) ?_; conv => whnf)
    | (refine br_not ?_; conv => whnf)
    | (refine br_code ?_; conv => whnf)
    | (with_reducible refine br_and ?_; conv => whnf)
    | (with_reducible refine br_or ?_; conv => whnf)
    | (refine br_eq2 ?_; conv => whnf)
    | (refine c_impl_in.call ?_; conv => whnf)
    | (refine c_impl_in.quiet ?_; conv => whnf)
    | (refine (c_impl_root ?_).call ?_ <;> conv => whnf)
    | (refine (c_impl_root ?_).quiet ?_ <;> conv => whnf)
    | (refine draw_auto (by decide +kernel) ?_; conv => whnf)
    | (refine draw_asg (by decide +kernel) ?_; conv => whnf)
    | (refine draw_st (by decide +kernel) ?_; conv => whnf)
    | (refine loop_n 12 ?_; conv => whnf)
    | (refine br_split (fun _ => ?_) (fun _ => ?_) <;> conv => whnf)
    | exact (rfl : (_ : Value) = _)
    | (simp only [*]; exact (rfl : (_ : Value) = _))
    | (simp [discF, *]; done))

theorem c_impl_Form_disc {a b c : Int}  : Pure Try.prog n_impl_Form_disc [tr3 a b c] (ii (formD a b c)) := by
  refine pure_of good fn_impl_Form_disc rfl rfl ?_
  conv => whnf
  all_goals (repeat' first
    | exact (by assumption : (_ : Bool) = (_ : Bool))
    | (refine br_true (by assumption) ?_; conv => whnf)
    | (refine br_false (by assumption) ?_; conv => whnf)
    | (refine br_not ?_; conv => whnf)
    | (refine br_code ?_; conv => whnf)
    | (with_reducible refine br_and ?_; conv => whnf)
    | (with_reducible refine br_or ?_; conv => whnf)
    | (refine br_eq2 ?_; conv => whnf)
    | (refine draw_auto (by decide +kernel) ?_; conv => whnf)
    | (refine draw_asg (by decide +kernel) ?_; conv => whnf)
    | (refine draw_st (by decide +kernel) ?_; conv => whnf)
    | (refine loop_n 12 ?_; conv => whnf)
    | (refine br_split (fun _ => ?_) (fun _ => ?_) <;> conv => whnf)
    | exact (rfl : (_ : Value) = _)
    | (simp only [*]; exact (rfl : (_ : Value) = _))
    | (simp [*]; done))

theorem c_spec_l06Disc {a b c : Int}  : Pure Try.prog n_spec_l06Disc [tr3 a b c] (ii (formD a b c)) := by
  refine pure_of good fn_spec_l06Disc rfl rfl ?_
  conv => whnf
  all_goals (repeat' first
    | exact (by assumption : (_ : Bool) = (_ : Bool))
    | (refine br_true (by assumption) ?_; conv => whnf)
    | (refine br_false (by assumption) ?_; conv => whnf)
    | (refine br_not ?_; conv => whnf)
    | (refine br_code ?_; conv => whnf)
    | (with_reducible refine br_and ?_; conv => whnf)
    | (with_reducible refine br_or ?_; conv => whnf)
    | (refine br_eq2 ?_; conv => whnf)
    | (refine draw_auto (by decide +kernel) ?_; conv => whnf)
    | (refine draw_asg (by decide +kernel) ?_; conv => whnf)
    | (refine draw_st (by decide +kernel) ?_; conv => whnf)
    | (refine loop_n 12 ?_; conv => whnf)
    | (refine br_split (fun _ => ?_) (fun _ => ?_) <;> conv => whnf)
    | exact (rfl : (_ : Value) = _)
    | (simp only [*]; exact (rfl : (_ : Value) = _))
    | (simp [*]; done))

theorem c_impl_IsForm {a b c : Int}  : Pure Try.prog n_impl_IsForm [tr3 a b c] (bb (isFormF a b c)) := by
  refine pure_of good fn_impl_IsForm rfl rfl ?_
  conv => whnf
  all_goals (repeat' first
    | exact (by assumption : (_ : Bool) = (_ : Bool))
    | (refine br_true (by assumption) ?_; conv => whnf)
    | (refine br_false (by assumption) ?_; conv => whnf)
    | (refine br_not ?_; conv => whnf)
    | (refine br_code ?_; conv => whnf)
    | (with_reducible refine br_and ?_; conv => whnf)
    | (with_reducible refine br_or ?_; conv => whnf)
    | (refine br_eq2 ?_; conv => whnf)
    | (refine c_impl_isCoord.call ?_; conv => whnf)
    | (refine c_impl_isCoord.quiet ?_; conv => whnf)
    | (refine c_impl_Form_disc.call ?_; conv => whnf)
    | (refine c_impl_Form_disc.quiet ?_; conv => whnf)
    | (refine c_impl_discOk.call ?_; conv => whnf)
    | (refine c_impl_discOk.quiet ?_; conv => whnf)
    | (refine draw_auto (by decide +kernel) ?_; conv => whnf)
    | (refine draw_asg (by decide +kernel) ?_; conv => whnf)
    | (refine draw_st (by decide +kernel) ?_; conv => whnf)
    | (refine loop_n 12 ?_; conv => whnf)
    | (refine br_split (fun _ => ?_) (fun _ => ?_) <;> conv => whnf)
    | exact (rfl : (_ : Value) = _)
    | (simp only [*]; exact (rfl : (_ : Value) = _))
    | (simp [isFormF, *]; done))

theorem c_spec_l06Is {a b c : Int}  : Pure Try.prog n_spec_l06Is [tr3 a b c] (bb (isFormF a b c)) := by
  refine pure_of good fn_spec_l06Is rfl rfl ?_
  conv => whnf
  all_goals (repeat' first
    | exact (by assumption : (_ : Bool) = (_ : Bool))
    | (refine br_true (by assumption) ?_; conv => whnf)
    | (refine br_false (by assumption) ?_; conv => whnf)
    | (refine br_not ?_; conv => whnf)
    | (refine br_code ?_; conv => whnf)
    | (with_reducible refine br_and ?_; conv => whnf)
    | (with_reducible refine br_or ?_; conv => whnf)
    | (refine br_eq2 ?_; conv => whnf)
    | (refine c_spec_l01Fits.call ?_; conv => whnf)
    | (refine c_spec_l01Fits.quiet ?_; conv => whnf)
    | (refine c_spec_l06Disc.call ?_; conv => whnf)
    | (refine c_spec_l06Disc.quiet ?_; conv => whnf)
    | (refine c_spec_l01In.call ?_; conv => whnf)
    | (refine c_spec_l01In.quiet ?_; conv => whnf)
    | (refine (c_spec_l06Root ?_).call ?_ <;> conv => whnf)
    | (refine (c_spec_l06Root ?_).quiet ?_ <;> conv => whnf)
    | (refine draw_auto (by decide +kernel) ?_; conv => whnf)
    | (refine draw_asg (by decide +kernel) ?_; conv => whnf)
    | (refine draw_st (by decide +kernel) ?_; conv => whnf)
    | (refine loop_n 12 ?_; conv => whnf)
    | (refine br_split (fun _ => ?_) (fun _ => ?_) <;> conv => whnf)
    | exact (rfl : (_ : Value) = _)
    | (simp only [*]; exact (rfl : (_ : Value) = _))
    | (simp [isFormF, discF, *]; done))

theorem c_impl_FormOfMatrix {a b c d : Int}  : Pure Try.prog n_impl_FormOfMatrix [q4 a b c d] (t2 (tr3 (selF (isPtF a b && isPtF c d) (selF (decide (detF a b c d = 1)) (selF (isFormF (c) (w64 (d - a)) (w64 (0 - b))) (c) 0) 0) 0) (selF (isPtF a b && isPtF c d) (selF (decide (detF a b c d = 1)) (selF (isFormF (c) (w64 (d - a)) (w64 (0 - b))) (w64 (d - a)) 0) 0) 0) (selF (isPtF a b && isPtF c d) (selF (decide (detF a b c d = 1)) (selF (isFormF (c) (w64 (d - a)) (w64 (0 - b))) (w64 (0 - b)) 0) 0) 0)) (ii (selF (isPtF a b && isPtF c d) (selF (decide (detF a b c d = 1)) (selF (isFormF (c) (w64 (d - a)) (w64 (0 - b))) (0) 5) 5) 1))) := by
  refine pure_of good fn_impl_FormOfMatrix rfl rfl ?_
  conv => whnf
  all_goals (repeat' first
    | exact (by assumption : (_ : Bool) = (_ : Bool))
    | (refine br_true (by assumption) ?_; conv => whnf)
    | (refine br_false (by assumption) ?_; conv => whnf)
    | (refine br_not ?_; conv => whnf)
    | (refine br_code ?_; conv => whnf)
    | (with_reducible refine br_and ?_; conv => whnf)
    | (with_reducible refine br_or ?_; conv => whnf)
    | (refine br_eq2 ?_; conv => whnf)
    | (refine c_impl_IsMatrix.call ?_; conv => whnf)
    | (refine c_impl_IsMatrix.quiet ?_; conv => whnf)
    | (refine c_impl_Matrix_det.call ?_; conv => whnf)
    | (refine c_impl_Matrix_det.quiet ?_; conv => whnf)
    | (refine c_impl_IsForm.call ?_; conv => whnf)
    | (refine c_impl_IsForm.quiet ?_; conv => whnf)
    | (refine draw_auto (by decide +kernel) ?_; conv => whnf)
    | (refine draw_asg (by decide +kernel) ?_; conv => whnf)
    | (refine draw_st (by decide +kernel) ?_; conv => whnf)
    | (refine loop_n 12 ?_; conv => whnf)
    | (refine br_split (fun _ => ?_) (fun _ => ?_) <;> conv => whnf)
    | exact (rfl : (_ : Value) = _)
    | (simp only [*]; exact (rfl : (_ : Value) = _))
    | (simp [selF, *]; done))

theorem c_spec_FormOfMatrix {a b c d : Int}  : Pure Try.prog n_spec_FormOfMatrix [q4 a b c d] (t2 (tr3 (selF (isPtF a b && isPtF c d) (selF (decide (detF a b c d = 1)) (selF (isFormF (c) (w64 (d - a)) (w64 (0 - b))) (c) 0) 0) 0) (selF (isPtF a b && isPtF c d) (selF (decide (detF a b c d = 1)) (selF (isFormF (c) (w64 (d - a)) (w64 (0 - b))) (w64 (d - a)) 0) 0) 0) (selF (isPtF a b && isPtF c d) (selF (decide (detF a b c d = 1)) (selF (isFormF (c) (w64 (d - a)) (w64 (0 - b))) (w64 (0 - b)) 0) 0) 0)) (ii (selF (isPtF a b && isPtF c d) (selF (decide (detF a b c d = 1)) (selF (isFormF (c) (w64 (d - a)) (w64 (0 - b))) (0) 5) 5) 1))) := by
  refine pure_of good fn_spec_FormOfMatrix rfl rfl ?_
  conv => whnf
  all_goals (repeat' first
    | exact (by assumption : (_ : Bool) = (_ : Bool))
    | (refine br_true (by assumption) ?_; conv => whnf)
    | (refine br_false (by assumption) ?_; conv => whnf)
    | (refine br_not ?_; conv => whnf)
    | (refine br_code ?_; conv => whnf)
    | (with_reducible refine br_and ?_; conv => whnf)
    | (with_reducible refine br_or ?_; conv => whnf)
    | (refine br_eq2 ?_; conv => whnf)
    | (refine c_spec_l01Matrix.call ?_; conv => whnf)
    | (refine c_spec_l01Matrix.quiet ?_; conv => whnf)
    | (refine c_spec_l01DetOf.call ?_; conv => whnf)
    | (refine c_spec_l01DetOf.quiet ?_; conv => whnf)
    | (refine c_spec_l06Is.call ?_; conv => whnf)
    | (refine c_spec_l06Is.quiet ?_; conv => whnf)
    | (refine draw_auto (by decide +kernel) ?_; conv => whnf)
    | (refine draw_asg (by decide +kernel) ?_; conv => whnf)
    | (refine draw_st (by decide +kernel) ?_; conv => whnf)
    | (refine loop_n 12 ?_; conv => whnf)
    | (refine br_split (fun _ => ?_) (fun _ => ?_) <;> conv => whnf)
    | exact (rfl : (_ : Value) = _)
    | (simp only [*]; exact (rfl : (_ : Value) = _))
    | (simp [selF, *]; done))

theorem c_eqForm_same {a b c : Int}  : Pure Try.prog n_laws_eqForm [tr3 a b c, tr3 a b c] (bb true) := by
  refine pure_of good fn_laws_eqForm rfl rfl ?_
  conv => whnf
  all_goals (repeat' first
    | (refine br_true ?_ ?_; (focus (simp; done)); conv => whnf)
    | (refine br_false ?_ ?_; (focus (simp; done)); conv => whnf)
    | exact (by assumption : (_ : Bool) = (_ : Bool))
    | (refine br_true (by assumption) ?_; conv => whnf)
    | (refine br_false (by assumption) ?_; conv => whnf)
    | (refine br_not ?_; conv => whnf)
    | (refine br_code ?_; conv => whnf)
    | (with_reducible refine br_and ?_; conv => whnf)
    | (with_reducible refine br_or ?_; conv => whnf)
    | (refine br_eq2 ?_; conv => whnf)
    | (refine draw_auto (by decide +kernel) ?_; conv => whnf)
    | (refine draw_asg (by decide +kernel) ?_; conv => whnf)
    | (refine draw_st (by decide +kernel) ?_; conv => whnf)
    | (refine loop_n 12 ?_; conv => whnf)
    | (refine br_split (fun _ => ?_) (fun _ => ?_) <;> conv => whnf)
    | exact (rfl : (_ : Value) = _)
    | (simp only [*]; exact (rfl : (_ : Value) = _))
    | (simp [*]; done))

theorem c_laws_FnExactFormOfMatrix {a b c d : Int}  : Pure Try.prog n_laws_FnExactFormOfMatrix [q4 a b c d] (bb true) := by
  refine pure_of good fn_laws_FnExactFormOfMatrix rfl rfl ?_
  conv => whnf
  all_goals (repeat' first
    | (refine br_true ?_ ?_; (focus (simp; done)); conv => whnf)
    | (refine br_false ?_ ?_; (focus (simp; done)); conv => whnf)
    | exact (by assumption : (_ : Bool) = (_ : Bool))
    | (refine br_true (by assumption) ?_; conv => whnf)
    | (refine br_false (by assumption) ?_; conv => whnf)
    | (refine br_not ?_; conv => whnf)
    | (refine br_code ?_; conv => whnf)
    | (with_reducible refine br_and ?_; conv => whnf)
    | (with_reducible refine br_or ?_; conv => whnf)
    | (refine br_eq2 ?_; conv => whnf)
    | (refine c_laws_toMatrix.call ?_; conv => whnf)
    | (refine c_laws_toMatrix.quiet ?_; conv => whnf)
    | (refine c_spec_FormOfMatrix.call ?_; conv => whnf)
    | (refine c_spec_FormOfMatrix.quiet ?_; conv => whnf)
    | (refine c_impl_FormOfMatrix.call ?_; conv => whnf)
    | (refine c_impl_FormOfMatrix.quiet ?_; conv => whnf)
    | (refine c_eqForm_same.call ?_; conv => whnf)
    | (refine c_eqForm_same.quiet ?_; conv => whnf)
    | (refine draw_auto (by decide +kernel) ?_; conv => whnf)
    | (refine draw_asg (by decide +kernel) ?_; conv => whnf)
    | (refine draw_st (by decide +kernel) ?_; conv => whnf)
    | (refine loop_n 12 ?_; conv => whnf)
    | (refine br_split (fun _ => ?_) (fun _ => ?_) <;> conv => whnf)
    | exact (rfl : (_ : Value) = _)
    | (simp only [*]; exact (rfl : (_ : Value) = _))
    | (simp [*]; done))

end Go.Proofs.Ytgbnoaggnfjjgaa
