/-
  Several texts of this work in one (a claim holds at most 60 files).
  Conditions: as each contract states.
-/
import Derived.Test.YtlkbfpklhncfbaaGreatDoorTbl
import Derived.Test.YtlkbfpklhncfbaaGreatDoorMath
import Derived.Test.YtlkbfpklhncfbaaGreatDoorEvUse
import Derived.Test.YtlkbfpklhncfbaaGreatDoorSpec
section
/-
  Contracts of functions of the program (printed by a program of this work; Lean checks each).
  Conditions: as each contract states.
-/
namespace Go.Proofs.YtlkbfpklhncfbaaGreatDoor
open Go.Ev Go.RowKit
set_option maxRecDepth 100000
set_option linter.unusedVariables false
set_option linter.unusedSimpArgs false

abbrev ii (a : Int) : Value := .int .i64 a
abbrev bb (a : Bool) : Value := .bool a
abbrev pt (a b : Int) : Value := .agg #[.int .i64 a, .int .i64 b]
abbrev tri (a b c d e f : Int) : Value := .agg #[.int .i64 a, .int .i64 b, .int .i64 c, .int .i64 d, .int .i64 e, .int .i64 f]
abbrev q4 (a b c d : Int) : Value := .agg #[.int .i64 a, .int .i64 b, .int .i64 c, .int .i64 d]
abbrev t2 (a b : Value) : Value := .tuple #[a, b]
abbrev fnv (n : Nat) : Value := .func (.func n) #[] #[]

theorem c_impl_in {n l h : Int}  : Pure Tryz.prog n_impl_in [ii n, ii l, ii h] (bb (inF n l h)) := by
  refine pure_of good fn_impl_in rfl rfl ?_
  conv => whnf
  all_goals (repeat' first
    | (refine StoreK.mk rfl ?_; conv => whnf)
    | exact join_same
    | exact (by assumption : (_ : Bool) = (_ : Bool))
    | (refine br_true (by assumption) ?_; conv => whnf)
    | (refine br_false (by assumption) ?_; conv => whnf)
    | (refine br_not ?_; conv => whnf)
    | (refine br_code ?_; conv => whnf)
    | (with_reducible refine br_and ?_; conv => whnf)
    | (with_reducible refine br_or ?_; conv => whnf)
    | (refine br_eq2 ?_; conv => whnf)
    | (refine draw_auto (by decide +kernel) ?_; conv => whnf)
    | (refine draw_asg (by decide +kernel) ?_; conv => whnf)
    | (refine draw_st (by decide +kernel) ?_; conv => whnf)
    | (refine draw_call (by decide +kernel) ?_; conv => whnf)
    | (refine enter_same (loop_n 12 ?_); conv => whnf)
    | (refine next_same ?_; conv => whnf)
    | (refine mapK_row (by assumption) ?_; conv => whnf)
    | (refine mapK_plain (Plain.of rfl) ?_; conv => whnf)
    | (refine mapK_lit ?_; conv => whnf)
    | (refine br_split (fun _ => ?_) (fun _ => ?_) <;> conv => whnf)
    | exact (rfl : (_ : Value) = _)
    | (simp only [*]; exact (rfl : (_ : Value) = _))
    | (simp [inF, *]; done))

theorem c_spec_l01In {n l h : Int}  : Pure Tryz.prog n_spec_l01In [ii n, ii l, ii h] (bb (inF n l h)) := by
  refine pure_of good fn_spec_l01In rfl rfl ?_
  conv => whnf
  all_goals (repeat' first
    | (refine StoreK.mk rfl ?_; conv => whnf)
    | exact join_same
    | exact (by assumption : (_ : Bool) = (_ : Bool))
    | (refine br_true (by assumption) ?_; conv => whnf)
    | (refine br_false (by assumption) ?_; conv => whnf)
    | (refine br_not ?_; conv => whnf)
    | (refine br_code ?_; conv => whnf)
    | (with_reducible refine br_and ?_; conv => whnf)
    | (with_reducible refine br_or ?_; conv => whnf)
    | (refine br_eq2 ?_; conv => whnf)
    | (refine draw_auto (by decide +kernel) ?_; conv => whnf)
    | (refine draw_asg (by decide +kernel) ?_; conv => whnf)
    | (refine draw_st (by decide +kernel) ?_; conv => whnf)
    | (refine draw_call (by decide +kernel) ?_; conv => whnf)
    | (refine enter_same (loop_n 12 ?_); conv => whnf)
    | (refine next_same ?_; conv => whnf)
    | (refine mapK_row (by assumption) ?_; conv => whnf)
    | (refine mapK_plain (Plain.of rfl) ?_; conv => whnf)
    | (refine mapK_lit ?_; conv => whnf)
    | (refine br_split (fun _ => ?_) (fun _ => ?_) <;> conv => whnf)
    | exact (rfl : (_ : Value) = _)
    | (simp only [*]; exact (rfl : (_ : Value) = _))
    | (simp [inF, *]; done))

theorem c_impl_isCoord {n : Int}  : Pure Tryz.prog n_impl_isCoord [ii n] (bb (isCoordF n)) := by
  refine pure_of good fn_impl_isCoord rfl rfl ?_
  conv => whnf
  all_goals (repeat' first
    | (refine StoreK.mk rfl ?_; conv => whnf)
    | exact join_same
    | exact (by assumption : (_ : Bool) = (_ : Bool))
    | (refine br_true (by assumption) ?_; conv => whnf)
    | (refine br_false (by assumption) ?_; conv => whnf)
    | (refine br_not ?_; conv => whnf)
    | (refine br_code ?_; conv => whnf)
    | (with_reducible refine br_and ?_; conv => whnf)
    | (with_reducible refine br_or ?_; conv => whnf)
    | (refine br_eq2 ?_; conv => whnf)
    | (refine c_impl_in.call ?_; conv => whnf)
    | (refine c_impl_in.quiet ?_; conv => whnf)
    | (refine draw_auto (by decide +kernel) ?_; conv => whnf)
    | (refine draw_asg (by decide +kernel) ?_; conv => whnf)
    | (refine draw_st (by decide +kernel) ?_; conv => whnf)
    | (refine draw_call (by decide +kernel) ?_; conv => whnf)
    | (refine enter_same (loop_n 12 ?_); conv => whnf)
    | (refine next_same ?_; conv => whnf)
    | (refine mapK_row (by assumption) ?_; conv => whnf)
    | (refine mapK_plain (Plain.of rfl) ?_; conv => whnf)
    | (refine mapK_lit ?_; conv => whnf)
    | (refine br_split (fun _ => ?_) (fun _ => ?_) <;> conv => whnf)
    | exact (rfl : (_ : Value) = _)
    | (simp only [*]; exact (rfl : (_ : Value) = _))
    | (simp [isCoordF, *]; done))

theorem c_spec_l01Fits {n : Int}  : Pure Tryz.prog n_spec_l01Fits [ii n] (bb (isCoordF n)) := by
  refine pure_of good fn_spec_l01Fits rfl rfl ?_
  conv => whnf
  all_goals (repeat' first
    | (refine StoreK.mk rfl ?_; conv => whnf)
    | exact join_same
    | exact (by assumption : (_ : Bool) = (_ : Bool))
    | (refine br_true (by assumption) ?_; conv => whnf)
    | (refine br_false (by assumption) ?_; conv => whnf)
    | (refine br_not ?_; conv => whnf)
    | (refine br_code ?_; conv => whnf)
    | (with_reducible refine br_and ?_; conv => whnf)
    | (with_reducible refine br_or ?_; conv => whnf)
    | (refine br_eq2 ?_; conv => whnf)
    | (refine c_spec_l01In.call ?_; conv => whnf)
    | (refine c_spec_l01In.quiet ?_; conv => whnf)
    | (refine draw_auto (by decide +kernel) ?_; conv => whnf)
    | (refine draw_asg (by decide +kernel) ?_; conv => whnf)
    | (refine draw_st (by decide +kernel) ?_; conv => whnf)
    | (refine draw_call (by decide +kernel) ?_; conv => whnf)
    | (refine enter_same (loop_n 12 ?_); conv => whnf)
    | (refine next_same ?_; conv => whnf)
    | (refine mapK_row (by assumption) ?_; conv => whnf)
    | (refine mapK_plain (Plain.of rfl) ?_; conv => whnf)
    | (refine mapK_lit ?_; conv => whnf)
    | (refine br_split (fun _ => ?_) (fun _ => ?_) <;> conv => whnf)
    | exact (rfl : (_ : Value) = _)
    | (simp only [*]; exact (rfl : (_ : Value) = _))
    | (simp [isCoordF, *]; done))

theorem c_impl_IsPoint {a b : Int}  : Pure Tryz.prog n_impl_IsPoint [pt a b] (bb (isPtF a b)) := by
  refine pure_of good fn_impl_IsPoint rfl rfl ?_
  conv => whnf
  all_goals (repeat' first
    | (refine StoreK.mk rfl ?_; conv => whnf)
    | exact join_same
    | exact (by assumption : (_ : Bool) = (_ : Bool))
    | (refine br_true (by assumption) ?_; conv => whnf)
    | (refine br_false (by assumption) ?_; conv => whnf)
    | (refine br_not ?_; conv => whnf)
    | (refine br_code ?_; conv => whnf)
    | (with_reducible refine br_and ?_; conv => whnf)
    | (with_reducible refine br_or ?_; conv => whnf)
    | (refine br_eq2 ?_; conv => whnf)
    | (refine c_impl_isCoord.call ?_; conv => whnf)
    | (refine c_impl_isCoord.quiet ?_; conv => whnf)
    | (refine draw_auto (by decide +kernel) ?_; conv => whnf)
    | (refine draw_asg (by decide +kernel) ?_; conv => whnf)
    | (refine draw_st (by decide +kernel) ?_; conv => whnf)
    | (refine draw_call (by decide +kernel) ?_; conv => whnf)
    | (refine enter_same (loop_n 12 ?_); conv => whnf)
    | (refine next_same ?_; conv => whnf)
    | (refine mapK_row (by assumption) ?_; conv => whnf)
    | (refine mapK_plain (Plain.of rfl) ?_; conv => whnf)
    | (refine mapK_lit ?_; conv => whnf)
    | (refine br_split (fun _ => ?_) (fun _ => ?_) <;> conv => whnf)
    | exact (rfl : (_ : Value) = _)
    | (simp only [*]; exact (rfl : (_ : Value) = _))
    | (simp [isPtF, *]; done))

theorem c_spec_l01Is {a b : Int}  : Pure Tryz.prog n_spec_l01Is [pt a b] (bb (isPtF a b)) := by
  refine pure_of good fn_spec_l01Is rfl rfl ?_
  conv => whnf
  all_goals (repeat' first
    | (refine StoreK.mk rfl ?_; conv => whnf)
    | exact join_same
    | exact (by assumption : (_ : Bool) = (_ : Bool))
    | (refine br_true (by assumption) ?_; conv => whnf)
    | (refine br_false (by assumption) ?_; conv => whnf)
    | (refine br_not ?_; conv => whnf)
    | (refine br_code ?_; conv => whnf)
    | (with_reducible refine br_and ?_; conv => whnf)
    | (with_reducible refine br_or ?_; conv => whnf)
    | (refine br_eq2 ?_; conv => whnf)
    | (refine c_spec_l01Fits.call ?_; conv => whnf)
    | (refine c_spec_l01Fits.quiet ?_; conv => whnf)
    | (refine draw_auto (by decide +kernel) ?_; conv => whnf)
    | (refine draw_asg (by decide +kernel) ?_; conv => whnf)
    | (refine draw_st (by decide +kernel) ?_; conv => whnf)
    | (refine draw_call (by decide +kernel) ?_; conv => whnf)
    | (refine enter_same (loop_n 12 ?_); conv => whnf)
    | (refine next_same ?_; conv => whnf)
    | (refine mapK_row (by assumption) ?_; conv => whnf)
    | (refine mapK_plain (Plain.of rfl) ?_; conv => whnf)
    | (refine mapK_lit ?_; conv => whnf)
    | (refine br_split (fun _ => ?_) (fun _ => ?_) <;> conv => whnf)
    | exact (rfl : (_ : Value) = _)
    | (simp only [*]; exact (rfl : (_ : Value) = _))
    | (simp [isPtF, *]; done))

theorem c_spec_IsPoint {a b : Int}  : Pure Tryz.prog n_spec_IsPoint [pt a b] (bb (isPtF a b)) := by
  refine pure_of good fn_spec_IsPoint rfl rfl ?_
  conv => whnf
  all_goals (repeat' first
    | (refine StoreK.mk rfl ?_; conv => whnf)
    | exact join_same
    | exact (by assumption : (_ : Bool) = (_ : Bool))
    | (refine br_true (by assumption) ?_; conv => whnf)
    | (refine br_false (by assumption) ?_; conv => whnf)
    | (refine br_not ?_; conv => whnf)
    | (refine br_code ?_; conv => whnf)
    | (with_reducible refine br_and ?_; conv => whnf)
    | (with_reducible refine br_or ?_; conv => whnf)
    | (refine br_eq2 ?_; conv => whnf)
    | (refine c_spec_l01Is.call ?_; conv => whnf)
    | (refine c_spec_l01Is.quiet ?_; conv => whnf)
    | (refine draw_auto (by decide +kernel) ?_; conv => whnf)
    | (refine draw_asg (by decide +kernel) ?_; conv => whnf)
    | (refine draw_st (by decide +kernel) ?_; conv => whnf)
    | (refine draw_call (by decide +kernel) ?_; conv => whnf)
    | (refine enter_same (loop_n 12 ?_); conv => whnf)
    | (refine next_same ?_; conv => whnf)
    | (refine mapK_row (by assumption) ?_; conv => whnf)
    | (refine mapK_plain (Plain.of rfl) ?_; conv => whnf)
    | (refine mapK_lit ?_; conv => whnf)
    | (refine br_split (fun _ => ?_) (fun _ => ?_) <;> conv => whnf)
    | exact (rfl : (_ : Value) = _)
    | (simp only [*]; exact (rfl : (_ : Value) = _))
    | (simp [isPtF, *]; done))

theorem c_impl_det {a b c d : Int}  : Pure Tryz.prog n_impl_det [pt a b, pt c d] (ii (detF a b c d)) := by
  refine pure_of good fn_impl_det rfl rfl ?_
  conv => whnf
  all_goals (repeat' first
    | (refine StoreK.mk rfl ?_; conv => whnf)
    | exact join_same
    | exact (by assumption : (_ : Bool) = (_ : Bool))
    | (refine br_true (by assumption) ?_; conv => whnf)
    | (refine br_false (by assumption) ?_; conv => whnf)
    | (refine br_not ?_; conv => whnf)
    | (refine br_code ?_; conv => whnf)
    | (with_reducible refine br_and ?_; conv => whnf)
    | (with_reducible refine br_or ?_; conv => whnf)
    | (refine br_eq2 ?_; conv => whnf)
    | (refine draw_auto (by decide +kernel) ?_; conv => whnf)
    | (refine draw_asg (by decide +kernel) ?_; conv => whnf)
    | (refine draw_st (by decide +kernel) ?_; conv => whnf)
    | (refine draw_call (by decide +kernel) ?_; conv => whnf)
    | (refine enter_same (loop_n 12 ?_); conv => whnf)
    | (refine next_same ?_; conv => whnf)
    | (refine mapK_row (by assumption) ?_; conv => whnf)
    | (refine mapK_plain (Plain.of rfl) ?_; conv => whnf)
    | (refine mapK_lit ?_; conv => whnf)
    | (refine br_split (fun _ => ?_) (fun _ => ?_) <;> conv => whnf)
    | exact (rfl : (_ : Value) = _)
    | (simp only [*]; exact (rfl : (_ : Value) = _))
    | (simp [*]; done))

theorem c_spec_l01Det {a b c d : Int}  : Pure Tryz.prog n_spec_l01Det [pt a b, pt c d] (ii (detF a b c d)) := by
  refine pure_of good fn_spec_l01Det rfl rfl ?_
  conv => whnf
  all_goals (repeat' first
    | (refine StoreK.mk rfl ?_; conv => whnf)
    | exact join_same
    | exact (by assumption : (_ : Bool) = (_ : Bool))
    | (refine br_true (by assumption) ?_; conv => whnf)
    | (refine br_false (by assumption) ?_; conv => whnf)
    | (refine br_not ?_; conv => whnf)
    | (refine br_code ?_; conv => whnf)
    | (with_reducible refine br_and ?_; conv => whnf)
    | (with_reducible refine br_or ?_; conv => whnf)
    | (refine br_eq2 ?_; conv => whnf)
    | (refine draw_auto (by decide +kernel) ?_; conv => whnf)
    | (refine draw_asg (by decide +kernel) ?_; conv => whnf)
    | (refine draw_st (by decide +kernel) ?_; conv => whnf)
    | (refine draw_call (by decide +kernel) ?_; conv => whnf)
    | (refine enter_same (loop_n 12 ?_); conv => whnf)
    | (refine next_same ?_; conv => whnf)
    | (refine mapK_row (by assumption) ?_; conv => whnf)
    | (refine mapK_plain (Plain.of rfl) ?_; conv => whnf)
    | (refine mapK_lit ?_; conv => whnf)
    | (refine br_split (fun _ => ?_) (fun _ => ?_) <;> conv => whnf)
    | exact (rfl : (_ : Value) = _)
    | (simp only [*]; exact (rfl : (_ : Value) = _))
    | (simp [*]; done))

theorem c_impl_Point_plus {a b c d k : Int}  : Pure Tryz.prog n_impl_Point_plus [pt a b, pt c d, ii k] (pt (plusF a k c) (plusF b k d)) := by
  refine pure_of good fn_impl_Point_plus rfl rfl ?_
  conv => whnf
  all_goals (repeat' first
    | (refine StoreK.mk rfl ?_; conv => whnf)
    | exact join_same
    | exact (by assumption : (_ : Bool) = (_ : Bool))
    | (refine br_true (by assumption) ?_; conv => whnf)
    | (refine br_false (by assumption) ?_; conv => whnf)
    | (refine br_not ?_; conv => whnf)
    | (refine br_code ?_; conv => whnf)
    | (with_reducible refine br_and ?_; conv => whnf)
    | (with_reducible refine br_or ?_; conv => whnf)
    | (refine br_eq2 ?_; conv => whnf)
    | (refine draw_auto (by decide +kernel) ?_; conv => whnf)
    | (refine draw_asg (by decide +kernel) ?_; conv => whnf)
    | (refine draw_st (by decide +kernel) ?_; conv => whnf)
    | (refine draw_call (by decide +kernel) ?_; conv => whnf)
    | (refine enter_same (loop_n 12 ?_); conv => whnf)
    | (refine next_same ?_; conv => whnf)
    | (refine mapK_row (by assumption) ?_; conv => whnf)
    | (refine mapK_plain (Plain.of rfl) ?_; conv => whnf)
    | (refine mapK_lit ?_; conv => whnf)
    | (refine br_split (fun _ => ?_) (fun _ => ?_) <;> conv => whnf)
    | exact (rfl : (_ : Value) = _)
    | (simp only [*]; exact (rfl : (_ : Value) = _))
    | (simp [*]; done))

theorem c_impl_points_1 {a b : Int}  : Pure Tryz.prog n_impl_points_1 [pt a b] (bb (!isPtF a b)) := by
  refine pure_of good fn_impl_points_1 rfl rfl ?_
  conv => whnf
  all_goals (repeat' first
    | (refine StoreK.mk rfl ?_; conv => whnf)
    | exact join_same
    | exact (by assumption : (_ : Bool) = (_ : Bool))
    | (refine br_true (by assumption) ?_; conv => whnf)
    | (refine br_false (by assumption) ?_; conv => whnf)
    | (refine br_not ?_; conv => whnf)
    | (refine br_code ?_; conv => whnf)
    | (with_reducible refine br_and ?_; conv => whnf)
    | (with_reducible refine br_or ?_; conv => whnf)
    | (refine br_eq2 ?_; conv => whnf)
    | (refine c_impl_IsPoint.call ?_; conv => whnf)
    | (refine c_impl_IsPoint.quiet ?_; conv => whnf)
    | (refine draw_auto (by decide +kernel) ?_; conv => whnf)
    | (refine draw_asg (by decide +kernel) ?_; conv => whnf)
    | (refine draw_st (by decide +kernel) ?_; conv => whnf)
    | (refine draw_call (by decide +kernel) ?_; conv => whnf)
    | (refine enter_same (loop_n 12 ?_); conv => whnf)
    | (refine next_same ?_; conv => whnf)
    | (refine mapK_row (by assumption) ?_; conv => whnf)
    | (refine mapK_plain (Plain.of rfl) ?_; conv => whnf)
    | (refine mapK_lit ?_; conv => whnf)
    | (refine br_split (fun _ => ?_) (fun _ => ?_) <;> conv => whnf)
    | exact (rfl : (_ : Value) = _)
    | (simp only [*]; exact (rfl : (_ : Value) = _))
    | (simp [*]; done))

theorem c_index_points_2 {a b c d : Int}  : CallR Tryz.prog n_slices_IndexFunc_Point [.slice (some ⟨0, 0, none⟩) 2 2, fnv n_impl_points_1] [[ii a, ii b, ii c, ii d]] (ii (idx2F (isPtF a b) (isPtF c d))) := by
  refine callR_of good fn_slices_IndexFunc_Point rfl rfl ?_
  conv => whnf
  all_goals (repeat' first
    | (refine StoreK.mk rfl ?_; conv => whnf)
    | exact join_same
    | exact (by assumption : (_ : Bool) = (_ : Bool))
    | (refine br_true (by assumption) ?_; conv => whnf)
    | (refine br_false (by assumption) ?_; conv => whnf)
    | (refine br_not ?_; conv => whnf)
    | (refine br_code ?_; conv => whnf)
    | (with_reducible refine br_and ?_; conv => whnf)
    | (with_reducible refine br_or ?_; conv => whnf)
    | (refine br_eq2 ?_; conv => whnf)
    | (refine c_impl_points_1.call ?_; conv => whnf)
    | (refine c_impl_points_1.quiet ?_; conv => whnf)
    | (refine draw_auto (by decide +kernel) ?_; conv => whnf)
    | (refine draw_asg (by decide +kernel) ?_; conv => whnf)
    | (refine draw_st (by decide +kernel) ?_; conv => whnf)
    | (refine draw_call (by decide +kernel) ?_; conv => whnf)
    | (refine enter_same (loop_n 12 ?_); conv => whnf)
    | (refine next_same ?_; conv => whnf)
    | (refine mapK_row (by assumption) ?_; conv => whnf)
    | (refine mapK_plain (Plain.of rfl) ?_; conv => whnf)
    | (refine mapK_lit ?_; conv => whnf)
    | (refine br_split (fun _ => ?_) (fun _ => ?_) <;> conv => whnf)
    | exact (rfl : (_ : Value) = _)
    | (simp only [*]; exact (rfl : (_ : Value) = _))
    | (simp [idx2F, *]; done))

theorem c_contains_points_2 {a b c d : Int}  : CallR Tryz.prog n_slices_ContainsFunc_Point [.slice (some ⟨0, 0, none⟩) 2 2, fnv n_impl_points_1] [[ii a, ii b, ii c, ii d]] (bb (!(isPtF a b && isPtF c d))) := by
  refine callR_of good fn_slices_ContainsFunc_Point rfl rfl ?_
  conv => whnf
  all_goals (repeat' first
    | (refine StoreK.mk rfl ?_; conv => whnf)
    | exact join_same
    | exact (by assumption : (_ : Bool) = (_ : Bool))
    | (refine br_true (by assumption) ?_; conv => whnf)
    | (refine br_false (by assumption) ?_; conv => whnf)
    | (refine br_not ?_; conv => whnf)
    | (refine br_code ?_; conv => whnf)
    | (with_reducible refine br_and ?_; conv => whnf)
    | (with_reducible refine br_or ?_; conv => whnf)
    | (refine br_eq2 ?_; conv => whnf)
    | (refine c_index_points_2.call1 rfl rfl ⟨_, rfl⟩ ?_; conv => whnf)
    | (refine c_index_points_2.quiet1 rfl rfl ⟨_, rfl⟩ ?_; conv => whnf)
    | (refine draw_auto (by decide +kernel) ?_; conv => whnf)
    | (refine draw_asg (by decide +kernel) ?_; conv => whnf)
    | (refine draw_st (by decide +kernel) ?_; conv => whnf)
    | (refine draw_call (by decide +kernel) ?_; conv => whnf)
    | (refine enter_same (loop_n 12 ?_); conv => whnf)
    | (refine next_same ?_; conv => whnf)
    | (refine mapK_row (by assumption) ?_; conv => whnf)
    | (refine mapK_plain (Plain.of rfl) ?_; conv => whnf)
    | (refine mapK_lit ?_; conv => whnf)
    | (refine br_split (fun _ => ?_) (fun _ => ?_) <;> conv => whnf)
    | exact (rfl : (_ : Value) = _)
    | exact congrArg Value.bool (idx2_ge _ _)
    | (simp only [*]; exact (rfl : (_ : Value) = _))
    | (simp [*]; done))

theorem c_points_2 {a b c d : Int}  : CallR Tryz.prog n_impl_points [.slice (some ⟨0, 0, none⟩) 2 2] [[ii a, ii b, ii c, ii d]] (bb (isPtF a b && isPtF c d)) := by
  refine callR_of good fn_impl_points rfl rfl ?_
  conv => whnf
  all_goals (repeat' first
    | (refine StoreK.mk rfl ?_; conv => whnf)
    | exact join_same
    | exact (by assumption : (_ : Bool) = (_ : Bool))
    | (refine br_true (by assumption) ?_; conv => whnf)
    | (refine br_false (by assumption) ?_; conv => whnf)
    | (refine br_not ?_; conv => whnf)
    | (refine br_code ?_; conv => whnf)
    | (with_reducible refine br_and ?_; conv => whnf)
    | (with_reducible refine br_or ?_; conv => whnf)
    | (refine br_eq2 ?_; conv => whnf)
    | (refine c_contains_points_2.call1 rfl rfl ⟨_, rfl⟩ ?_; conv => whnf)
    | (refine c_contains_points_2.quiet1 rfl rfl ⟨_, rfl⟩ ?_; conv => whnf)
    | (refine c_impl_points_1.call ?_; conv => whnf)
    | (refine c_impl_points_1.quiet ?_; conv => whnf)
    | (refine draw_auto (by decide +kernel) ?_; conv => whnf)
    | (refine draw_asg (by decide +kernel) ?_; conv => whnf)
    | (refine draw_st (by decide +kernel) ?_; conv => whnf)
    | (refine draw_call (by decide +kernel) ?_; conv => whnf)
    | (refine enter_same (loop_n 12 ?_); conv => whnf)
    | (refine next_same ?_; conv => whnf)
    | (refine mapK_row (by assumption) ?_; conv => whnf)
    | (refine mapK_plain (Plain.of rfl) ?_; conv => whnf)
    | (refine mapK_lit ?_; conv => whnf)
    | (refine br_split (fun _ => ?_) (fun _ => ?_) <;> conv => whnf)
    | exact (rfl : (_ : Value) = _)
    | (simp only [*]; exact (rfl : (_ : Value) = _))
    | (simp [*]; done))

theorem c_code_2 {a b c d : Int}  : CallR Tryz.prog n_spec_l01Code [.slice (some ⟨0, 0, none⟩) 2 2] [[ii a, ii b, ii c, ii d]] (ii (codeF (isPtF a b && isPtF c d))) := by
  refine callR_of good fn_spec_l01Code rfl rfl ?_
  conv => whnf
  all_goals (repeat' first
    | (refine StoreK.mk rfl ?_; conv => whnf)
    | exact join_same
    | exact (by assumption : (_ : Bool) = (_ : Bool))
    | (refine br_true (by assumption) ?_; conv => whnf)
    | (refine br_false (by assumption) ?_; conv => whnf)
    | (refine br_not ?_; conv => whnf)
    | (refine br_code ?_; conv => whnf)
    | (with_reducible refine br_and ?_; conv => whnf)
    | (with_reducible refine br_or ?_; conv => whnf)
    | (refine br_eq2 ?_; conv => whnf)
    | (refine c_spec_l01Is.call ?_; conv => whnf)
    | (refine c_spec_l01Is.quiet ?_; conv => whnf)
    | (refine draw_auto (by decide +kernel) ?_; conv => whnf)
    | (refine draw_asg (by decide +kernel) ?_; conv => whnf)
    | (refine draw_st (by decide +kernel) ?_; conv => whnf)
    | (refine draw_call (by decide +kernel) ?_; conv => whnf)
    | (refine enter_same (loop_n 12 ?_); conv => whnf)
    | (refine next_same ?_; conv => whnf)
    | (refine mapK_row (by assumption) ?_; conv => whnf)
    | (refine mapK_plain (Plain.of rfl) ?_; conv => whnf)
    | (refine mapK_lit ?_; conv => whnf)
    | (refine br_split (fun _ => ?_) (fun _ => ?_) <;> conv => whnf)
    | exact (rfl : (_ : Value) = _)
    | (simp only [*]; exact (rfl : (_ : Value) = _))
    | (simp [codeF, *]; done))

theorem c_index_points_3 {a b c d e f : Int}  : CallR Tryz.prog n_slices_IndexFunc_Point [.slice (some ⟨0, 0, none⟩) 3 3, fnv n_impl_points_1] [[ii a, ii b, ii c, ii d, ii e, ii f]] (ii (idx3F (isPtF a b) (isPtF c d) (isPtF e f))) := by
  refine callR_of good fn_slices_IndexFunc_Point rfl rfl ?_
  conv => whnf
  all_goals (repeat' first
    | (refine StoreK.mk rfl ?_; conv => whnf)
    | exact join_same
    | exact (by assumption : (_ : Bool) = (_ : Bool))
    | (refine br_true (by assumption) ?_; conv => whnf)
    | (refine br_false (by assumption) ?_; conv => whnf)
    | (refine br_not ?_; conv => whnf)
    | (refine br_code ?_; conv => whnf)
    | (with_reducible refine br_and ?_; conv => whnf)
    | (with_reducible refine br_or ?_; conv => whnf)
    | (refine br_eq2 ?_; conv => whnf)
    | (refine c_impl_points_1.call ?_; conv => whnf)
    | (refine c_impl_points_1.quiet ?_; conv => whnf)
    | (refine draw_auto (by decide +kernel) ?_; conv => whnf)
    | (refine draw_asg (by decide +kernel) ?_; conv => whnf)
    | (refine draw_st (by decide +kernel) ?_; conv => whnf)
    | (refine draw_call (by decide +kernel) ?_; conv => whnf)
    | (refine enter_same (loop_n 12 ?_); conv => whnf)
    | (refine next_same ?_; conv => whnf)
    | (refine mapK_row (by assumption) ?_; conv => whnf)
    | (refine mapK_plain (Plain.of rfl) ?_; conv => whnf)
    | (refine mapK_lit ?_; conv => whnf)
    | (refine br_split (fun _ => ?_) (fun _ => ?_) <;> conv => whnf)
    | exact (rfl : (_ : Value) = _)
    | (simp only [*]; exact (rfl : (_ : Value) = _))
    | (simp [idx3F, *]; done))

theorem c_contains_points_3 {a b c d e f : Int}  : CallR Tryz.prog n_slices_ContainsFunc_Point [.slice (some ⟨0, 0, none⟩) 3 3, fnv n_impl_points_1] [[ii a, ii b, ii c, ii d, ii e, ii f]] (bb (!(isPtF a b && isPtF c d && isPtF e f))) := by
  refine callR_of good fn_slices_ContainsFunc_Point rfl rfl ?_
  conv => whnf
  all_goals (repeat' first
    | (refine StoreK.mk rfl ?_; conv => whnf)
    | exact join_same
    | exact (by assumption : (_ : Bool) = (_ : Bool))
    | (refine br_true (by assumption) ?_; conv => whnf)
    | (refine br_false (by assumption) ?_; conv => whnf)
    | (refine br_not ?_; conv => whnf)
    | (refine br_code ?_; conv => whnf)
    | (with_reducible refine br_and ?_; conv => whnf)
    | (with_reducible refine br_or ?_; conv => whnf)
    | (refine br_eq2 ?_; conv => whnf)
    | (refine c_index_points_2.call1 rfl rfl ⟨_, rfl⟩ ?_; conv => whnf)
    | (refine c_index_points_2.quiet1 rfl rfl ⟨_, rfl⟩ ?_; conv => whnf)
    | (refine c_index_points_3.call1 rfl rfl ⟨_, rfl⟩ ?_; conv => whnf)
    | (refine c_index_points_3.quiet1 rfl rfl ⟨_, rfl⟩ ?_; conv => whnf)
    | (refine draw_auto (by decide +kernel) ?_; conv => whnf)
    | (refine draw_asg (by decide +kernel) ?_; conv => whnf)
    | (refine draw_st (by decide +kernel) ?_; conv => whnf)
    | (refine draw_call (by decide +kernel) ?_; conv => whnf)
    | (refine enter_same (loop_n 12 ?_); conv => whnf)
    | (refine next_same ?_; conv => whnf)
    | (refine mapK_row (by assumption) ?_; conv => whnf)
    | (refine mapK_plain (Plain.of rfl) ?_; conv => whnf)
    | (refine mapK_lit ?_; conv => whnf)
    | (refine br_split (fun _ => ?_) (fun _ => ?_) <;> conv => whnf)
    | exact (rfl : (_ : Value) = _)
    | exact congrArg Value.bool (idx3_ge _ _ _)
    | (simp only [*]; exact (rfl : (_ : Value) = _))
    | (simp [*]; done))

theorem c_points_3 {a b c d e f : Int}  : CallR Tryz.prog n_impl_points [.slice (some ⟨0, 0, none⟩) 3 3] [[ii a, ii b, ii c, ii d, ii e, ii f]] (bb (isPtF a b && isPtF c d && isPtF e f)) := by
  refine callR_of good fn_impl_points rfl rfl ?_
  conv => whnf
  all_goals (repeat' first
    | (refine StoreK.mk rfl ?_; conv => whnf)
    | exact join_same
    | exact (by assumption : (_ : Bool) = (_ : Bool))
    | (refine br_true (by assumption) ?_; conv => whnf)
    | (refine br_false (by assumption) ?_; conv => whnf)
    | (refine br_not ?_; conv => whnf)
    | (refine br_code ?_; conv => whnf)
    | (with_reducible refine br_and ?_; conv => whnf)
    | (with_reducible refine br_or ?_; conv => whnf)
    | (refine br_eq2 ?_; conv => whnf)
    | (refine c_contains_points_2.call1 rfl rfl ⟨_, rfl⟩ ?_; conv => whnf)
    | (refine c_contains_points_2.quiet1 rfl rfl ⟨_, rfl⟩ ?_; conv => whnf)
    | (refine c_contains_points_3.call1 rfl rfl ⟨_, rfl⟩ ?_; conv => whnf)
    | (refine c_contains_points_3.quiet1 rfl rfl ⟨_, rfl⟩ ?_; conv => whnf)
    | (refine c_impl_points_1.call ?_; conv => whnf)
    | (refine c_impl_points_1.quiet ?_; conv => whnf)
    | (refine draw_auto (by decide +kernel) ?_; conv => whnf)
    | (refine draw_asg (by decide +kernel) ?_; conv => whnf)
    | (refine draw_st (by decide +kernel) ?_; conv => whnf)
    | (refine draw_call (by decide +kernel) ?_; conv => whnf)
    | (refine enter_same (loop_n 12 ?_); conv => whnf)
    | (refine next_same ?_; conv => whnf)
    | (refine mapK_row (by assumption) ?_; conv => whnf)
    | (refine mapK_plain (Plain.of rfl) ?_; conv => whnf)
    | (refine mapK_lit ?_; conv => whnf)
    | (refine br_split (fun _ => ?_) (fun _ => ?_) <;> conv => whnf)
    | exact (rfl : (_ : Value) = _)
    | (simp only [*]; exact (rfl : (_ : Value) = _))
    | (simp [*]; done))

theorem c_code_3 {a b c d e f : Int}  : CallR Tryz.prog n_spec_l01Code [.slice (some ⟨0, 0, none⟩) 3 3] [[ii a, ii b, ii c, ii d, ii e, ii f]] (ii (codeF (isPtF a b && isPtF c d && isPtF e f))) := by
  refine callR_of good fn_spec_l01Code rfl rfl ?_
  conv => whnf
  all_goals (repeat' first
    | (refine StoreK.mk rfl ?_; conv => whnf)
    | exact join_same
    | exact (by assumption : (_ : Bool) = (_ : Bool))
    | (refine br_true (by assumption) ?_; conv => whnf)
    | (refine br_false (by assumption) ?_; conv => whnf)
    | (refine br_not ?_; conv => whnf)
    | (refine br_code ?_; conv => whnf)
    | (with_reducible refine br_and ?_; conv => whnf)
    | (with_reducible refine br_or ?_; conv => whnf)
    | (refine br_eq2 ?_; conv => whnf)
    | (refine c_spec_l01Is.call ?_; conv => whnf)
    | (refine c_spec_l01Is.quiet ?_; conv => whnf)
    | (refine draw_auto (by decide +kernel) ?_; conv => whnf)
    | (refine draw_asg (by decide +kernel) ?_; conv => whnf)
    | (refine draw_st (by decide +kernel) ?_; conv => whnf)
    | (refine draw_call (by decide +kernel) ?_; conv => whnf)
    | (refine enter_same (loop_n 12 ?_); conv => whnf)
    | (refine next_same ?_; conv => whnf)
    | (refine mapK_row (by assumption) ?_; conv => whnf)
    | (refine mapK_plain (Plain.of rfl) ?_; conv => whnf)
    | (refine mapK_lit ?_; conv => whnf)
    | (refine br_split (fun _ => ?_) (fun _ => ?_) <;> conv => whnf)
    | exact (rfl : (_ : Value) = _)
    | (simp only [*]; exact (rfl : (_ : Value) = _))
    | (simp [codeF, *]; done))

end Go.Proofs.YtlkbfpklhncfbaaGreatDoor
end

section
/-
  Contracts of functions of the program (printed by a program of this work; Lean checks each).
  Conditions: as each contract states.
-/
namespace Go.Proofs.YtlkbfpklhncfbaaGreatDoor
open Go.Ev Go.RowKit
set_option maxRecDepth 100000
set_option linter.unusedVariables false
set_option linter.unusedSimpArgs false



end Go.Proofs.YtlkbfpklhncfbaaGreatDoor
end

section
/-
  Rows of whole numbers and of points; what is read of them and written into them.
  Conditions: none.
-/
set_option linter.unusedVariables false
set_option linter.unusedSimpArgs false
namespace Go.Ev
open Go.RowKit

abbrev iv (a : Int) : Value := .int .i64 a
def il (xs : List Int) : List Value := xs.map iv
def pl (ps : List (Int × Int)) : List Value := ps.flatMap fun p => [iv p.1, iv p.2]

theorem il_nil : il [] = [] := rfl
theorem il_app (xs ys : List Int) : il (xs ++ ys) = il xs ++ il ys := by simp [il]
theorem il_snoc (xs : List Int) (y : Int) : il (xs ++ [y]) = il xs ++ [iv y] := by simp [il]
theorem il_len (xs : List Int) : (il xs).length = xs.length := by simp [il]
theorem il_plain (xs : List Int) : Plain (il xs) := Plain.ints xs
theorem pl_nil : pl [] = [] := rfl
theorem pl_cons (p : Int × Int) (ps : List (Int × Int)) : pl (p :: ps) = iv p.1 :: iv p.2 :: pl ps := rfl
theorem pl_app (ps qs : List (Int × Int)) : pl (ps ++ qs) = pl ps ++ pl qs := by simp [pl]
theorem pl_snoc (ps : List (Int × Int)) (q : Int × Int) : pl (ps ++ [q]) = pl ps ++ [iv q.1, iv q.2] := by simp [pl]
theorem pl_len : ∀ (ps : List (Int × Int)), (pl ps).length = ps.length * 2
  | [] => rfl
  | p :: ps => by rw [pl_cons]; simp only [List.length_cons, pl_len ps]; omega
theorem pl_plain : ∀ (ps : List (Int × Int)), Plain (pl ps)
  | [], v, hv => by cases hv
  | p :: ps, v, hv => by
    rw [pl_cons] at hv
    rcases List.mem_cons.1 hv with rfl | hv
    · rfl
    · rcases List.mem_cons.1 hv with rfl | hv
      · rfl
      · exact pl_plain ps v hv

theorem Row.empty {es : Nat} : Row [] [] 0 0 es := ⟨by simp, by simp, Plain.nil, Plain.nil⟩
theorem Row.lit {L : List Value} {n es : Nat} (h : L.length = n * es) (hp : allL plain0 L = true) : Row L [] n n es := ⟨h, by simpa using h, Plain.of hp, Plain.nil⟩
theorem row_il {xs : List Int} {n c : Nat} {sp : List Value} (h : Row (il xs) sp n c 1) : xs.length = n := by have := h.len; rw [il_len] at this; omega
theorem row_pl {ps : List (Int × Int)} {n c : Nat} {sp : List Value} (h : Row (pl ps) sp n c 2) : ps.length = n := by have := h.len; rw [pl_len] at this; omega

theorem row_same {L sp sq : List Value} {n n2 c c2 es : Nat} (h1 : Row L sp n c es) (h2 : Row L sq n2 c2 es) (he : 0 < es) : n = n2 := by
  have := h1.len; have := h2.len
  exact Nat.eq_of_mul_eq_mul_right he (by omega)

/-! ### Reading -/

theorem force_eq {l l' : List Value} {k : List Value → Prop} (h : l = l') (hk : forceL l' k) : forceL l k := by rw [h]; exact hk

theorem pl_at : ∀ (ps : List (Int × Int)) (i : Nat) (sp : List Value), i < ps.length → List.drop (i * 2) (pl ps ++ sp) = iv (ps.getD i (0, 0)).1 :: iv (ps.getD i (0, 0)).2 :: (pl (ps.drop (i + 1)) ++ sp)
  | [], i, sp, h => by simp at h
  | p :: ps, 0, sp, h => by simp [pl_cons, List.getD]
  | p :: ps, i + 1, sp, h => by
    have := pl_at ps i sp (by simpa using h)
    rw [show (i + 1) * 2 = i * 2 + 2 by omega, pl_cons]
    simpa [List.getD] using this

/-- The i-th point. -/
theorem take_pt {ps : List (Int × Int)} {sp : List Value} {off i : Nat} (ho : off = i * 2) (hi : i < ps.length) :
    List.take 2 (List.drop off (pl ps ++ sp)) = [iv (ps.getD i (0, 0)).1, iv (ps.getD i (0, 0)).2] := by
  subst ho
  rw [pl_at ps i sp hi]
  rfl
theorem take_pt0 {ps : List (Int × Int)} {sp : List Value} {off i : Nat} (ho : off = i * 2) (hi : i < ps.length) :
    List.take 1 (List.drop off (pl ps ++ sp)) = [iv (ps.getD i (0, 0)).1] := by
  subst ho
  rw [pl_at ps i sp hi]
  rfl
theorem take_pt1 {ps : List (Int × Int)} {sp : List Value} {off i : Nat} (ho : off = i * 2 + 1) (hi : i < ps.length) :
    List.take 1 (List.drop off (pl ps ++ sp)) = [iv (ps.getD i (0, 0)).2] := by
  subst ho
  rw [show i * 2 + 1 = 1 + i * 2 by omega, ← List.drop_drop, List.drop_drop, Nat.add_comm, ← List.drop_drop, pl_at ps i sp hi]
  rfl
theorem take_il {xs : List Int} {sp : List Value} {off i : Nat} (ho : off = i) (hi : i < xs.length) :
    List.take 1 (List.drop off (il xs ++ sp)) = [iv (xs.getD i 0)] := by
  subst ho
  have h1 : off < (il xs ++ sp).length := by rw [List.length_append, il_len]; omega
  rw [List.drop_eq_getElem_cons h1]
  have : (il xs ++ sp)[off] = iv (xs.getD off 0) := by
    rw [List.getElem_append_left (by rw [il_len]; exact hi)]
    simp [il, List.getD, hi]
  rw [this]
  rfl

/-! ### Numbers of places -/

theorem w64_nat {n : Int} (h1 : 0 ≤ n) (h2 : n ≤ 9223372036854775807) : w64 n = n := w64_in (by omega) h2
theorem off_at {i : Int} {es : Nat} : 0 + i.toNat * es = i.toNat * es := Nat.zero_add _

/-- The guard of a place. -/
theorem br_in {i : Int} {n : Nat} {A B : Prop} (h1 : 0 ≤ i) (h2 : i < (n : Int)) (h : A) : brK (decide (0 ≤ i ∧ i < (n : Int))) A B := br_true (decide_eq_true ⟨h1, h2⟩) h

theorem idx_next {i : Int} {n : Nat} (h : 0 ≤ i ∧ i ≤ (n : Int)) (hc : decide (i < (n : Int)) = true) (hn : n ≤ 4611686018427387904) : 0 ≤ w64 (i + 1) ∧ w64 (i + 1) ≤ (n : Int) := by
  have := of_decide_eq_true hc
  rw [w64_in (by omega) (by omega)]; omega
theorem idx_mu {i : Int} {n : Nat} (h : 0 ≤ i ∧ i ≤ (n : Int)) (hc : decide (i < (n : Int)) = true) (hn : n ≤ 4611686018427387904) : ((n : Int) - w64 (i + 1)).toNat < ((n : Int) - i).toNat := by
  have := of_decide_eq_true hc
  rw [w64_in (by omega) (by omega)]; omega

/-! ### Marks -/

def marksI (k : Int) (m : Nat) : List Int := (List.range m).map fun (j : Nat) => k + (j : Int)
def marks (k : Int) (m : Nat) : List Value := il (marksI k m)
theorem marksI_len (k : Int) (m : Nat) : (marksI k m).length = m := by simp [marksI]
theorem marks_len (k : Int) (m : Nat) : (marks k m).length = m := by simp [marks, il_len, marksI_len]
theorem marks_succ (k : Int) (m : Nat) : marks k (m + 1) = marks k m ++ [iv (k + m)] := by simp [marks, marksI, List.range_succ, il]
theorem marks_plain (k : Int) (m : Nat) : Plain (marks k m) := il_plain _
theorem marksI_at {k : Int} {m i : Nat} (h : i < m) : (marksI k m).getD i 0 = k + i := by simp [marksI, List.getD, h]

theorem take_marks {k : Int} {m off : Nat} {sp : List Value} (h : off < m) : List.take 1 (List.drop off (marks k m ++ sp)) = [iv (k + off)] := by
  unfold marks
  rw [take_il rfl (by rw [marksI_len]; exact h), marksI_at h]

theorem br_store1 {off s : Nat} {cs : List Value} {v : Value} {A : Prop} (h1 : s = 1) (h : off + 1 ≤ cs.length) (hA : A) : StoreK (Nat.beq [v].length s && Nat.ble (off + [v].length) cs.length) A := by
  refine ⟨?_, hA⟩
  subst h1
  simp only [List.length_singleton, Bool.and_eq_true]
  exact ⟨rfl, Nat.ble_eq_true_of_le h⟩
theorem force_set {off : Nat} {cs : List Value} {v : Value} {k : List Value → Prop} (h : off < cs.length) (hk : k (cs.set off v)) : forceL (splice cs off [v]) k := by
  rw [forceL_eq]
  have : splice cs off [v] = cs.set off v := by
    rw [← splice_cons h]; simp [splice]
  rw [this]
  exact hk

theorem take_set {C : List Value} {m o : Nat} {v : Value} (ho : o = m) (hm : m < C.length) : List.take (m + 1) (C.set o v) = List.take m C ++ [v] := by
  subst ho
  apply List.ext_getElem?
  intro j
  simp only [List.getElem?_take, List.getElem?_set, List.getElem?_append, List.length_take]
  grind
theorem mark_set {C : List Value} {k : Int} {m o : Nat} {v : Value} (h : List.take m C = marks k m) (ho : o = m) (hm : m < C.length) (hv : v = iv (k + m)) : List.take (m + 1) (C.set o v) = marks k (m + 1) := by
  rw [take_set ho hm, h, marks_succ, hv]
theorem Plain.set {C : List Value} (h : Plain C) {v : Value} (hv : plain0 v = true) (o : Nat) : Plain (C.set o v) := fun u hu => by
  rcases List.mem_or_eq_of_mem_set hu with hu | rfl
  · exact h u hu
  · exact hv

/-- The state of a loop that marks: i of n elements of es cells are marked, from k on. -/
structure MarkI (k : Int) (n c es : Nat) (i q : Int) (C : List Value) : Prop where
  lo : 0 ≤ i
  hi : i ≤ (n : Int)
  q : q = k + es * i
  len : C.length = c * es
  pl : Plain C
  mrk : List.take (es * i.toNat) C = marks k (es * i.toNat)

theorem MarkI.start {L sp : List Value} {k : Int} {n c es : Nat} (h : Row L sp n c es) : MarkI k n c es 0 k (L ++ sp) :=
  ⟨Int.le_refl _, by omega, by simp, by rw [List.length_append]; exact h.cap, h.all, by simp [marks, marksI, il]⟩
theorem MarkI.next1 {k : Int} {n c : Nat} {i q : Int} {C : List Value} {o : Nat} (h : MarkI k n c 1 i q C) (hnc : n ≤ c) (hi : i < (n : Int)) (hn : n ≤ 1000000000) (hk : 0 ≤ k ∧ k ≤ 1000000000) (ho : o = i.toNat) :
    MarkI k n c 1 (w64 (i + 1)) (w64 (q + 1)) (C.set o (iv q)) := by
  have h1 := h.lo; have h2 := h.q; have h3 := h.len; have h4 := h.mrk
  have e1 : w64 (i + 1) = i + 1 := w64_in (by omega) (by omega)
  have e2 : w64 (q + 1) = q + 1 := w64_in (by omega) (by omega)
  rw [e1, e2]
  refine ⟨by omega, by omega, by omega, by rw [List.length_set]; exact h3, h.pl.set rfl _, ?_⟩
  have e3 : 1 * (i + 1).toNat = 1 * i.toNat + 1 := by omega
  rw [e3]
  exact mark_set h4 (by omega) (by omega) (by rw [h2]; congr 1; omega)
theorem MarkI.next2 {k : Int} {n c : Nat} {i q q2 : Int} {C : List Value} {o o2 : Nat} (h : MarkI k n c 2 i q C) (hnc : n ≤ c) (hi : i < (n : Int)) (hn : n ≤ 1000000000) (hk : 0 ≤ k ∧ k ≤ 1000000000) (ho : o = i.toNat * 2) (ho2 : o2 = i.toNat * 2 + 1) (hq : q2 = w64 (q + 1)) :
    MarkI k n c 2 (w64 (i + 1)) (w64 (q2 + 1)) ((C.set o (iv q)).set o2 (iv q2)) := by
  have h1 := h.lo; have h2 := h.q; have h3 := h.len; have h4 := h.mrk
  have e1 : w64 (i + 1) = i + 1 := w64_in (by omega) (by omega)
  have e2 : w64 (q + 1) = q + 1 := w64_in (by omega) (by omega)
  subst hq
  rw [e1, e2, w64_in (by omega) (by omega)]
  refine ⟨by omega, by omega, by omega, by rw [List.length_set, List.length_set]; exact h3, (h.pl.set rfl _).set rfl _, ?_⟩
  have e3 : 2 * (i + 1).toNat = 2 * i.toNat + 1 + 1 := by omega
  rw [e3]
  refine mark_set (mark_set h4 (by omega) (by omega) (by rw [h2]; congr 1; omega)) (by omega) (by rw [List.length_set]; omega) (by rw [h2]; congr 1; omega)
theorem MarkI.fin {k : Int} {n c es : Nat} {i q : Int} {C : List Value} (h : MarkI k n c es i q C) (hi : ¬ i < (n : Int)) : q = k + es * n ∧ C = marks k (n * es) ++ C.drop (n * es) ∧ Plain (C.drop (n * es)) ∧ (n ≤ c → Row (marks k (n * es)) (C.drop (n * es)) n c es) := by
  have h1 := h.lo; have h2 := h.hi; have h3 := h.q; have h4 := h.mrk; have h5 := h.len
  have hin : i = n := by omega
  subst hin
  simp only [Int.toNat_natCast] at h4
  rw [Nat.mul_comm es n] at h4
  refine ⟨h3, by rw [← h4, List.take_append_drop], h.pl.drop _, fun hnc => ⟨by rw [marks_len], ?_, marks_plain _ _, h.pl.drop _⟩⟩
  have := Nat.mul_le_mul_right es hnc
  rw [marks_len, List.length_drop, h5]
  omega

theorem held_next2 {k i q : Int} {n : Nat} (h : 0 ≤ i ∧ i ≤ (n : Int) ∧ q = k + 2 * i) (hi : i < (n : Int)) (hn : n ≤ 1000000000) (hk : 0 ≤ k ∧ k ≤ 1000000000) :
    0 ≤ w64 (i + 1) ∧ w64 (i + 1) ≤ (n : Int) ∧ w64 (w64 (q + 1) + 1) = k + 2 * w64 (i + 1) := by
  rw [w64_in (n := i + 1) (by omega) (by omega), w64_in (n := q + 1) (by omega) (by omega), w64_in (by omega) (by omega)]; omega
theorem held_next1 {k i q : Int} {n : Nat} (h : 0 ≤ i ∧ i ≤ (n : Int) ∧ q = k + 1 * i) (hi : i < (n : Int)) (hn : n ≤ 1000000000) (hk : 0 ≤ k ∧ k ≤ 1000000000) :
    0 ≤ w64 (i + 1) ∧ w64 (i + 1) ≤ (n : Int) ∧ w64 (q + 1) = k + 1 * w64 (i + 1) := by
  rw [w64_in (n := i + 1) (by omega) (by omega), w64_in (n := q + 1) (by omega) (by omega)]; omega
theorem held_fin {k i q e : Int} {n : Nat} (h : 0 ≤ i ∧ i ≤ (n : Int) ∧ q = k + e * i) (hi : ¬ i < (n : Int)) : q = k + e * n := by
  have : i = n := by omega
  rw [h.2.2, this]

end Go.Ev
end

section
/-
  Plain arithmetic: quotients rounded down, rests, the steps of Euclid with their factors, mates of points.
  Conditions: none.
-/
set_option linter.unusedVariables false
set_option linter.unusedSimpArgs false
namespace Go.Ev

def floorF (a b : Int) : Int := selF (!decide (a.tmod b = 0) && !decide (decide (a < 0) = decide (b < 0))) (w64 (w64 (a.tdiv b) - 1)) (w64 (a.tdiv b))
def modF (a b : Int) : Int := w64 (a - w64 (b * floorF a b))
def restF (n x : Int) : Int := (w64 (x.tmod n + n)).tmod n

theorem tdiv_pos {a b : Int} (ha : 0 ≤ a) : a.tdiv b = a / b := Int.tdiv_eq_ediv_of_nonneg ha
theorem tmod_pos {a b : Int} (ha : 0 ≤ a) : a.tmod b = a % b := Int.tmod_eq_emod_of_nonneg ha
theorem tdiv_neg' {a b : Int} (ha : a < 0) : a.tdiv b = -((-a) / b) := by
  have : (-(-a)).tdiv b = -((-a).tdiv b) := Int.neg_tdiv ..
  rw [Int.neg_neg] at this
  rw [this, tdiv_pos (by omega)]
theorem tmod_neg' {a b : Int} (ha : a < 0) : a.tmod b = -((-a) % b) := by
  have : (-(-a)).tmod b = -((-a).tmod b) := Int.neg_tmod ..
  rw [Int.neg_neg] at this
  rw [this, tmod_pos (by omega)]

theorem ediv_bounds {a b : Int} (hb : 0 < b) : b * (a / b) ≤ a ∧ a < b * (a / b) + b := by
  have h1 := Int.mul_ediv_add_emod a b
  have h2 := Int.emod_nonneg a (show b ≠ 0 by omega)
  have h3 := Int.emod_lt_of_pos a hb
  omega
theorem ediv_uniq {a b q : Int} (hb : 0 < b) (h1 : b * q ≤ a) (h2 : a < b * q + b) : a / b = q := by
  have h3 := ediv_bounds (a := a) hb
  have h4 : ¬ a / b < q := fun h => by
    have : b * (a / b + 1) ≤ b * q := Int.mul_le_mul_of_nonneg_left (by omega) (by omega)
    rw [Int.mul_add] at this
    omega
  have h5 : ¬ q < a / b := fun h => by
    have : b * (q + 1) ≤ b * (a / b) := Int.mul_le_mul_of_nonneg_left (by omega) (by omega)
    rw [Int.mul_add] at this
    omega
  omega
theorem ediv_abs {a b m : Int} (hb : 0 < b) (h1 : -m ≤ a) (h2 : a ≤ m) : -m ≤ a / b ∧ a / b ≤ m := by
  have h3 := ediv_bounds (a := a) hb
  constructor
  · by_cases ha : 0 ≤ a
    · have := Int.ediv_nonneg ha (show 0 ≤ b by omega)
      omega
    · have : a / b ≥ a := by
        have h4 : ¬ a / b < a := fun h => by
          have : b * (a / b + 1) ≤ 1 * (a / b + 1) := by
            have := Int.mul_le_mul_of_nonneg_right (show 1 ≤ b by omega) (show 0 ≤ -(a / b + 1) by omega)
            rw [Int.mul_neg, Int.mul_neg] at this
            omega
          rw [Int.mul_add] at this
          omega
        omega
      omega
  · by_cases ha : 0 ≤ a
    · have : a / b ≤ a := Int.ediv_le_self _ ha
      omega
    · have : a / b < 0 := Int.ediv_neg_of_neg_of_pos (by omega) hb
      omega

theorem floorF_eq {a b : Int} (hb : 0 < b) (h1 : -4611686018427387904 ≤ a) (h2 : a ≤ 4611686018427387904) : floorF a b = a / b := by
  unfold floorF
  have hb0 : decide (b < 0) = false := decide_eq_false (by omega)
  by_cases ha : 0 ≤ a
  · have ha0 : decide (a < 0) = false := decide_eq_false (by omega)
    have hq := ediv_abs hb h1 h2
    rw [hb0, ha0, tdiv_pos ha, w64_in (n := a / b) (by omega) (by omega)]
    simp [selF]
  · have ha0 : decide (a < 0) = true := decide_eq_true (by omega)
    have hq := ediv_abs (a := -a) hb (by omega : -4611686018427387904 ≤ -a) (by omega)
    rw [hb0, ha0, tdiv_neg' (by omega), tmod_neg' (by omega), w64_in (n := -((-a) / b)) (by omega) (by omega)]
    have h3 := ediv_bounds (a := -a) hb
    have h4 := Int.mul_ediv_add_emod (-a) b
    by_cases hm : (-a) % b = 0
    · have : decide (-((-a) % b) = 0) = true := decide_eq_true (by omega)
      rw [this]
      simp only [selF, Bool.not_true, Bool.false_and]
      refine (ediv_uniq hb ?_ ?_).symm
      · rw [Int.mul_neg]; omega
      · rw [Int.mul_neg]; omega
    · have : decide (-((-a) % b) = 0) = false := decide_eq_false (by omega)
      rw [this]
      simp only [selF, Bool.not_false, Bool.true_and, Bool.true_eq_false, decide_false]
      rw [w64_in (by omega) (by omega)]
      have h5 := Int.emod_nonneg (-a) (show b ≠ 0 by omega)
      have h6 := Int.emod_lt_of_pos (-a) hb
      refine (ediv_uniq hb ?_ ?_).symm
      · rw [Int.mul_sub, Int.mul_neg]; omega
      · rw [Int.mul_sub, Int.mul_neg]; omega

theorem modF_eq {a b : Int} (hb : 0 < b) (hb2 : b ≤ 1152921504606846976) (h1 : -4611686018427387904 ≤ a) (h2 : a ≤ 4611686018427387904) : modF a b = a % b := by
  unfold modF
  rw [floorF_eq hb h1 h2]
  have h3 := Int.mul_ediv_add_emod a b
  have h4 := Int.emod_nonneg a (show b ≠ 0 by omega)
  have h5 := Int.emod_lt_of_pos a hb
  rw [w64_in (n := b * (a / b)) (by omega) (by omega), w64_in (by omega) (by omega)]
  omega

theorem emod_of {a b r : Int} (hb : 0 < b) (q : Int) (h : a = b * q + r) (h1 : 0 ≤ r) (h2 : r < b) : a % b = r := by
  have h3 : a / b = q := ediv_uniq hb (by omega) (by omega)
  have h4 := Int.mul_ediv_add_emod a b
  rw [h3] at h4
  omega

theorem restF_eq {n x : Int} (hn : 0 < n) (hn2 : n ≤ 1152921504606846976) : restF n x = x % n := by
  unfold restF
  by_cases hx : 0 ≤ x
  · have h1 := Int.emod_nonneg x (show n ≠ 0 by omega)
    have h2 := Int.emod_lt_of_pos x hn
    rw [tmod_pos hx, w64_in (n := x % n + n) (by omega) (by omega), tmod_pos (by omega)]
    exact emod_of hn 1 (by omega) h1 h2
  · have h1 := Int.emod_nonneg (-x) (show n ≠ 0 by omega)
    have h2 := Int.emod_lt_of_pos (-x) hn
    have h3 := Int.mul_ediv_add_emod (-x) n
    rw [tmod_neg' (a := x) (by omega), w64_in (n := -((-x) % n) + n) (by omega) (by omega), tmod_pos (by omega)]
    by_cases h0 : (-x) % n = 0
    · rw [h0]
      rw [emod_of hn (-((-x) / n)) (r := 0) (a := x) (by rw [Int.mul_neg]; omega) (by omega) (by omega)]
      exact emod_of hn 1 (by omega) (by omega) (by omega)
    · rw [emod_of hn (-((-x) / n) - 1) (r := n - (-x) % n) (a := x) (by rw [Int.mul_sub, Int.mul_neg]; omega) (by omega) (by omega)]
      exact emod_of hn 0 (by omega) (by omega) (by omega)

/-! ## The steps of Euclid with their factors -/

def bezL (r s x y : Int) : Int := if h : s = 0 then x else bezL s (r.tmod s) y (x - r.tdiv s * y)
termination_by s.natAbs
decreasing_by exact tmod_lt h
theorem bezL_zero (r x y : Int) : bezL r 0 x y = x := by unfold bezL; simp
theorem bezL_step {r s x y : Int} (h : s ≠ 0) : bezL r s x y = bezL s (r.tmod s) y (x - r.tdiv s * y) := by rw [bezL]; simp [h]

structure BInv (m r s x y : Int) : Prop where
  r0 : 0 ≤ r
  s0 : 0 ≤ s
  rm : r ≤ m
  sm : s ≤ m
  mm : m ≤ 1000000000
  ex : ∃ X Y : Int, 0 ≤ X ∧ 0 ≤ Y ∧ X ≤ m ∧ Y ≤ m ∧ X * s + Y * r ≤ m ∧ ((x = X ∧ y = -Y) ∨ (x = -X ∧ y = Y))

theorem mul_le_of {a b m : Int} (ha : 0 ≤ a) (hb : 1 ≤ b) (h : a * b ≤ m) : a ≤ m := by
  have : a * 1 ≤ a * b := Int.mul_le_mul_of_nonneg_left hb ha
  omega

theorem BInv.le {m r s x y : Int} (h : BInv m r s x y) : -m ≤ x ∧ x ≤ m ∧ -m ≤ y ∧ y ≤ m := by
  obtain ⟨X, Y, h1, h2, h3, h4, _, h6⟩ := h.ex
  rcases h6 with ⟨rfl, rfl⟩ | ⟨rfl, rfl⟩ <;> omega

theorem BInv.next {m r s x y : Int} (h : BInv m r s x y) (hs : s ≠ 0) :
    BInv m s (r.tmod s) y (x - r.tdiv s * y) ∧ w64 (r - w64 (w64 (r.tdiv s) * s)) = r.tmod s ∧ w64 (x - w64 (w64 (r.tdiv s) * y)) = x - r.tdiv s * y := by
  obtain ⟨X, Y, hX, hY, hXm, hYm, hsum, hxy⟩ := h.ex
  have hr0 := h.r0
  have hs0 : 0 < s := by have := h.s0; omega
  have hrm := h.rm
  have hsm := h.sm
  have hmm := h.mm
  rw [tdiv_pos hr0, tmod_pos hr0]
  have hd := Int.mul_ediv_add_emod r s
  have h1 := Int.emod_nonneg r hs
  have h2 := Int.emod_lt_of_pos r hs0
  have hq0 : 0 ≤ r / s := Int.ediv_nonneg hr0 (by omega)
  have hqr : r / s ≤ r := Int.ediv_le_self _ hr0
  generalize hq : r / s = q at *
  have hqY : 0 ≤ q * Y := Int.mul_nonneg hq0 hY
  have hrs : r % s = r - q * s := by rw [Int.mul_comm q s]; omega
  have e1 : Y * (r % s) + (X + q * Y) * s = X * s + Y * r := by
    rw [hrs, Int.mul_sub, Int.add_mul]
    have : Y * (q * s) = q * Y * s := by rw [← Int.mul_assoc, Int.mul_comm Y q]
    omega
  have h5 : 0 ≤ Y * (r % s) := Int.mul_nonneg hY h1
  have h6 : X + q * Y ≤ m := mul_le_of (by omega) (show 1 ≤ s by omega) (by omega)
  have hqs : 0 ≤ q * s := Int.mul_nonneg hq0 (by omega)
  refine ⟨⟨by omega, h1, hsm, by omega, hmm, Y, X + q * Y, hY, by omega, hYm, h6, by omega, ?_⟩, ?_, ?_⟩
  · rcases hxy with ⟨hx, hy⟩ | ⟨hx, hy⟩
    · right; refine ⟨hy, ?_⟩; rw [hx, hy, Int.mul_neg]; omega
    · left; refine ⟨hy, ?_⟩; rw [hx, hy]; omega
  · rw [w64_in (n := q) (by omega) (by omega), w64_in (n := q * s) (by omega) (by omega), w64_in (by omega) (by omega)]
    omega
  · rw [w64_in (n := q) (by omega) (by omega)]
    rcases hxy with ⟨hx, hy⟩ | ⟨hx, hy⟩
    · rw [hx, hy, Int.mul_neg, w64_in (n := -(q * Y)) (by omega) (by omega), w64_in (by omega) (by omega)]
    · rw [hx, hy, w64_in (n := q * Y) (by omega) (by omega), w64_in (by omega) (by omega)]

theorem bezL_le : ∀ (n : Nat) {m r s x y : Int}, s.natAbs ≤ n → BInv m r s x y → -m ≤ bezL r s x y ∧ bezL r s x y ≤ m
  | 0, m, r, s, x, y, hn, h => by
    have : s = 0 := by omega
    subst this
    rw [bezL_zero]
    have := h.le
    omega
  | n + 1, m, r, s, x, y, hn, h => by
    by_cases hs : s = 0
    · subst hs
      rw [bezL_zero]
      have := h.le
      omega
    · rw [bezL_step hs]
      exact bezL_le n (by have := tmod_lt (a := r) hs; omega) (h.next hs).1

/-- The number 'bezout' gets to ahead of its last rest. -/
def bezF (a m : Int) : Int := bezL (a % m) m 1 0

structure BezOk (a m : Int) : Prop where
  pos : 0 < m
  le : m ≤ 1000000000
  a1 : -1000000000 ≤ a
  a2 : a ≤ 1000000000

theorem BezOk.start {a m : Int} (h : BezOk a m) : BInv m (a % m) m 1 0 := by
  have h0 := h.pos
  have h1 := Int.emod_nonneg a (show m ≠ 0 by omega)
  have h2 := Int.emod_lt_of_pos a h0
  exact ⟨h1, by omega, by omega, by omega, h.le, 1, 0, by omega, by omega, by omega, by omega, by omega, .inl ⟨rfl, rfl⟩⟩
theorem BezOk.start' {a m : Int} (h : BezOk a m) : BInv m (modF a m) m 1 0 ∧ bezL (modF a m) m 1 0 = bezF a m := by
  have h0 := h.pos
  have h1 := h.le
  have h2 := h.a1
  have h3 := h.a2
  rw [modF_eq h0 (by omega) (by omega) (by omega)]
  exact ⟨h.start, rfl⟩
theorem BezOk.bound {a m : Int} (h : BezOk a m) : -m ≤ bezF a m ∧ bezF a m ≤ m := bezL_le _ (Nat.le_refl _) h.start

theorem bez_next {m r s x y g : Int} (h : BInv m r s x y ∧ bezL r s x y = g) (hs : s ≠ 0) :
    BInv m s (w64 (r - w64 (w64 (r.tdiv s) * s))) y (w64 (x - w64 (w64 (r.tdiv s) * y))) ∧ bezL s (w64 (r - w64 (w64 (r.tdiv s) * s))) y (w64 (x - w64 (w64 (r.tdiv s) * y))) = g := by
  obtain ⟨h1, h2, h3⟩ := h.1.next hs
  rw [h2, h3]
  exact ⟨h1, by rw [← bezL_step hs]; exact h.2⟩
theorem bez_lt {m r s x y g : Int} (h : BInv m r s x y ∧ bezL r s x y = g) (hs : s ≠ 0) : (w64 (r - w64 (w64 (r.tdiv s) * s))).natAbs < s.natAbs := by
  rw [(h.1.next hs).2.1]
  exact tmod_lt hs
theorem bez_end {a m r s x y : Int} (ha : BezOk a m) (h : BInv m r s x y ∧ bezL r s x y = bezF a m) (hs : decide (s = 0) = true) : x = bezF a m := by
  have := eq_of_dec hs
  subst this
  rw [← h.2, bezL_zero]
theorem bez_mod {a m r s x y : Int} (ha : BezOk a m) (h : BInv m r s x y ∧ bezL r s x y = bezF a m) (hs : decide (s = 0) = true) : modF x m = bezF a m % m := by
  rw [bez_end ha h hs]
  have := ha.bound
  have := ha.pos
  have := ha.le
  exact modF_eq (by omega) (by omega) (by omega) (by omega)

/-! ## Mates -/

def mateX (a b : Int) : Int := if a = 0 then -b else (-(bezF b a.natAbs)) % a.natAbs
def mateY (a b : Int) : Int := if a = 0 then 0 else (1 + b * mateX a b).tdiv a

theorem neg_mod_mod {x n : Int} (hn : 0 < n) : (-(x % n)) % n = (-x) % n := by
  have h1 := Int.mul_ediv_add_emod x n
  have h2 := Int.mul_ediv_add_emod (-(x % n)) n
  refine (emod_of hn (-(x / n) + (-(x % n)) / n) ?_ (Int.emod_nonneg _ (by omega)) (Int.emod_lt_of_pos _ hn)).symm
  rw [Int.mul_add, Int.mul_neg]
  omega

theorem pt_bez {a b : Int} (h : isPtF a b = true) (ha : a ≠ 0) : BezOk b a.natAbs := by
  rw [isPtF_iff] at h
  exact ⟨by omega, by omega, by omega, by omega⟩
theorem pt_size {a b : Int} (h : isPtF a b = true) : sizeF a = a.natAbs := by
  rw [isPtF_iff] at h
  exact sizeF_abs (by omega) (by omega)
theorem mateX_le {a b : Int} (h : isPtF a b = true) (ha : a ≠ 0) : 0 ≤ mateX a b ∧ mateX a b < a.natAbs := by
  unfold mateX
  rw [if_neg ha]
  exact ⟨Int.emod_nonneg _ (by omega), Int.emod_lt_of_pos _ (by omega)⟩

theorem mul_abs_le {x y m n : Int} (hx1 : -m ≤ x) (hx2 : x ≤ m) (hy1 : 0 ≤ y) (hy2 : y ≤ n) (hm : 0 ≤ m) : -(m * n) ≤ x * y ∧ x * y ≤ m * n := by
  have h1 : x * y ≤ m * y := Int.mul_le_mul_of_nonneg_right hx2 hy1
  have h2 : m * y ≤ m * n := Int.mul_le_mul_of_nonneg_left hy2 hm
  have h3 : -m * y ≤ x * y := Int.mul_le_mul_of_nonneg_right hx1 hy1
  rw [Int.neg_mul] at h3
  omega

theorem mate_prod {a b : Int} (h : isPtF a b = true) (ha : a ≠ 0) : -(1000000 * ((a.natAbs : Int) - 1)) ≤ b * mateX a b ∧ b * mateX a b ≤ 1000000 * ((a.natAbs : Int) - 1) := by
  have h1 := mateX_le h ha
  rw [isPtF_iff] at h
  exact mul_abs_le (by omega) (by omega) h1.1 (by omega) (by omega)

theorem tdiv_abs_le {a b : Int} {k : Nat} (hb : b ≠ 0) (h : a.natAbs ≤ k * b.natAbs) : (a.tdiv b).natAbs ≤ k := by
  rw [Int.natAbs_tdiv]
  exact Nat.div_le_of_le_mul (by rw [Nat.mul_comm]; exact h)

theorem mate_pt {a b : Int} (h : isPtF a b = true) : isPtF (mateX a b) (mateY a b) = true := by
  have h' := isPtF_iff.1 h
  rw [isPtF_iff]
  by_cases ha : a = 0
  · unfold mateY mateX
    rw [if_pos ha, if_pos ha]
    omega
  · have h1 := mateX_le h ha
    have h2 := mate_prod h ha
    have h3 : (mateY a b).natAbs ≤ 1000000 := by
      unfold mateY
      rw [if_neg ha]
      exact tdiv_abs_le ha (by omega)
    omega

theorem mate_nz {a b : Int} (h : isPtF a b = true) (ha : decide (a = 0) = false) : decide (sizeF a = 0) = false := by
  have := ne_of_dec ha
  rw [pt_size h]
  exact decide_eq_false (by omega)
theorem mate_bez {a b : Int} (h : isPtF a b = true) (ha : decide (a = 0) = false) : BezOk b (sizeF a) := by
  rw [pt_size h]
  exact pt_bez h (ne_of_dec ha)
theorem mate_x {a b : Int} (h : isPtF a b = true) (ha : decide (a = 0) = false) : modF (w64 (0 - bezF b (sizeF a) % sizeF a)) (sizeF a) = mateX a b := by
  have hb := mate_bez h ha
  have h1 := hb.pos
  have h2 := hb.le
  have h3 := Int.emod_nonneg (bezF b (sizeF a)) (show sizeF a ≠ 0 by omega)
  have h4 := Int.emod_lt_of_pos (bezF b (sizeF a)) h1
  rw [w64_in (by omega) (by omega), modF_eq h1 (by omega) (by omega) (by omega), Int.zero_sub, neg_mod_mod h1, pt_size h]
  unfold mateX
  rw [if_neg (ne_of_dec ha)]
theorem mate_x' {a b : Int} (h : isPtF a b = true) (ha : decide (a = 0) = false) : restF (sizeF a) (w64 (0 - bezF b (sizeF a))) = mateX a b := by
  have hb := mate_bez h ha
  have h1 := hb.pos
  have h2 := hb.le
  have h3 := hb.bound
  rw [w64_in (by omega) (by omega), restF_eq h1 (by omega), Int.zero_sub, pt_size h]
  unfold mateX
  rw [if_neg (ne_of_dec ha)]
theorem mate_y {a b : Int} (h : isPtF a b = true) (ha : decide (a = 0) = false) : w64 ((w64 (1 + w64 (b * mateX a b))).tdiv a) = mateY a b := by
  have h1 := mate_prod h (ne_of_dec ha)
  have h2 := isPtF_iff.1 (mate_pt h)
  have h3 := isPtF_iff.1 h
  have e : mateY a b = (1 + b * mateX a b).tdiv a := by unfold mateY; rw [if_neg (ne_of_dec ha)]
  rw [w64_in (n := b * mateX a b) (by omega) (by omega), w64_in (n := 1 + b * mateX a b) (by omega) (by omega), ← e, w64_in (by omega) (by omega)]
theorem mate_0x {a b : Int} (h : isPtF a b = true) (ha : decide (a = 0) = true) : w64 (0 - b) = mateX a b := by
  have h3 := isPtF_iff.1 h
  unfold mateX
  rw [if_pos (eq_of_dec ha), w64_in (by omega) (by omega)]
  omega
theorem mate_0y {a b : Int} (ha : decide (a = 0) = true) : mateY a b = 0 := by
  unfold mateY
  rw [if_pos (eq_of_dec ha)]
abbrev pair (a b : Int) : Value := .agg #[.int .i64 a, .int .i64 b]
theorem mate_fin {a b : Int} (h : isPtF a b = true) (ha : decide (a = 0) = false) :
    pair (modF (w64 (0 - bezF b (sizeF a) % sizeF a)) (sizeF a)) (w64 ((w64 (1 + w64 (b * modF (w64 (0 - bezF b (sizeF a) % sizeF a)) (sizeF a)))).tdiv a)) = pair (mateX a b) (mateY a b) := by
  rw [mate_x h ha, mate_y h ha]
theorem mate_fin' {a b r s x y : Int} (h : isPtF a b = true) (ha : decide (a = 0) = false) (hI : BInv (sizeF a) r s x y ∧ bezL r s x y = bezF b (sizeF a)) (hs : decide (s = 0) = true) :
    pair (restF (sizeF a) (w64 (0 - x))) (w64 ((w64 (1 + w64 (b * restF (sizeF a) (w64 (0 - x))))).tdiv a)) = pair (mateX a b) (mateY a b) := by
  rw [bez_end (mate_bez h ha) hI hs, mate_x' h ha, mate_y h ha]
theorem mate_fin0 {a b : Int} (h : isPtF a b = true) (ha : decide (a = 0) = true) : pair (w64 (0 - b)) 0 = pair (mateX a b) (mateY a b) := by
  rw [mate_0x h ha, mate_0y ha]
theorem mate_start {a b : Int} (h : isPtF a b = true) (ha : decide (a = 0) = false) : BInv (sizeF a) (restF (sizeF a) b) (sizeF a) 1 0 ∧ bezL (restF (sizeF a) b) (sizeF a) 1 0 = bezF b (sizeF a) := by
  have hb := mate_bez h ha
  have h1 := hb.pos
  have h2 := hb.le
  rw [restF_eq h1 (by omega)]
  exact ⟨hb.start, rfl⟩

end Go.Ev
end

section
/-
  Contracts of functions of the program (printed by a program of this work; Lean checks each).
  Conditions: as each contract states.
-/
namespace Go.Proofs.YtlkbfpklhncfbaaGreatDoor
open Go.Ev Go.RowKit
set_option maxRecDepth 100000
set_option linter.unusedVariables false
set_option linter.unusedSimpArgs false

theorem c_impl_floor {a b : Int} (hb : decide (b = 0) = false) : Pure Tryz.prog n_impl_floor [ii a, ii b] (ii (floorF a b)) := by
  refine pure_of good fn_impl_floor rfl rfl ?_
  conv => whnf
  all_goals (repeat' first
    | (refine StoreK.mk rfl ?_; conv => whnf)
    | exact join_same
    | exact (by assumption : (_ : Bool) = (_ : Bool))
    | (refine br_true (by assumption) ?_; conv => whnf)
    | (refine br_false (by assumption) ?_; conv => whnf)
    | (refine br_not ?_; conv => whnf)
    | (refine br_code ?_; conv => whnf)
    | (with_reducible refine br_and ?_; conv => whnf)
    | (with_reducible refine br_or ?_; conv => whnf)
    | (refine br_eq2 ?_; conv => whnf)
    | (refine draw_auto (by decide +kernel) ?_; conv => whnf)
    | (refine draw_asg (by decide +kernel) ?_; conv => whnf)
    | (refine draw_st (by decide +kernel) ?_; conv => whnf)
    | (refine draw_call (by decide +kernel) ?_; conv => whnf)
    | (refine enter_same (loop_n 12 ?_); conv => whnf)
    | (refine next_same ?_; conv => whnf)
    | (refine mapK_row (by assumption) ?_; conv => whnf)
    | (refine mapK_plain (Plain.of rfl) ?_; conv => whnf)
    | (refine mapK_lit ?_; conv => whnf)
    | (refine br_split (fun _ => ?_) (fun _ => ?_) <;> conv => whnf)
    | exact (rfl : (_ : Value) = _)
    | (simp only [*]; exact (rfl : (_ : Value) = _))
    | (simp [floorF, selF, *]; done))

theorem c_spec_l01Floor {a b : Int} (hb : decide (b = 0) = false) : Pure Tryz.prog n_spec_l01Floor [ii a, ii b] (ii (floorF a b)) := by
  refine pure_of good fn_spec_l01Floor rfl rfl ?_
  conv => whnf
  all_goals (repeat' first
    | (refine StoreK.mk rfl ?_; conv => whnf)
    | exact join_same
    | exact (by assumption : (_ : Bool) = (_ : Bool))
    | (refine br_true (by assumption) ?_; conv => whnf)
    | (refine br_false (by assumption) ?_; conv => whnf)
    | (refine br_not ?_; conv => whnf)
    | (refine br_code ?_; conv => whnf)
    | (with_reducible refine br_and ?_; conv => whnf)
    | (with_reducible refine br_or ?_; conv => whnf)
    | (refine br_eq2 ?_; conv => whnf)
    | (refine draw_auto (by decide +kernel) ?_; conv => whnf)
    | (refine draw_asg (by decide +kernel) ?_; conv => whnf)
    | (refine draw_st (by decide +kernel) ?_; conv => whnf)
    | (refine draw_call (by decide +kernel) ?_; conv => whnf)
    | (refine enter_same (loop_n 12 ?_); conv => whnf)
    | (refine next_same ?_; conv => whnf)
    | (refine mapK_row (by assumption) ?_; conv => whnf)
    | (refine mapK_plain (Plain.of rfl) ?_; conv => whnf)
    | (refine mapK_lit ?_; conv => whnf)
    | (refine br_split (fun _ => ?_) (fun _ => ?_) <;> conv => whnf)
    | exact (rfl : (_ : Value) = _)
    | (simp only [*]; exact (rfl : (_ : Value) = _))
    | (simp [floorF, selF, *]; done))

theorem c_index_points_1 {a b : Int}  : CallR Tryz.prog n_slices_IndexFunc_Point [.slice (some ⟨0, 0, none⟩) 1 1, fnv n_impl_points_1] [[ii a, ii b]] (ii (idx1F (isPtF a b))) := by
  refine callR_of good fn_slices_IndexFunc_Point rfl rfl ?_
  conv => whnf
  all_goals (repeat' first
    | (refine StoreK.mk rfl ?_; conv => whnf)
    | exact join_same
    | exact (by assumption : (_ : Bool) = (_ : Bool))
    | (refine br_true (by assumption) ?_; conv => whnf)
    | (refine br_false (by assumption) ?_; conv => whnf)
    | (refine br_not ?_; conv => whnf)
    | (refine br_code ?_; conv => whnf)
    | (with_reducible refine br_and ?_; conv => whnf)
    | (with_reducible refine br_or ?_; conv => whnf)
    | (refine br_eq2 ?_; conv => whnf)
    | (refine c_impl_points_1.call ?_; conv => whnf)
    | (refine c_impl_points_1.quiet ?_; conv => whnf)
    | (refine draw_auto (by decide +kernel) ?_; conv => whnf)
    | (refine draw_asg (by decide +kernel) ?_; conv => whnf)
    | (refine draw_st (by decide +kernel) ?_; conv => whnf)
    | (refine draw_call (by decide +kernel) ?_; conv => whnf)
    | (refine enter_same (loop_n 12 ?_); conv => whnf)
    | (refine next_same ?_; conv => whnf)
    | (refine mapK_row (by assumption) ?_; conv => whnf)
    | (refine mapK_plain (Plain.of rfl) ?_; conv => whnf)
    | (refine mapK_lit ?_; conv => whnf)
    | (refine br_split (fun _ => ?_) (fun _ => ?_) <;> conv => whnf)
    | exact (rfl : (_ : Value) = _)
    | (simp only [*]; exact (rfl : (_ : Value) = _))
    | (simp [idx1F, *]; done))

theorem c_contains_points_1 {a b : Int}  : CallR Tryz.prog n_slices_ContainsFunc_Point [.slice (some ⟨0, 0, none⟩) 1 1, fnv n_impl_points_1] [[ii a, ii b]] (bb (!(isPtF a b))) := by
  refine callR_of good fn_slices_ContainsFunc_Point rfl rfl ?_
  conv => whnf
  all_goals (repeat' first
    | (refine StoreK.mk rfl ?_; conv => whnf)
    | exact join_same
    | exact (by assumption : (_ : Bool) = (_ : Bool))
    | (refine br_true (by assumption) ?_; conv => whnf)
    | (refine br_false (by assumption) ?_; conv => whnf)
    | (refine br_not ?_; conv => whnf)
    | (refine br_code ?_; conv => whnf)
    | (with_reducible refine br_and ?_; conv => whnf)
    | (with_reducible refine br_or ?_; conv => whnf)
    | (refine br_eq2 ?_; conv => whnf)
    | (refine c_index_points_2.call1 rfl rfl ⟨_, rfl⟩ ?_; conv => whnf)
    | (refine c_index_points_2.quiet1 rfl rfl ⟨_, rfl⟩ ?_; conv => whnf)
    | (refine c_index_points_3.call1 rfl rfl ⟨_, rfl⟩ ?_; conv => whnf)
    | (refine c_index_points_3.quiet1 rfl rfl ⟨_, rfl⟩ ?_; conv => whnf)
    | (refine c_index_points_1.call1 rfl rfl ⟨_, rfl⟩ ?_; conv => whnf)
    | (refine c_index_points_1.quiet1 rfl rfl ⟨_, rfl⟩ ?_; conv => whnf)
    | (refine draw_auto (by decide +kernel) ?_; conv => whnf)
    | (refine draw_asg (by decide +kernel) ?_; conv => whnf)
    | (refine draw_st (by decide +kernel) ?_; conv => whnf)
    | (refine draw_call (by decide +kernel) ?_; conv => whnf)
    | (refine enter_same (loop_n 12 ?_); conv => whnf)
    | (refine next_same ?_; conv => whnf)
    | (refine mapK_row (by assumption) ?_; conv => whnf)
    | (refine mapK_plain (Plain.of rfl) ?_; conv => whnf)
    | (refine mapK_lit ?_; conv => whnf)
    | (refine br_split (fun _ => ?_) (fun _ => ?_) <;> conv => whnf)
    | exact (rfl : (_ : Value) = _)
    | exact congrArg Value.bool (idx1_ge _)
    | (simp only [*]; exact (rfl : (_ : Value) = _))
    | (simp [*]; done))

theorem c_points_1 {a b : Int}  : CallR Tryz.prog n_impl_points [.slice (some ⟨0, 0, none⟩) 1 1] [[ii a, ii b]] (bb (isPtF a b)) := by
  refine callR_of good fn_impl_points rfl rfl ?_
  conv => whnf
  all_goals (repeat' first
    | (refine StoreK.mk rfl ?_; conv => whnf)
    | exact join_same
    | exact (by assumption : (_ : Bool) = (_ : Bool))
    | (refine br_true (by assumption) ?_; conv => whnf)
    | (refine br_false (by assumption) ?_; conv => whnf)
    | (refine br_not ?_; conv => whnf)
    | (refine br_code ?_; conv => whnf)
    | (with_reducible refine br_and ?_; conv => whnf)
    | (with_reducible refine br_or ?_; conv => whnf)
    | (refine br_eq2 ?_; conv => whnf)
    | (refine c_contains_points_2.call1 rfl rfl ⟨_, rfl⟩ ?_; conv => whnf)
    | (refine c_contains_points_2.quiet1 rfl rfl ⟨_, rfl⟩ ?_; conv => whnf)
    | (refine c_contains_points_3.call1 rfl rfl ⟨_, rfl⟩ ?_; conv => whnf)
    | (refine c_contains_points_3.quiet1 rfl rfl ⟨_, rfl⟩ ?_; conv => whnf)
    | (refine c_contains_points_1.call1 rfl rfl ⟨_, rfl⟩ ?_; conv => whnf)
    | (refine c_contains_points_1.quiet1 rfl rfl ⟨_, rfl⟩ ?_; conv => whnf)
    | (refine c_impl_points_1.call ?_; conv => whnf)
    | (refine c_impl_points_1.quiet ?_; conv => whnf)
    | (refine draw_auto (by decide +kernel) ?_; conv => whnf)
    | (refine draw_asg (by decide +kernel) ?_; conv => whnf)
    | (refine draw_st (by decide +kernel) ?_; conv => whnf)
    | (refine draw_call (by decide +kernel) ?_; conv => whnf)
    | (refine enter_same (loop_n 12 ?_); conv => whnf)
    | (refine next_same ?_; conv => whnf)
    | (refine mapK_row (by assumption) ?_; conv => whnf)
    | (refine mapK_plain (Plain.of rfl) ?_; conv => whnf)
    | (refine mapK_lit ?_; conv => whnf)
    | (refine br_split (fun _ => ?_) (fun _ => ?_) <;> conv => whnf)
    | exact (rfl : (_ : Value) = _)
    | (simp only [*]; exact (rfl : (_ : Value) = _))
    | (simp [*]; done))

theorem c_code_1 {a b : Int}  : CallR Tryz.prog n_spec_l01Code [.slice (some ⟨0, 0, none⟩) 1 1] [[ii a, ii b]] (ii (codeF (isPtF a b))) := by
  refine callR_of good fn_spec_l01Code rfl rfl ?_
  conv => whnf
  all_goals (repeat' first
    | (refine StoreK.mk rfl ?_; conv => whnf)
    | exact join_same
    | exact (by assumption : (_ : Bool) = (_ : Bool))
    | (refine br_true (by assumption) ?_; conv => whnf)
    | (refine br_false (by assumption) ?_; conv => whnf)
    | (refine br_not ?_; conv => whnf)
    | (refine br_code ?_; conv => whnf)
    | (with_reducible refine br_and ?_; conv => whnf)
    | (with_reducible refine br_or ?_; conv => whnf)
    | (refine br_eq2 ?_; conv => whnf)
    | (refine c_spec_l01Is.call ?_; conv => whnf)
    | (refine c_spec_l01Is.quiet ?_; conv => whnf)
    | (refine draw_auto (by decide +kernel) ?_; conv => whnf)
    | (refine draw_asg (by decide +kernel) ?_; conv => whnf)
    | (refine draw_st (by decide +kernel) ?_; conv => whnf)
    | (refine draw_call (by decide +kernel) ?_; conv => whnf)
    | (refine enter_same (loop_n 12 ?_); conv => whnf)
    | (refine next_same ?_; conv => whnf)
    | (refine mapK_row (by assumption) ?_; conv => whnf)
    | (refine mapK_plain (Plain.of rfl) ?_; conv => whnf)
    | (refine mapK_lit ?_; conv => whnf)
    | (refine br_split (fun _ => ?_) (fun _ => ?_) <;> conv => whnf)
    | exact (rfl : (_ : Value) = _)
    | (simp only [*]; exact (rfl : (_ : Value) = _))
    | (simp [codeF, *]; done))

end Go.Proofs.YtlkbfpklhncfbaaGreatDoor
end

section
/-
  Plain arithmetic: corners, their sines and cosines; matrices; whole roots.
  Conditions: none.
-/
set_option linter.unusedVariables false
set_option linter.unusedSimpArgs false
namespace Go.Ev

/-! ## Corners -/

theorem isCornF_iff {a b c d : Int} : isCornF a b c d = true ↔ isPtF a b = true ∧ isPtF c d = true ∧ primF a b = true ∧ primF c d = true ∧ detF a b c d ≠ 0 := by
  unfold isCornF
  simp only [Bool.and_eq_true, Bool.not_eq_true', decide_eq_false_iff_not]
  constructor
  · rintro ⟨⟨⟨⟨h1, h2⟩, h3⟩, h4⟩, h5⟩; exact ⟨h1, h2, h3, h4, h5⟩
  · rintro ⟨h1, h2, h3, h4, h5⟩; exact ⟨⟨⟨⟨h1, h2⟩, h3⟩, h4⟩, h5⟩

theorem mul_abs {x y m n : Int} (hx1 : -m ≤ x) (hx2 : x ≤ m) (hy1 : -n ≤ y) (hy2 : y ≤ n) (hm : 0 ≤ m) : -(m * n) ≤ x * y ∧ x * y ≤ m * n := by
  by_cases hy : 0 ≤ y
  · exact mul_abs_le hx1 hx2 hy hy2 hm
  · have := mul_abs_le hx1 hx2 (show 0 ≤ -y by omega) (show -y ≤ n by omega) hm
    rw [Int.mul_neg] at this
    omega

theorem det_pt {a b c d : Int} (h1 : isPtF a b = true) (h2 : isPtF c d = true) : detF a b c d = a * d - b * c ∧ -2000000000000 ≤ detF a b c d ∧ detF a b c d ≤ 2000000000000 := by
  rw [isPtF_iff] at h1 h2
  have h3 := mul_abs (x := a) (y := d) (m := 1000000) (n := 1000000) (by omega) (by omega) (by omega) (by omega) (by omega)
  have h4 := mul_abs (x := b) (y := c) (m := 1000000) (n := 1000000) (by omega) (by omega) (by omega) (by omega) (by omega)
  have : detF a b c d = a * d - b * c := by
    unfold detF
    rw [w64_in (n := a * d) (by omega) (by omega), w64_in (n := b * c) (by omega) (by omega), w64_in (by omega) (by omega)]
  omega

theorem sine_pt {a b c d : Int} (h1 : isPtF a b = true) (h2 : isPtF c d = true) : sineF a b c d = (detF a b c d).natAbs := by
  have := det_pt h1 h2
  exact sizeF_abs (by omega) (by omega)
theorem sine_corn {a b c d : Int} (h : isCornF a b c d = true) : 0 < sineF a b c d ∧ sineF a b c d ≤ 2000000000000 ∧ sineF a b c d = (detF a b c d).natAbs := by
  rw [isCornF_iff] at h
  have h1 := sine_pt h.1 h.2.1
  have h2 := det_pt h.1 h.2.1
  omega

/-- The determinant with the mate. -/
def twistF (a b c d : Int) : Int := detF c d (mateX a b) (mateY a b)
def cosF (a b c d : Int) : Int := if twistF a b c d % sineF a b c d = 0 then sineF a b c d else twistF a b c d % sineF a b c d

theorem twist_corn {a b c d : Int} (h : isCornF a b c d = true) : -2000000000000 ≤ twistF a b c d ∧ twistF a b c d ≤ 2000000000000 := by
  rw [isCornF_iff] at h
  have := det_pt h.2.1 (mate_pt h.1)
  exact this.2

theorem cos_impl {a b c d : Int} (h : isCornF a b c d = true) : w64 (modF (w64 (twistF a b c d - 1)) (sineF a b c d) + 1) = cosF a b c d := by
  have h1 := sine_corn h
  have h2 := twist_corn h
  rw [w64_in (n := twistF a b c d - 1) (by omega) (by omega), modF_eq h1.1 (by omega) (by omega) (by omega)]
  have h3 := Int.emod_nonneg (twistF a b c d) (show sineF a b c d ≠ 0 by omega)
  have h4 := Int.emod_lt_of_pos (twistF a b c d) h1.1
  have h5 := Int.mul_ediv_add_emod (twistF a b c d) (sineF a b c d)
  have h6 := Int.emod_nonneg (twistF a b c d - 1) (show sineF a b c d ≠ 0 by omega)
  have h7 := Int.emod_lt_of_pos (twistF a b c d - 1) h1.1
  rw [w64_in (by omega) (by omega)]
  unfold cosF
  by_cases h0 : twistF a b c d % sineF a b c d = 0
  · rw [if_pos h0, emod_of h1.1 (twistF a b c d / sineF a b c d - 1) (r := sineF a b c d - 1) (by rw [Int.mul_sub]; omega) (by omega) (by omega)]
    omega
  · rw [if_neg h0, emod_of h1.1 (twistF a b c d / sineF a b c d) (r := twistF a b c d % sineF a b c d - 1) (by omega) (by omega) (by omega)]
    omega
theorem cos_rest {a b c d : Int} (h : isCornF a b c d = true) : restF (sineF a b c d) (twistF a b c d) = twistF a b c d % sineF a b c d := by
  have h1 := sine_corn h
  exact restF_eq h1.1 (by omega)
theorem sine_nz {a b c d : Int} (h : isCornF a b c d = true) : decide (sineF a b c d = 0) = false := decide_eq_false (by have := sine_corn h; omega)
theorem corn_p1 {a b c d : Int} (h : isCornF a b c d = true) : isPtF a b = true := (isCornF_iff.1 h).1
theorem corn_p2 {a b c d : Int} (h : isCornF a b c d = true) : isPtF c d = true := (isCornF_iff.1 h).2.1

theorem cos_0 {a b c d : Int} (h : isCornF a b c d = true) (h0 : decide (restF (sineF a b c d) (twistF a b c d) = 0) = true) : sineF a b c d = cosF a b c d := by
  have h1 := eq_of_dec h0
  rw [cos_rest h] at h1
  unfold cosF
  rw [if_pos h1]
theorem cos_1 {a b c d : Int} (h : isCornF a b c d = true) (h0 : decide (restF (sineF a b c d) (twistF a b c d) = 0) = false) : restF (sineF a b c d) (twistF a b c d) = cosF a b c d := by
  have h1 := ne_of_dec h0
  rw [cos_rest h] at h1 ⊢
  unfold cosF
  rw [if_neg h1]
theorem cos_bounds {a b c d : Int} (h : isCornF a b c d = true) : 1 ≤ cosF a b c d ∧ cosF a b c d ≤ sineF a b c d := by
  have h1 := sine_corn h
  have h3 := Int.emod_nonneg (twistF a b c d) (show sineF a b c d ≠ 0 by omega)
  have h4 := Int.emod_lt_of_pos (twistF a b c d) h1.1
  unfold cosF
  split <;> omega

def sameF (a b c d e f g i : Int) : Bool := decide (sineF a b c d = sineF e f g i) && decide (cosF a b c d = cosF e f g i)

theorem gcdF_neg {a b : Int} (h : isPtF a b = true) : gcdF (-a) (-b) = gcdF a b := by
  rw [isPtF_iff] at h
  rw [gcdF_eq (by omega) (by omega), gcdF_eq (by omega) (by omega), Int.neg_gcd, Int.gcd_neg]
theorem neg_pt {a b : Int} (h : isPtF a b = true) : w64 (0 - a) = -a ∧ w64 (0 - b) = -b ∧ isPtF (-a) (-b) = true := by
  rw [isPtF_iff] at *
  refine ⟨?_, ?_, by omega⟩ <;> rw [w64_in (by omega) (by omega)] <;> omega
theorem corn_swap {a b c d : Int} (h : isCornF a b c d = true) : isCornF c d a b = true := by
  rw [isCornF_iff] at *
  obtain ⟨h1, h2, h3, h4, h5⟩ := h
  refine ⟨h2, h1, h4, h3, ?_⟩
  rw [(det_pt h1 h2).1] at h5
  rw [(det_pt h2 h1).1, Int.mul_comm c b, Int.mul_comm d a]
  omega
theorem corn_adj {a b c d : Int} (h : isCornF a b c d = true) : isCornF c d (w64 (0 - a)) (w64 (0 - b)) = true := by
  have h' := isCornF_iff.1 (corn_swap h)
  obtain ⟨h1, h2, h3, h4, h5⟩ := h'
  obtain ⟨e1, e2, e3⟩ := neg_pt h2
  rw [e1, e2, isCornF_iff]
  refine ⟨h1, e3, h3, ?_, ?_⟩
  · unfold primF at *
    rw [gcdF_neg h2]; exact h4
  · rw [(det_pt h1 h2).1] at h5
    rw [(det_pt h1 e3).1, Int.mul_neg, Int.mul_neg]
    omega

/-! ## Matrices -/

def apF (a b e f : Int) : Int := w64 (w64 (a * e) + w64 (b * f))
def turnF (a b : Int) : Bool := decide (b < 0) || (decide (b = 0) && decide (a < 0))
def turnX (a b : Int) : Int := selF (turnF a b) (w64 (0 - a)) a
def turnY (a b : Int) : Int := selF (turnF a b) (w64 (0 - b)) b
theorem plusF_0neg (a : Int) : plusF 0 (-1) a = w64 (0 - a) := plusF_neg 0 a

/-! ## Whole roots -/

def rootL (d w : Int) : Int := if h : 0 ≤ w ∧ (w + 1) * (w + 1) ≤ d then rootL d (w + 1) else w
termination_by (d - w).toNat
decreasing_by
  have : (w + 1) * 1 ≤ (w + 1) * (w + 1) := Int.mul_le_mul_of_nonneg_left (by omega) (by omega)
  omega
structure RInv (d w : Int) : Prop where
  d1 : 1 ≤ d
  d2 : d ≤ 4000
  w0 : 0 ≤ w
  w2 : w ≤ 4000
  eq : rootL d w = rootL d 0
theorem root_start {d : Int} (h : inF d 1 4000 = true) : RInv d 0 := by
  unfold inF at h
  simp only [Bool.and_eq_true, decide_eq_true_eq, ge_iff_le] at h
  exact ⟨h.1, h.2, by omega, by omega, rfl⟩
theorem root_sq {d w : Int} (h : RInv d w) : w64 (w64 (w + 1) * w64 (w + 1)) = (w + 1) * (w + 1) := by
  have h1 := h.w0
  have h2 := h.w2
  have := mul_abs (x := w + 1) (y := w + 1) (m := 4001) (n := 4001) (by omega) (by omega) (by omega) (by omega) (by omega)
  rw [w64_in (n := w + 1) (by omega) (by omega), w64_in (by omega) (by omega)]
theorem root_lt {d w : Int} (h : RInv d w) (hc : decide (w64 (w64 (w + 1) * w64 (w + 1)) ≤ d) = true) : w64 (w + 1) = w + 1 ∧ w + 1 ≤ d ∧ (w + 1) * (w + 1) ≤ d := by
  rw [root_sq h] at hc
  have h1 := h.w0
  have h2 := h.w2
  have hc' := of_decide_eq_true hc
  have : (w + 1) * 1 ≤ (w + 1) * (w + 1) := Int.mul_le_mul_of_nonneg_left (by omega) (by omega)
  exact ⟨w64_in (by omega) (by omega), by omega, hc'⟩
theorem root_next {d w : Int} (h : RInv d w) (hc : decide (w64 (w64 (w + 1) * w64 (w + 1)) ≤ d) = true) : RInv d (w64 (w + 1)) := by
  have h1 := h.w0
  have h2 := h.w2
  have h3 := h.d2
  obtain ⟨e, e1, e2⟩ := root_lt h hc
  rw [e]
  refine ⟨h.d1, h.d2, by omega, by omega, ?_⟩
  rw [← h.eq]
  conv => rhs; rw [rootL]
  rw [dif_pos ⟨by omega, e2⟩]
theorem root_mu {d w : Int} (h : RInv d w) (hc : decide (w64 (w64 (w + 1) * w64 (w + 1)) ≤ d) = true) : (d - w64 (w + 1)).toNat < (d - w).toNat := by
  obtain ⟨e, e1, e2⟩ := root_lt h hc
  omega
theorem root_end {d w : Int} (h : RInv d w) (hc : decide (w64 (w64 (w + 1) * w64 (w + 1)) ≤ d) = false) : w = rootL d 0 := by
  rw [root_sq h] at hc
  have hc' := of_decide_eq_false hc
  rw [← h.eq, rootL, dif_neg (fun h' => hc' h'.2)]

def discF (d : Int) : Bool := inF d 1 4000 && !decide (w64 (rootL d 0 * rootL d 0) = d)
def formD (a b c : Int) : Int := w64 (w64 (b * b) - w64 (w64 (4 * a) * c))
def isFormF (a b c : Int) : Bool := isCoordF a && isCoordF b && isCoordF c && discF (formD a b c)

end Go.Ev
end

section
/-
  Contracts of functions of the program (printed by a program of this work; Lean checks each).
  Conditions: as each contract states.
-/
namespace Go.Proofs.YtlkbfpklhncfbaaGreatDoor
open Go.Ev Go.RowKit
set_option maxRecDepth 100000
set_option linter.unusedVariables false
set_option linter.unusedSimpArgs false

theorem c_impl_IsMatrix {a b c d : Int}  : Pure Tryz.prog n_impl_IsMatrix [q4 a b c d] (bb (isPtF a b && isPtF c d)) := by
  refine pure_of good fn_impl_IsMatrix rfl rfl ?_
  conv => whnf
  all_goals (repeat' first
    | (refine StoreK.mk rfl ?_; conv => whnf)
    | exact join_same
    | exact (by assumption : (_ : Bool) = (_ : Bool))
    | (refine br_true (by assumption) ?_; conv => whnf)
    | (refine br_false (by assumption) ?_; conv => whnf)
    | (refine br_not ?_; conv => whnf)
    | (refine br_code ?_; conv => whnf)
    | (with_reducible refine br_and ?_; conv => whnf)
    | (with_reducible refine br_or ?_; conv => whnf)
    | (refine br_eq2 ?_; conv => whnf)
    | (refine c_points_2.call1 rfl rfl ⟨_, rfl⟩ ?_; conv => whnf)
    | (refine c_points_2.quiet1 rfl rfl ⟨_, rfl⟩ ?_; conv => whnf)
    | (refine c_points_3.call1 rfl rfl ⟨_, rfl⟩ ?_; conv => whnf)
    | (refine c_points_3.quiet1 rfl rfl ⟨_, rfl⟩ ?_; conv => whnf)
    | (refine c_points_1.call1 rfl rfl ⟨_, rfl⟩ ?_; conv => whnf)
    | (refine c_points_1.quiet1 rfl rfl ⟨_, rfl⟩ ?_; conv => whnf)
    | (refine draw_auto (by decide +kernel) ?_; conv => whnf)
    | (refine draw_asg (by decide +kernel) ?_; conv => whnf)
    | (refine draw_st (by decide +kernel) ?_; conv => whnf)
    | (refine draw_call (by decide +kernel) ?_; conv => whnf)
    | (refine enter_same (loop_n 12 ?_); conv => whnf)
    | (refine next_same ?_; conv => whnf)
    | (refine mapK_row (by assumption) ?_; conv => whnf)
    | (refine mapK_plain (Plain.of rfl) ?_; conv => whnf)
    | (refine mapK_lit ?_; conv => whnf)
    | (refine br_split (fun _ => ?_) (fun _ => ?_) <;> conv => whnf)
    | exact (rfl : (_ : Value) = _)
    | (simp only [*]; exact (rfl : (_ : Value) = _))
    | (simp [*]; done))

theorem c_spec_l01Matrix {a b c d : Int}  : Pure Tryz.prog n_spec_l01Matrix [q4 a b c d] (bb (isPtF a b && isPtF c d)) := by
  refine pure_of good fn_spec_l01Matrix rfl rfl ?_
  conv => whnf
  all_goals (repeat' first
    | (refine StoreK.mk rfl ?_; conv => whnf)
    | exact join_same
    | exact (by assumption : (_ : Bool) = (_ : Bool))
    | (refine br_true (by assumption) ?_; conv => whnf)
    | (refine br_false (by assumption) ?_; conv => whnf)
    | (refine br_not ?_; conv => whnf)
    | (refine br_code ?_; conv => whnf)
    | (with_reducible refine br_and ?_; conv => whnf)
    | (with_reducible refine br_or ?_; conv => whnf)
    | (refine br_eq2 ?_; conv => whnf)
    | (refine c_spec_l01Fits.call ?_; conv => whnf)
    | (refine c_spec_l01Fits.quiet ?_; conv => whnf)
    | (refine draw_auto (by decide +kernel) ?_; conv => whnf)
    | (refine draw_asg (by decide +kernel) ?_; conv => whnf)
    | (refine draw_st (by decide +kernel) ?_; conv => whnf)
    | (refine draw_call (by decide +kernel) ?_; conv => whnf)
    | (refine enter_same (loop_n 12 ?_); conv => whnf)
    | (refine next_same ?_; conv => whnf)
    | (refine mapK_row (by assumption) ?_; conv => whnf)
    | (refine mapK_plain (Plain.of rfl) ?_; conv => whnf)
    | (refine mapK_lit ?_; conv => whnf)
    | (refine br_split (fun _ => ?_) (fun _ => ?_) <;> conv => whnf)
    | exact (rfl : (_ : Value) = _)
    | (simp only [*]; exact (rfl : (_ : Value) = _))
    | (simp [isPtF, *]; done))

theorem c_impl_Matrix_det {a b c d : Int}  : Pure Tryz.prog n_impl_Matrix_det [q4 a b c d] (ii (detF a b c d)) := by
  refine pure_of good fn_impl_Matrix_det rfl rfl ?_
  conv => whnf
  all_goals (repeat' first
    | (refine StoreK.mk rfl ?_; conv => whnf)
    | exact join_same
    | exact (by assumption : (_ : Bool) = (_ : Bool))
    | (refine br_true (by assumption) ?_; conv => whnf)
    | (refine br_false (by assumption) ?_; conv => whnf)
    | (refine br_not ?_; conv => whnf)
    | (refine br_code ?_; conv => whnf)
    | (with_reducible refine br_and ?_; conv => whnf)
    | (with_reducible refine br_or ?_; conv => whnf)
    | (refine br_eq2 ?_; conv => whnf)
    | (refine c_impl_det.call ?_; conv => whnf)
    | (refine c_impl_det.quiet ?_; conv => whnf)
    | (refine draw_auto (by decide +kernel) ?_; conv => whnf)
    | (refine draw_asg (by decide +kernel) ?_; conv => whnf)
    | (refine draw_st (by decide +kernel) ?_; conv => whnf)
    | (refine draw_call (by decide +kernel) ?_; conv => whnf)
    | (refine enter_same (loop_n 12 ?_); conv => whnf)
    | (refine next_same ?_; conv => whnf)
    | (refine mapK_row (by assumption) ?_; conv => whnf)
    | (refine mapK_plain (Plain.of rfl) ?_; conv => whnf)
    | (refine mapK_lit ?_; conv => whnf)
    | (refine br_split (fun _ => ?_) (fun _ => ?_) <;> conv => whnf)
    | exact (rfl : (_ : Value) = _)
    | (simp only [*]; exact (rfl : (_ : Value) = _))
    | (simp [*]; done))

theorem c_spec_l01DetOf {a b c d : Int}  : Pure Tryz.prog n_spec_l01DetOf [q4 a b c d] (ii (detF a b c d)) := by
  refine pure_of good fn_spec_l01DetOf rfl rfl ?_
  conv => whnf
  all_goals (repeat' first
    | (refine StoreK.mk rfl ?_; conv => whnf)
    | exact join_same
    | exact (by assumption : (_ : Bool) = (_ : Bool))
    | (refine br_true (by assumption) ?_; conv => whnf)
    | (refine br_false (by assumption) ?_; conv => whnf)
    | (refine br_not ?_; conv => whnf)
    | (refine br_code ?_; conv => whnf)
    | (with_reducible refine br_and ?_; conv => whnf)
    | (with_reducible refine br_or ?_; conv => whnf)
    | (refine br_eq2 ?_; conv => whnf)
    | (refine draw_auto (by decide +kernel) ?_; conv => whnf)
    | (refine draw_asg (by decide +kernel) ?_; conv => whnf)
    | (refine draw_st (by decide +kernel) ?_; conv => whnf)
    | (refine draw_call (by decide +kernel) ?_; conv => whnf)
    | (refine enter_same (loop_n 12 ?_); conv => whnf)
    | (refine next_same ?_; conv => whnf)
    | (refine mapK_row (by assumption) ?_; conv => whnf)
    | (refine mapK_plain (Plain.of rfl) ?_; conv => whnf)
    | (refine mapK_lit ?_; conv => whnf)
    | (refine br_split (fun _ => ?_) (fun _ => ?_) <;> conv => whnf)
    | exact (rfl : (_ : Value) = _)
    | (simp only [*]; exact (rfl : (_ : Value) = _))
    | (simp [*]; done))

theorem c_spec_l01Times {a b c d e f g i : Int}  : Pure Tryz.prog n_spec_l01Times [q4 a b c d, q4 e f g i] (q4 (apF a b e g) (apF a b f i) (apF c d e g) (apF c d f i)) := by
  refine pure_of good fn_spec_l01Times rfl rfl ?_
  conv => whnf
  all_goals (repeat' first
    | (refine StoreK.mk rfl ?_; conv => whnf)
    | exact join_same
    | exact (by assumption : (_ : Bool) = (_ : Bool))
    | (refine br_true (by assumption) ?_; conv => whnf)
    | (refine br_false (by assumption) ?_; conv => whnf)
    | (refine br_not ?_; conv => whnf)
    | (refine br_code ?_; conv => whnf)
    | (with_reducible refine br_and ?_; conv => whnf)
    | (with_reducible refine br_or ?_; conv => whnf)
    | (refine br_eq2 ?_; conv => whnf)
    | (refine draw_auto (by decide +kernel) ?_; conv => whnf)
    | (refine draw_asg (by decide +kernel) ?_; conv => whnf)
    | (refine draw_st (by decide +kernel) ?_; conv => whnf)
    | (refine draw_call (by decide +kernel) ?_; conv => whnf)
    | (refine enter_same (loop_n 12 ?_); conv => whnf)
    | (refine next_same ?_; conv => whnf)
    | (refine mapK_row (by assumption) ?_; conv => whnf)
    | (refine mapK_plain (Plain.of rfl) ?_; conv => whnf)
    | (refine mapK_lit ?_; conv => whnf)
    | (refine br_split (fun _ => ?_) (fun _ => ?_) <;> conv => whnf)
    | exact (rfl : (_ : Value) = _)
    | (simp only [*]; exact (rfl : (_ : Value) = _))
    | (simp [*]; done))

def invA (k m : Int) : Int := w64 (k * m)
def invB (k m : Int) : Int := w64 (w64 (0 - k) * m)

def halfA (a b c d e f g i : Int) : Int := apF (invA (detF e f g i) i) (invB (detF e f g i) f) a c
def halfB (a b c d e f g i : Int) : Int := apF (invA (detF e f g i) i) (invB (detF e f g i) f) b d
def halfC (a b c d e f g i : Int) : Int := apF (invB (detF e f g i) g) (invA (detF e f g i) e) a c
def halfD (a b c d e f g i : Int) : Int := apF (invB (detF e f g i) g) (invA (detF e f g i) e) b d

theorem br_sel3 {p : Bool} {A B : Prop} (h : brK p A B) : brK (decide (selF p 0 3 = 0)) A B := by cases p <;> exact h

abbrev tr3 (a b c : Int) : Value := .agg #[.int .i64 a, .int .i64 b, .int .i64 c]

end Go.Proofs.YtlkbfpklhncfbaaGreatDoor
end

section
/-
  Contracts of functions of the program (printed by a program of this work; Lean checks each).
  Conditions: as each contract states.
-/
namespace Go.Proofs.YtlkbfpklhncfbaaGreatDoor
open Go.Ev Go.RowKit
set_option maxRecDepth 100000
set_option linter.unusedVariables false
set_option linter.unusedSimpArgs false

def sumX (a b c d : Int) : Int := turnX (plusF a 1 c) (plusF b 1 d)
def sumY (a b c d : Int) : Int := turnY (plusF a 1 c) (plusF b 1 d)
def difX (a b c d : Int) : Int := turnX (plusF a (-1) c) (plusF b (-1) d)
def difY (a b c d : Int) : Int := turnY (plusF a (-1) c) (plusF b (-1) d)
def isSum (a b c d e f : Int) : Bool := decide (e = sumX a b c d) && decide (f = sumY a b c d)
def isDif (a b c d e f : Int) : Bool := decide (e = difX a b c d) && decide (f = difY a b c d)

theorem br_sum {a b c d e f : Int} {A B : Prop} (h : brK (isSum a b c d e f) A B) : brK (eqCells [.int .i64 e, .int .i64 f] [.int .i64 (turnX (plusF a 1 c) (plusF b 1 d)), .int .i64 (turnY (plusF a 1 c) (plusF b 1 d))]) A B := br_eq2 (by
  unfold isSum sumX sumY at h
  cases h1 : decide (e = turnX (plusF a 1 c) (plusF b 1 d)) <;> rw [h1] at h <;> exact h)
theorem br_dif {a b c d e f : Int} {A B : Prop} (h : brK (isDif a b c d e f) A B) : brK (eqCells [.int .i64 e, .int .i64 f] [.int .i64 (turnX (plusF a (-1) c) (plusF b (-1) d)), .int .i64 (turnY (plusF a (-1) c) (plusF b (-1) d))]) A B := br_eq2 (by
  unfold isDif difX difY at h
  cases h1 : decide (e = turnX (plusF a (-1) c) (plusF b (-1) d)) <;> rw [h1] at h <;> exact h)

attribute [local irreducible] plusF turnX turnY isPtF isFracF nearF

def primX (a b : Int) : Int := w64 (a.tdiv (gcdF a b))
def primY (a b : Int) : Int := w64 (b.tdiv (gcdF a b))

end Go.Proofs.YtlkbfpklhncfbaaGreatDoor
end

section
/-
  Plain arithmetic: spots, their determinants, coordinates in a cone, volumes.
  Conditions: none.
-/
set_option linter.unusedVariables false
set_option linter.unusedSimpArgs false
namespace Go.Ev

def isSF (a : Int) : Bool := inF a (-20) 20
def isSpF (a b c : Int) : Bool := isSF a && isSF b && isSF c
def idx4F (p q r s : Bool) : Int := match p with
  | true => match q with
    | true => match r with
      | true => match s with
        | true => -1
        | false => 3
      | false => 2
    | false => 1
  | false => 0
theorem idx4_ge (p q r s : Bool) : decide (idx4F p q r s ≥ 0) = !(p && q && r && s) := by cases p <;> cases q <;> cases r <;> cases s <;> rfl

/-- One number of a cross product. -/
def crF (p q r s : Int) : Int := w64 (w64 (p * q) - w64 (r * s))
def dotF (a b c x y z : Int) : Int := w64 (w64 (w64 (a * x) + w64 (b * y)) + w64 (c * z))
def volF (a b c d e f g h i : Int) : Int := dotF a b c (crF e i f h) (crF f g d i) (crF d h e g)
def volP (a b c d e f g h i : Int) : Int := a * (e * i - f * h) + b * (f * g - d * i) + c * (d * h - e * g)

theorem w64_mul_r (a b : Int) : w64 (a * w64 b) = w64 (a * b) := by
  have h : ∃ k, w64 b = b + k * 18446744073709551616 := by
    refine ⟨-((b + 9223372036854775808) / 18446744073709551616), ?_⟩
    rw [w64_def]; omega
  obtain ⟨k, hk⟩ := h
  rw [hk, Int.mul_add, ← Int.mul_assoc]
  generalize a * k = m
  simp only [w64_def]
  omega
theorem w64_mul_l (a b : Int) : w64 (w64 a * b) = w64 (a * b) := by rw [Int.mul_comm, w64_mul_r, Int.mul_comm]

theorem volF_eq (a b c d e f g h i : Int) : volF a b c d e f g h i = w64 (volP a b c d e f g h i) := by
  unfold volF dotF crF volP
  simp only [w64_sub_r, w64_sub_l, w64_mul_r, w64_add_l, w64_add_r]

def sgF (n : Int) : Int := selF (decide (n < 0)) (-1) 1

/-- The coordinates. -/
def co0 (a b c d e f g h i x y z : Int) : Int := w64 (sgF (volF a b c d e f g h i) * volF x y z d e f g h i)
def co1 (a b c d e f g h i x y z : Int) : Int := w64 (sgF (volF a b c d e f g h i) * volF a b c x y z g h i)
def co2 (a b c d e f g h i x y z : Int) : Int := w64 (sgF (volF a b c d e f g h i) * volF a b c d e f x y z)
theorem vol_rot (a b c d e f g h i : Int) : volF d e f g h i a b c = volF a b c d e f g h i := by
  rw [volF_eq, volF_eq]
  congr 1
  unfold volP
  grind

def isConeF (a b c d e f g h i : Int) : Bool := isSpF a b c && isSpF d e f && isSpF g h i && !decide (volF a b c d e f g h i = 0)
theorem size_zero {n : Int} (h1 : -9223372036854775808 ≤ n) (h2 : n ≤ 9223372036854775807) : decide (sizeF n = 0) = decide (n = 0) := by
  rw [decide_eq_decide]
  unfold sizeF maxi
  rw [w64_def]
  split <;> omega
theorem vol_size (a b c d e f g h i : Int) : decide (sizeF (volF a b c d e f g h i) = 0) = decide (volF a b c d e f g h i = 0) := size_zero (w64_bounds _).1 (w64_bounds _).2
theorem min3_ge (a b c : Int) : decide (mini (mini a b) c ≥ 0) = (decide (a ≥ 0) && decide (b ≥ 0) && decide (c ≥ 0)) := by
  unfold mini
  rw [Bool.eq_iff_iff]
  simp only [decide_eq_true_eq, Bool.and_eq_true]
  split <;> split <;> omega

end Go.Ev
end

section
/-
  Contracts of functions of the program (printed by a program of this work; Lean checks each).
  Conditions: as each contract states.
-/
namespace Go.Proofs.YtlkbfpklhncfbaaGreatDoor
open Go.Ev Go.RowKit
set_option maxRecDepth 100000
set_option linter.unusedVariables false
set_option linter.unusedSimpArgs false

abbrev v3 (a b c : Int) : Value := .agg #[.int .i64 a, .int .i64 b, .int .i64 c]
abbrev v9 (a b c d e f g h i : Int) : Value := .agg #[.int .i64 a, .int .i64 b, .int .i64 c, .int .i64 d, .int .i64 e, .int .i64 f, .int .i64 g, .int .i64 h, .int .i64 i]
abbrev v12 (a b c d e f g h i x y z : Int) : Value := .agg #[.int .i64 a, .int .i64 b, .int .i64 c, .int .i64 d, .int .i64 e, .int .i64 f, .int .i64 g, .int .i64 h, .int .i64 i, .int .i64 x, .int .i64 y, .int .i64 z]

end Go.Proofs.YtlkbfpklhncfbaaGreatDoor
end

section
/-
  Contracts of functions of the program (printed by a program of this work; Lean checks each).
  Conditions: as each contract states.
-/
namespace Go.Proofs.YtlkbfpklhncfbaaGreatDoor
open Go.Ev Go.RowKit
set_option maxRecDepth 100000
set_option linter.unusedVariables false
set_option linter.unusedSimpArgs false

def isAngF (a b c d : Int) : Bool := isPtF a b && isPtF c d && primF a b && primF c d && decide (detF a b c d ≥ 1)

end Go.Proofs.YtlkbfpklhncfbaaGreatDoor
end

section
/-
  Contracts of functions of the program (printed by a program of this work; Lean checks each).
  Conditions: as each contract states.
-/
namespace Go.Proofs.YtlkbfpklhncfbaaGreatDoor
open Go.Ev Go.RowKit
set_option maxRecDepth 100000
set_option linter.unusedVariables false
set_option linter.unusedSimpArgs false



end Go.Proofs.YtlkbfpklhncfbaaGreatDoor
end

section
/-
  Contracts of functions of the program (printed by a program of this work; Lean checks each).
  Conditions: as each contract states.
-/
namespace Go.Proofs.YtlkbfpklhncfbaaGreatDoor
open Go.Ev Go.RowKit
set_option maxRecDepth 100000
set_option linter.unusedVariables false
set_option linter.unusedSimpArgs false



end Go.Proofs.YtlkbfpklhncfbaaGreatDoor
end
