/-
  Contracts of functions of the program (printed by a program of this work; Lean checks each).
  Conditions: as each contract states.
-/
import Derived.Test.YtepmlacfaffmmaaTbl
import Derived.Test.YtepmlacfaffmmaaSpec
namespace Go.Proofs.Ytepmlacfaffmmaa
open Go.Ev Go.RowKit
set_option maxRecDepth 100000
set_option linter.unusedVariables false
set_option linter.unusedSimpArgs false

abbrev ii (a : Int) : Value := .int .i64 a
abbrev bb (a : Bool) : Value := .bool a
abbrev pt (a b : Int) : Value := .agg #[.int .i64 a, .int .i64 b]
abbrev tri (a b c d e f : Int) : Value := .agg #[.int .i64 a, .int .i64 b, .int .i64 c, .int .i64 d, .int .i64 e, .int .i64 f]

theorem c_impl_in {n l h : Int}  : Pure Try.prog n_impl_in [ii n, ii l, ii h] (bb (inF n l h)) := by
  refine pure_of good fn_impl_in rfl rfl ?_
  conv => whnf
  all_goals (repeat' first
    | (refine br_true (by assumption) ?_; conv => whnf)
    | (refine br_false (by assumption) ?_; conv => whnf)
    | (refine br_not ?_; conv => whnf)
    | (refine draw_auto (by decide +kernel) ?_; conv => whnf)
    | (refine loop_n 12 ?_; conv => whnf)
    | (refine br_split (fun _ => ?_) (fun _ => ?_) <;> conv => whnf)
    | exact (rfl : (_ : Value) = _)
    | (simp [inF, *]; done))

theorem c_spec_l01In {n l h : Int}  : Pure Try.prog n_spec_l01In [ii n, ii l, ii h] (bb (inF n l h)) := by
  refine pure_of good fn_spec_l01In rfl rfl ?_
  conv => whnf
  all_goals (repeat' first
    | (refine br_true (by assumption) ?_; conv => whnf)
    | (refine br_false (by assumption) ?_; conv => whnf)
    | (refine br_not ?_; conv => whnf)
    | (refine draw_auto (by decide +kernel) ?_; conv => whnf)
    | (refine loop_n 12 ?_; conv => whnf)
    | (refine br_split (fun _ => ?_) (fun _ => ?_) <;> conv => whnf)
    | exact (rfl : (_ : Value) = _)
    | (simp [inF, *]; done))

theorem c_impl_isCoord {n : Int}  : Pure Try.prog n_impl_isCoord [ii n] (bb (isCoordF n)) := by
  refine pure_of good fn_impl_isCoord rfl rfl ?_
  conv => whnf
  all_goals (repeat' first
    | (refine br_true (by assumption) ?_; conv => whnf)
    | (refine br_false (by assumption) ?_; conv => whnf)
    | (refine br_not ?_; conv => whnf)
    | (refine c_impl_in.call ?_; conv => whnf)
    | (refine c_impl_in.quiet ?_; conv => whnf)
    | (refine draw_auto (by decide +kernel) ?_; conv => whnf)
    | (refine loop_n 12 ?_; conv => whnf)
    | (refine br_split (fun _ => ?_) (fun _ => ?_) <;> conv => whnf)
    | exact (rfl : (_ : Value) = _)
    | (simp [isCoordF, *]; done))

theorem c_spec_l01Fits {n : Int}  : Pure Try.prog n_spec_l01Fits [ii n] (bb (isCoordF n)) := by
  refine pure_of good fn_spec_l01Fits rfl rfl ?_
  conv => whnf
  all_goals (repeat' first
    | (refine br_true (by assumption) ?_; conv => whnf)
    | (refine br_false (by assumption) ?_; conv => whnf)
    | (refine br_not ?_; conv => whnf)
    | (refine c_spec_l01In.call ?_; conv => whnf)
    | (refine c_spec_l01In.quiet ?_; conv => whnf)
    | (refine draw_auto (by decide +kernel) ?_; conv => whnf)
    | (refine loop_n 12 ?_; conv => whnf)
    | (refine br_split (fun _ => ?_) (fun _ => ?_) <;> conv => whnf)
    | exact (rfl : (_ : Value) = _)
    | (simp [isCoordF, *]; done))

theorem c_impl_IsPoint {a b : Int}  : Pure Try.prog n_impl_IsPoint [pt a b] (bb (isPtF a b)) := by
  refine pure_of good fn_impl_IsPoint rfl rfl ?_
  conv => whnf
  all_goals (repeat' first
    | (refine br_true (by assumption) ?_; conv => whnf)
    | (refine br_false (by assumption) ?_; conv => whnf)
    | (refine br_not ?_; conv => whnf)
    | (refine c_impl_isCoord.call ?_; conv => whnf)
    | (refine c_impl_isCoord.quiet ?_; conv => whnf)
    | (refine draw_auto (by decide +kernel) ?_; conv => whnf)
    | (refine loop_n 12 ?_; conv => whnf)
    | (refine br_split (fun _ => ?_) (fun _ => ?_) <;> conv => whnf)
    | exact (rfl : (_ : Value) = _)
    | (simp [isPtF, *]; done))

theorem c_spec_l01Is {a b : Int}  : Pure Try.prog n_spec_l01Is [pt a b] (bb (isPtF a b)) := by
  refine pure_of good fn_spec_l01Is rfl rfl ?_
  conv => whnf
  all_goals (repeat' first
    | (refine br_true (by assumption) ?_; conv => whnf)
    | (refine br_false (by assumption) ?_; conv => whnf)
    | (refine br_not ?_; conv => whnf)
    | (refine c_spec_l01Fits.call ?_; conv => whnf)
    | (refine c_spec_l01Fits.quiet ?_; conv => whnf)
    | (refine draw_auto (by decide +kernel) ?_; conv => whnf)
    | (refine loop_n 12 ?_; conv => whnf)
    | (refine br_split (fun _ => ?_) (fun _ => ?_) <;> conv => whnf)
    | exact (rfl : (_ : Value) = _)
    | (simp [isPtF, *]; done))

theorem c_impl_det {a b c d : Int}  : Pure Try.prog n_impl_det [pt a b, pt c d] (ii (detF a b c d)) := by
  refine pure_of good fn_impl_det rfl rfl ?_
  conv => whnf
  all_goals (repeat' first
    | (refine br_true (by assumption) ?_; conv => whnf)
    | (refine br_false (by assumption) ?_; conv => whnf)
    | (refine br_not ?_; conv => whnf)
    | (refine draw_auto (by decide +kernel) ?_; conv => whnf)
    | (refine loop_n 12 ?_; conv => whnf)
    | (refine br_split (fun _ => ?_) (fun _ => ?_) <;> conv => whnf)
    | exact (rfl : (_ : Value) = _)
    | (simp [*]; done))

theorem c_spec_l01Det {a b c d : Int}  : Pure Try.prog n_spec_l01Det [pt a b, pt c d] (ii (detF a b c d)) := by
  refine pure_of good fn_spec_l01Det rfl rfl ?_
  conv => whnf
  all_goals (repeat' first
    | (refine br_true (by assumption) ?_; conv => whnf)
    | (refine br_false (by assumption) ?_; conv => whnf)
    | (refine br_not ?_; conv => whnf)
    | (refine draw_auto (by decide +kernel) ?_; conv => whnf)
    | (refine loop_n 12 ?_; conv => whnf)
    | (refine br_split (fun _ => ?_) (fun _ => ?_) <;> conv => whnf)
    | exact (rfl : (_ : Value) = _)
    | (simp [*]; done))

theorem c_impl_Point_plus {a b c d k : Int}  : Pure Try.prog n_impl_Point_plus [pt a b, pt c d, ii k] (pt (plusF a k c) (plusF b k d)) := by
  refine pure_of good fn_impl_Point_plus rfl rfl ?_
  conv => whnf
  all_goals (repeat' first
    | (refine br_true (by assumption) ?_; conv => whnf)
    | (refine br_false (by assumption) ?_; conv => whnf)
    | (refine br_not ?_; conv => whnf)
    | (refine draw_auto (by decide +kernel) ?_; conv => whnf)
    | (refine loop_n 12 ?_; conv => whnf)
    | (refine br_split (fun _ => ?_) (fun _ => ?_) <;> conv => whnf)
    | exact (rfl : (_ : Value) = _)
    | (simp [*]; done))

theorem c_spec_l01Plus {a b c d k : Int}  : Pure Try.prog n_spec_l01Plus [pt a b, pt c d, ii k] (pt (plusF a k c) (plusF b k d)) := by
  refine pure_of good fn_spec_l01Plus rfl rfl ?_
  conv => whnf
  all_goals (repeat' first
    | (refine br_true (by assumption) ?_; conv => whnf)
    | (refine br_false (by assumption) ?_; conv => whnf)
    | (refine br_not ?_; conv => whnf)
    | (refine draw_auto (by decide +kernel) ?_; conv => whnf)
    | (refine loop_n 12 ?_; conv => whnf)
    | (refine br_split (fun _ => ?_) (fun _ => ?_) <;> conv => whnf)
    | exact (rfl : (_ : Value) = _)
    | (simp [*]; done))

theorem c_impl_Point_less {a b c d : Int}  : Pure Try.prog n_impl_Point_less [pt a b, pt c d] (pt (plusF a (-1) c) (plusF b (-1) d)) := by
  refine pure_of good fn_impl_Point_less rfl rfl ?_
  conv => whnf
  all_goals (repeat' first
    | (refine br_true (by assumption) ?_; conv => whnf)
    | (refine br_false (by assumption) ?_; conv => whnf)
    | (refine br_not ?_; conv => whnf)
    | (refine c_impl_Point_plus.call ?_; conv => whnf)
    | (refine c_impl_Point_plus.quiet ?_; conv => whnf)
    | (refine draw_auto (by decide +kernel) ?_; conv => whnf)
    | (refine loop_n 12 ?_; conv => whnf)
    | (refine br_split (fun _ => ?_) (fun _ => ?_) <;> conv => whnf)
    | exact (rfl : (_ : Value) = _)
    | (simp [*]; done))

theorem c_impl_size {n : Int}  : Pure Try.prog n_impl_size [ii n] (ii (sizeF n)) := by
  refine pure_of good fn_impl_size rfl rfl ?_
  conv => whnf
  all_goals (repeat' first
    | (refine br_true (by assumption) ?_; conv => whnf)
    | (refine br_false (by assumption) ?_; conv => whnf)
    | (refine br_not ?_; conv => whnf)
    | (refine draw_auto (by decide +kernel) ?_; conv => whnf)
    | (refine loop_n 12 ?_; conv => whnf)
    | (refine br_split (fun _ => ?_) (fun _ => ?_) <;> conv => whnf)
    | exact (rfl : (_ : Value) = _)
    | (simp [*]; done))

theorem c_impl_area {a b c d e f : Int}  : Pure Try.prog n_impl_area [pt a b, pt c d, pt e f] (ii (areaF a b c d e f)) := by
  refine pure_of good fn_impl_area rfl rfl ?_
  conv => whnf
  all_goals (repeat' first
    | (refine br_true (by assumption) ?_; conv => whnf)
    | (refine br_false (by assumption) ?_; conv => whnf)
    | (refine br_not ?_; conv => whnf)
    | (refine c_impl_Point_less.call ?_; conv => whnf)
    | (refine c_impl_Point_less.quiet ?_; conv => whnf)
    | (refine c_impl_det.call ?_; conv => whnf)
    | (refine c_impl_det.quiet ?_; conv => whnf)
    | (refine c_impl_size.call ?_; conv => whnf)
    | (refine c_impl_size.quiet ?_; conv => whnf)
    | (refine draw_auto (by decide +kernel) ?_; conv => whnf)
    | (refine loop_n 12 ?_; conv => whnf)
    | (refine br_split (fun _ => ?_) (fun _ => ?_) <;> conv => whnf)
    | exact (rfl : (_ : Value) = _)
    | (simp [*]; done))

theorem c_spec_l01Area {a b c d e f : Int}  : Pure Try.prog n_spec_l01Area [pt a b, pt c d, pt e f] (ii (areaF a b c d e f)) := by
  refine pure_of good fn_spec_l01Area rfl rfl ?_
  conv => whnf
  all_goals (repeat' first
    | (refine br_true (by assumption) ?_; conv => whnf)
    | (refine br_false (by assumption) ?_; conv => whnf)
    | (refine br_not ?_; conv => whnf)
    | (refine c_spec_l01Plus.call ?_; conv => whnf)
    | (refine c_spec_l01Plus.quiet ?_; conv => whnf)
    | (refine c_spec_l01Det.call ?_; conv => whnf)
    | (refine c_spec_l01Det.quiet ?_; conv => whnf)
    | (refine draw_auto (by decide +kernel) ?_; conv => whnf)
    | (refine loop_n 12 ?_; conv => whnf)
    | (refine br_split (fun _ => ?_) (fun _ => ?_) <;> conv => whnf)
    | exact (rfl : (_ : Value) = _)
    | (simp [*]; done))

theorem c_impl_small {a b : Int}  : Pure Try.prog n_impl_small [pt a b] (bb (smallF a b)) := by
  refine pure_of good fn_impl_small rfl rfl ?_
  conv => whnf
  all_goals (repeat' first
    | (refine br_true (by assumption) ?_; conv => whnf)
    | (refine br_false (by assumption) ?_; conv => whnf)
    | (refine br_not ?_; conv => whnf)
    | (refine c_impl_in.call ?_; conv => whnf)
    | (refine c_impl_in.quiet ?_; conv => whnf)
    | (refine draw_auto (by decide +kernel) ?_; conv => whnf)
    | (refine loop_n 12 ?_; conv => whnf)
    | (refine br_split (fun _ => ?_) (fun _ => ?_) <;> conv => whnf)
    | exact (rfl : (_ : Value) = _)
    | (simp [smallF, *]; done))

theorem c_impl_IsTriangle {a b c d e f : Int}  : Pure Try.prog n_impl_IsTriangle [tri a b c d e f] (bb (isTriF a b c d e f)) := by
  refine pure_of good fn_impl_IsTriangle rfl rfl ?_
  conv => whnf
  all_goals (repeat' first
    | (refine br_true (by assumption) ?_; conv => whnf)
    | (refine br_false (by assumption) ?_; conv => whnf)
    | (refine br_not ?_; conv => whnf)
    | (refine c_impl_small.call ?_; conv => whnf)
    | (refine c_impl_small.quiet ?_; conv => whnf)
    | (refine c_impl_area.call ?_; conv => whnf)
    | (refine c_impl_area.quiet ?_; conv => whnf)
    | (refine draw_auto (by decide +kernel) ?_; conv => whnf)
    | (refine loop_n 12 ?_; conv => whnf)
    | (refine br_split (fun _ => ?_) (fun _ => ?_) <;> conv => whnf)
    | exact (rfl : (_ : Value) = _)
    | (simp [isTriF, *]; done))

theorem c_spec_l04Is {a b c d e f : Int}  : Pure Try.prog n_spec_l04Is [tri a b c d e f] (bb (isTriF a b c d e f)) := by
  refine pure_of good fn_spec_l04Is rfl rfl ?_
  conv => whnf
  all_goals (repeat' first
    | (refine br_true (by assumption) ?_; conv => whnf)
    | (refine br_false (by assumption) ?_; conv => whnf)
    | (refine br_not ?_; conv => whnf)
    | (refine c_spec_l01In.call ?_; conv => whnf)
    | (refine c_spec_l01In.quiet ?_; conv => whnf)
    | (refine c_spec_l01Area.call ?_; conv => whnf)
    | (refine c_spec_l01Area.quiet ?_; conv => whnf)
    | (refine draw_auto (by decide +kernel) ?_; conv => whnf)
    | (refine loop_n 12 ?_; conv => whnf)
    | (refine br_split (fun _ => ?_) (fun _ => ?_) <;> conv => whnf)
    | exact (rfl : (_ : Value) = _)
    | (simp [isTriF, smallF, *]; done))

theorem c_spec_IsTriangle {a b c d e f : Int}  : Pure Try.prog n_spec_IsTriangle [tri a b c d e f] (bb (isTriF a b c d e f)) := by
  refine pure_of good fn_spec_IsTriangle rfl rfl ?_
  conv => whnf
  all_goals (repeat' first
    | (refine br_true (by assumption) ?_; conv => whnf)
    | (refine br_false (by assumption) ?_; conv => whnf)
    | (refine br_not ?_; conv => whnf)
    | (refine c_spec_l04Is.call ?_; conv => whnf)
    | (refine c_spec_l04Is.quiet ?_; conv => whnf)
    | (refine draw_auto (by decide +kernel) ?_; conv => whnf)
    | (refine loop_n 12 ?_; conv => whnf)
    | (refine br_split (fun _ => ?_) (fun _ => ?_) <;> conv => whnf)
    | exact (rfl : (_ : Value) = _)
    | (simp [*]; done))

theorem c_laws_toPoint {a b : Int}  : Pure Try.prog n_laws_toPoint [pt a b] (pt a b) := by
  refine pure_of good fn_laws_toPoint rfl rfl ?_
  conv => whnf
  all_goals (repeat' first
    | (refine br_true (by assumption) ?_; conv => whnf)
    | (refine br_false (by assumption) ?_; conv => whnf)
    | (refine br_not ?_; conv => whnf)
    | (refine draw_auto (by decide +kernel) ?_; conv => whnf)
    | (refine loop_n 12 ?_; conv => whnf)
    | (refine br_split (fun _ => ?_) (fun _ => ?_) <;> conv => whnf)
    | exact (rfl : (_ : Value) = _)
    | (simp [*]; done))

theorem c_laws_toTriangle {a b c d e f : Int}  : Pure Try.prog n_laws_toTriangle [tri a b c d e f] (tri a b c d e f) := by
  refine pure_of good fn_laws_toTriangle rfl rfl ?_
  conv => whnf
  all_goals (repeat' first
    | (refine br_true (by assumption) ?_; conv => whnf)
    | (refine br_false (by assumption) ?_; conv => whnf)
    | (refine br_not ?_; conv => whnf)
    | (refine c_laws_toPoint.call ?_; conv => whnf)
    | (refine c_laws_toPoint.quiet ?_; conv => whnf)
    | (refine draw_auto (by decide +kernel) ?_; conv => whnf)
    | (refine loop_n 12 ?_; conv => whnf)
    | (refine br_split (fun _ => ?_) (fun _ => ?_) <;> conv => whnf)
    | exact (rfl : (_ : Value) = _)
    | (simp [*]; done))

theorem c_laws_FnExactIsTriangle {a b c d e f : Int}  : Pure Try.prog n_laws_FnExactIsTriangle [tri a b c d e f] (bb true) := by
  refine pure_of good fn_laws_FnExactIsTriangle rfl rfl ?_
  conv => whnf
  all_goals (repeat' first
    | (refine br_true ?_ ?_; (focus (simp; done)); conv => whnf)
    | (refine br_false ?_ ?_; (focus (simp; done)); conv => whnf)
    | (refine br_true (by assumption) ?_; conv => whnf)
    | (refine br_false (by assumption) ?_; conv => whnf)
    | (refine br_not ?_; conv => whnf)
    | (refine c_laws_toTriangle.call ?_; conv => whnf)
    | (refine c_laws_toTriangle.quiet ?_; conv => whnf)
    | (refine c_spec_IsTriangle.call ?_; conv => whnf)
    | (refine c_spec_IsTriangle.quiet ?_; conv => whnf)
    | (refine c_impl_IsTriangle.call ?_; conv => whnf)
    | (refine c_impl_IsTriangle.quiet ?_; conv => whnf)
    | (refine draw_auto (by decide +kernel) ?_; conv => whnf)
    | (refine loop_n 12 ?_; conv => whnf)
    | (refine br_split (fun _ => ?_) (fun _ => ?_) <;> conv => whnf)
    | exact (rfl : (_ : Value) = _)
    | (simp [*]; done))

end Go.Proofs.Ytepmlacfaffmmaa
