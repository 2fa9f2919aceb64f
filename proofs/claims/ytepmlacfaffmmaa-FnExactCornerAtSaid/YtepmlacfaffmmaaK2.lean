/-
  Contracts of functions of the program (printed by a program of this work; Lean checks each).
  Conditions: as each contract states.
-/
import Derived.Test.YtepmlacfaffmmaaK1
namespace Go.Proofs.Ytepmlacfaffmmaa
open Go.Ev Go.RowKit
set_option maxRecDepth 100000
set_option linter.unusedVariables false
set_option linter.unusedSimpArgs false

theorem c_impl_small {a b : Int}  : Pure Try.prog n_impl_small [pt a b] (bb (smallF a b)) := by
  refine pure_of good fn_impl_small rfl rfl ?_
  conv => whnf
  all_goals (repeat' first
    | exact (by assumption : (_ : Bool) = (_ : Bool))
    | (refine br_true (by assumption) ?_; conv => whnf)
    | (refine br_false (by assumption) ?_; conv => whnf)
    | (refine br_not ?_; conv => whnf)
    | (refine br_code ?_; conv => whnf)
    | (with_reducible refine br_and ?_; conv => whnf)
    | (with_reducible refine br_or ?_; conv => whnf)
    | (refine br_eq2 ?_; conv => whnf)
    | (refine c_impl_in.call ?_; conv => whnf)
    | (refine c_impl_in.quiet ?_; conv => whnf)
    | (refine draw_auto (by decide +kernel) ?_; conv => whnf)
    | (refine draw_asg (by decide +kernel) ?_; conv => whnf)
    | (refine draw_st (by decide +kernel) ?_; conv => whnf)
    | (refine loop_n 12 ?_; conv => whnf)
    | (refine br_split (fun _ => ?_) (fun _ => ?_) <;> conv => whnf)
    | exact (rfl : (_ : Value) = _)
    | (simp only [*]; exact (rfl : (_ : Value) = _))
    | (simp [smallF, *]; done))

theorem c_impl_IsTriangle {a b c d e f : Int}  : Pure Try.prog n_impl_IsTriangle [tri a b c d e f] (bb (isTriF a b c d e f)) := by
  refine pure_of good fn_impl_IsTriangle rfl rfl ?_
  conv => whnf
  all_goals (repeat' first
    | exact (by assumption : (_ : Bool) = (_ : Bool))
    | (refine br_true (by assumption) ?_; conv => whnf)
    | (refine br_false (by assumption) ?_; conv => whnf)
    | (refine br_not ?_; conv => whnf)
    | (refine br_code ?_; conv => whnf)
    | (with_reducible refine br_and ?_; conv => whnf)
    | (with_reducible refine br_or ?_; conv => whnf)
    | (refine br_eq2 ?_; conv => whnf)
    | (refine c_impl_small.call ?_; conv => whnf)
    | (refine c_impl_small.quiet ?_; conv => whnf)
    | (refine c_impl_area.call ?_; conv => whnf)
    | (refine c_impl_area.quiet ?_; conv => whnf)
    | (refine draw_auto (by decide +kernel) ?_; conv => whnf)
    | (refine draw_asg (by decide +kernel) ?_; conv => whnf)
    | (refine draw_st (by decide +kernel) ?_; conv => whnf)
    | (refine loop_n 12 ?_; conv => whnf)
    | (refine br_split (fun _ => ?_) (fun _ => ?_) <;> conv => whnf)
    | exact (rfl : (_ : Value) = _)
    | (simp only [*]; exact (rfl : (_ : Value) = _))
    | (simp [isTriF, *]; done))

theorem c_spec_l04Is {a b c d e f : Int}  : Pure Try.prog n_spec_l04Is [tri a b c d e f] (bb (isTriF a b c d e f)) := by
  refine pure_of good fn_spec_l04Is rfl rfl ?_
  conv => whnf
  all_goals (repeat' first
    | exact (by assumption : (_ : Bool) = (_ : Bool))
    | (refine br_true (by assumption) ?_; conv => whnf)
    | (refine br_false (by assumption) ?_; conv => whnf)
    | (refine br_not ?_; conv => whnf)
    | (refine br_code ?_; conv => whnf)
    | (with_reducible refine br_and ?_; conv => whnf)
    | (with_reducible refine br_or ?_; conv => whnf)
    | (refine br_eq2 ?_; conv => whnf)
    | (refine c_spec_l01In.call ?_; conv => whnf)
    | (refine c_spec_l01In.quiet ?_; conv => whnf)
    | (refine c_spec_l01Area.call ?_; conv => whnf)
    | (refine c_spec_l01Area.quiet ?_; conv => whnf)
    | (refine draw_auto (by decide +kernel) ?_; conv => whnf)
    | (refine draw_asg (by decide +kernel) ?_; conv => whnf)
    | (refine draw_st (by decide +kernel) ?_; conv => whnf)
    | (refine loop_n 12 ?_; conv => whnf)
    | (refine br_split (fun _ => ?_) (fun _ => ?_) <;> conv => whnf)
    | exact (rfl : (_ : Value) = _)
    | (simp only [*]; exact (rfl : (_ : Value) = _))
    | (simp [isTriF, smallF, *]; done))

theorem c_spec_IsTriangle {a b c d e f : Int}  : Pure Try.prog n_spec_IsTriangle [tri a b c d e f] (bb (isTriF a b c d e f)) := by
  refine pure_of good fn_spec_IsTriangle rfl rfl ?_
  conv => whnf
  all_goals (repeat' first
    | exact (by assumption : (_ : Bool) = (_ : Bool))
    | (refine br_true (by assumption) ?_; conv => whnf)
    | (refine br_false (by assumption) ?_; conv => whnf)
    | (refine br_not ?_; conv => whnf)
    | (refine br_code ?_; conv => whnf)
    | (with_reducible refine br_and ?_; conv => whnf)
    | (with_reducible refine br_or ?_; conv => whnf)
    | (refine br_eq2 ?_; conv => whnf)
    | (refine c_spec_l04Is.call ?_; conv => whnf)
    | (refine c_spec_l04Is.quiet ?_; conv => whnf)
    | (refine draw_auto (by decide +kernel) ?_; conv => whnf)
    | (refine draw_asg (by decide +kernel) ?_; conv => whnf)
    | (refine draw_st (by decide +kernel) ?_; conv => whnf)
    | (refine loop_n 12 ?_; conv => whnf)
    | (refine br_split (fun _ => ?_) (fun _ => ?_) <;> conv => whnf)
    | exact (rfl : (_ : Value) = _)
    | (simp only [*]; exact (rfl : (_ : Value) = _))
    | (simp [*]; done))

theorem c_laws_FnExactIsTriangle {a b c d e f : Int}  : Pure Try.prog n_laws_FnExactIsTriangle [tri a b c d e f] (bb true) := by
  refine pure_of good fn_laws_FnExactIsTriangle rfl rfl ?_
  conv => whnf
  all_goals (repeat' first
    | (refine br_true ?_ ?_; (focus (simp; done)); conv => whnf)
    | (refine br_false ?_ ?_; (focus (simp; done)); conv => whnf)
    | exact (by assumption : (_ : Bool) = (_ : Bool))
    | (refine br_true (by assumption) ?_; conv => whnf)
    | (refine br_false (by assumption) ?_; conv => whnf)
    | (refine br_not ?_; conv => whnf)
    | (refine br_code ?_; conv => whnf)
    | (with_reducible refine br_and ?_; conv => whnf)
    | (with_reducible refine br_or ?_; conv => whnf)
    | (refine br_eq2 ?_; conv => whnf)
    | (refine c_laws_toTriangle.call ?_; conv => whnf)
    | (refine c_laws_toTriangle.quiet ?_; conv => whnf)
    | (refine c_spec_IsTriangle.call ?_; conv => whnf)
    | (refine c_spec_IsTriangle.quiet ?_; conv => whnf)
    | (refine c_impl_IsTriangle.call ?_; conv => whnf)
    | (refine c_impl_IsTriangle.quiet ?_; conv => whnf)
    | (refine draw_auto (by decide +kernel) ?_; conv => whnf)
    | (refine draw_asg (by decide +kernel) ?_; conv => whnf)
    | (refine draw_st (by decide +kernel) ?_; conv => whnf)
    | (refine loop_n 12 ?_; conv => whnf)
    | (refine br_split (fun _ => ?_) (fun _ => ?_) <;> conv => whnf)
    | exact (rfl : (_ : Value) = _)
    | (simp only [*]; exact (rfl : (_ : Value) = _))
    | (simp [*]; done))

theorem c_impl_Triangle_area {a b c d e f : Int}  : Pure Try.prog n_impl_Triangle_area [tri a b c d e f] (ii (areaF a b c d e f)) := by
  refine pure_of good fn_impl_Triangle_area rfl rfl ?_
  conv => whnf
  all_goals (repeat' first
    | exact (by assumption : (_ : Bool) = (_ : Bool))
    | (refine br_true (by assumption) ?_; conv => whnf)
    | (refine br_false (by assumption) ?_; conv => whnf)
    | (refine br_not ?_; conv => whnf)
    | (refine br_code ?_; conv => whnf)
    | (with_reducible refine br_and ?_; conv => whnf)
    | (with_reducible refine br_or ?_; conv => whnf)
    | (refine br_eq2 ?_; conv => whnf)
    | (refine c_impl_area.call ?_; conv => whnf)
    | (refine c_impl_area.quiet ?_; conv => whnf)
    | (refine draw_auto (by decide +kernel) ?_; conv => whnf)
    | (refine draw_asg (by decide +kernel) ?_; conv => whnf)
    | (refine draw_st (by decide +kernel) ?_; conv => whnf)
    | (refine loop_n 12 ?_; conv => whnf)
    | (refine br_split (fun _ => ?_) (fun _ => ?_) <;> conv => whnf)
    | exact (rfl : (_ : Value) = _)
    | (simp only [*]; exact (rfl : (_ : Value) = _))
    | (simp [*]; done))

theorem c_spec_l04Area {a b c d e f : Int}  : Pure Try.prog n_spec_l04Area [tri a b c d e f] (ii (areaF a b c d e f)) := by
  refine pure_of good fn_spec_l04Area rfl rfl ?_
  conv => whnf
  all_goals (repeat' first
    | exact (by assumption : (_ : Bool) = (_ : Bool))
    | (refine br_true (by assumption) ?_; conv => whnf)
    | (refine br_false (by assumption) ?_; conv => whnf)
    | (refine br_not ?_; conv => whnf)
    | (refine br_code ?_; conv => whnf)
    | (with_reducible refine br_and ?_; conv => whnf)
    | (with_reducible refine br_or ?_; conv => whnf)
    | (refine br_eq2 ?_; conv => whnf)
    | (refine c_spec_l01Area.call ?_; conv => whnf)
    | (refine c_spec_l01Area.quiet ?_; conv => whnf)
    | (refine draw_auto (by decide +kernel) ?_; conv => whnf)
    | (refine draw_asg (by decide +kernel) ?_; conv => whnf)
    | (refine draw_st (by decide +kernel) ?_; conv => whnf)
    | (refine loop_n 12 ?_; conv => whnf)
    | (refine br_split (fun _ => ?_) (fun _ => ?_) <;> conv => whnf)
    | exact (rfl : (_ : Value) = _)
    | (simp only [*]; exact (rfl : (_ : Value) = _))
    | (simp [*]; done))

theorem c_of_AreaOfTriangle {a b c d e f : Int}  : Pure Try.prog n_impl_ofTriangle [tri a b c d e f, fnv n_impl_Triangle_area] (t2 (ii (selF (isTriF a b c d e f) (areaF a b c d e f) 0)) (ii (codeF (isTriF a b c d e f)))) := by
  refine pure_of good fn_impl_ofTriangle rfl rfl ?_
  conv => whnf
  all_goals (repeat' first
    | exact (by assumption : (_ : Bool) = (_ : Bool))
    | (refine br_true (by assumption) ?_; conv => whnf)
    | (refine br_false (by assumption) ?_; conv => whnf)
    | (refine br_not ?_; conv => whnf)
    | (refine br_code ?_; conv => whnf)
    | (with_reducible refine br_and ?_; conv => whnf)
    | (with_reducible refine br_or ?_; conv => whnf)
    | (refine br_eq2 ?_; conv => whnf)
    | (refine c_impl_IsTriangle.call ?_; conv => whnf)
    | (refine c_impl_IsTriangle.quiet ?_; conv => whnf)
    | (refine c_impl_Triangle_area.call ?_; conv => whnf)
    | (refine c_impl_Triangle_area.quiet ?_; conv => whnf)
    | (refine draw_auto (by decide +kernel) ?_; conv => whnf)
    | (refine draw_asg (by decide +kernel) ?_; conv => whnf)
    | (refine draw_st (by decide +kernel) ?_; conv => whnf)
    | (refine loop_n 12 ?_; conv => whnf)
    | (refine br_split (fun _ => ?_) (fun _ => ?_) <;> conv => whnf)
    | exact (rfl : (_ : Value) = _)
    | (simp only [*]; exact (rfl : (_ : Value) = _))
    | (simp [selF, codeF, *]; done))

theorem c_impl_AreaOfTriangle {a b c d e f : Int}  : Pure Try.prog n_impl_AreaOfTriangle [tri a b c d e f] (t2 (ii (selF (isTriF a b c d e f) (areaF a b c d e f) 0)) (ii (codeF (isTriF a b c d e f)))) := by
  refine pure_of good fn_impl_AreaOfTriangle rfl rfl ?_
  conv => whnf
  all_goals (repeat' first
    | exact (by assumption : (_ : Bool) = (_ : Bool))
    | (refine br_true (by assumption) ?_; conv => whnf)
    | (refine br_false (by assumption) ?_; conv => whnf)
    | (refine br_not ?_; conv => whnf)
    | (refine br_code ?_; conv => whnf)
    | (with_reducible refine br_and ?_; conv => whnf)
    | (with_reducible refine br_or ?_; conv => whnf)
    | (refine br_eq2 ?_; conv => whnf)
    | (refine c_of_AreaOfTriangle.call ?_; conv => whnf)
    | (refine c_of_AreaOfTriangle.quiet ?_; conv => whnf)
    | (refine c_impl_Triangle_area.call ?_; conv => whnf)
    | (refine c_impl_Triangle_area.quiet ?_; conv => whnf)
    | (refine draw_auto (by decide +kernel) ?_; conv => whnf)
    | (refine draw_asg (by decide +kernel) ?_; conv => whnf)
    | (refine draw_st (by decide +kernel) ?_; conv => whnf)
    | (refine loop_n 12 ?_; conv => whnf)
    | (refine br_split (fun _ => ?_) (fun _ => ?_) <;> conv => whnf)
    | exact (rfl : (_ : Value) = _)
    | (simp only [*]; exact (rfl : (_ : Value) = _))
    | (simp [*]; done))

theorem c_spec_AreaOfTriangle {a b c d e f : Int}  : Pure Try.prog n_spec_AreaOfTriangle [tri a b c d e f] (t2 (ii (selF (isTriF a b c d e f) (areaF a b c d e f) 0)) (ii (codeF (isTriF a b c d e f)))) := by
  refine pure_of good fn_spec_AreaOfTriangle rfl rfl ?_
  conv => whnf
  all_goals (repeat' first
    | exact (by assumption : (_ : Bool) = (_ : Bool))
    | (refine br_true (by assumption) ?_; conv => whnf)
    | (refine br_false (by assumption) ?_; conv => whnf)
    | (refine br_not ?_; conv => whnf)
    | (refine br_code ?_; conv => whnf)
    | (with_reducible refine br_and ?_; conv => whnf)
    | (with_reducible refine br_or ?_; conv => whnf)
    | (refine br_eq2 ?_; conv => whnf)
    | (refine c_spec_l04Is.call ?_; conv => whnf)
    | (refine c_spec_l04Is.quiet ?_; conv => whnf)
    | (refine c_spec_l04Area.call ?_; conv => whnf)
    | (refine c_spec_l04Area.quiet ?_; conv => whnf)
    | (refine draw_auto (by decide +kernel) ?_; conv => whnf)
    | (refine draw_asg (by decide +kernel) ?_; conv => whnf)
    | (refine draw_st (by decide +kernel) ?_; conv => whnf)
    | (refine loop_n 12 ?_; conv => whnf)
    | (refine br_split (fun _ => ?_) (fun _ => ?_) <;> conv => whnf)
    | exact (rfl : (_ : Value) = _)
    | (simp only [*]; exact (rfl : (_ : Value) = _))
    | (simp [selF, codeF, *]; done))

theorem c_laws_FnExactAreaOfTriangle {a b c d e f : Int}  : Pure Try.prog n_laws_FnExactAreaOfTriangle [tri a b c d e f] (bb true) := by
  refine pure_of good fn_laws_FnExactAreaOfTriangle rfl rfl ?_
  conv => whnf
  all_goals (repeat' first
    | (refine br_true ?_ ?_; (focus (simp; done)); conv => whnf)
    | (refine br_false ?_ ?_; (focus (simp; done)); conv => whnf)
    | exact (by assumption : (_ : Bool) = (_ : Bool))
    | (refine br_true (by assumption) ?_; conv => whnf)
    | (refine br_false (by assumption) ?_; conv => whnf)
    | (refine br_not ?_; conv => whnf)
    | (refine br_code ?_; conv => whnf)
    | (with_reducible refine br_and ?_; conv => whnf)
    | (with_reducible refine br_or ?_; conv => whnf)
    | (refine br_eq2 ?_; conv => whnf)
    | (refine c_laws_toTriangle.call ?_; conv => whnf)
    | (refine c_laws_toTriangle.quiet ?_; conv => whnf)
    | (refine c_spec_AreaOfTriangle.call ?_; conv => whnf)
    | (refine c_spec_AreaOfTriangle.quiet ?_; conv => whnf)
    | (refine c_impl_AreaOfTriangle.call ?_; conv => whnf)
    | (refine c_impl_AreaOfTriangle.quiet ?_; conv => whnf)
    | (refine draw_auto (by decide +kernel) ?_; conv => whnf)
    | (refine draw_asg (by decide +kernel) ?_; conv => whnf)
    | (refine draw_st (by decide +kernel) ?_; conv => whnf)
    | (refine loop_n 12 ?_; conv => whnf)
    | (refine br_split (fun _ => ?_) (fun _ => ?_) <;> conv => whnf)
    | exact (rfl : (_ : Value) = _)
    | (simp only [*]; exact (rfl : (_ : Value) = _))
    | (simp [*]; done))

theorem c_impl_AreaOf {a b c d e f : Int}  : Pure Try.prog n_impl_AreaOf [pt a b, pt c d, pt e f] (t2 (ii (selF (isPtF a b && isPtF c d && isPtF e f) (areaF a b c d e f) 0)) (ii (codeF (isPtF a b && isPtF c d && isPtF e f)))) := by
  refine pure_of good fn_impl_AreaOf rfl rfl ?_
  conv => whnf
  all_goals (repeat' first
    | exact (by assumption : (_ : Bool) = (_ : Bool))
    | (refine br_true (by assumption) ?_; conv => whnf)
    | (refine br_false (by assumption) ?_; conv => whnf)
    | (refine br_not ?_; conv => whnf)
    | (refine br_code ?_; conv => whnf)
    | (with_reducible refine br_and ?_; conv => whnf)
    | (with_reducible refine br_or ?_; conv => whnf)
    | (refine br_eq2 ?_; conv => whnf)
    | (refine c_points_2.call1 rfl rfl ⟨_, rfl⟩ ?_; conv => whnf)
    | (refine c_points_2.quiet1 rfl rfl ⟨_, rfl⟩ ?_; conv => whnf)
    | (refine c_points_3.call1 rfl rfl ⟨_, rfl⟩ ?_; conv => whnf)
    | (refine c_points_3.quiet1 rfl rfl ⟨_, rfl⟩ ?_; conv => whnf)
    | (refine c_impl_area.call ?_; conv => whnf)
    | (refine c_impl_area.quiet ?_; conv => whnf)
    | (refine draw_auto (by decide +kernel) ?_; conv => whnf)
    | (refine draw_asg (by decide +kernel) ?_; conv => whnf)
    | (refine draw_st (by decide +kernel) ?_; conv => whnf)
    | (refine loop_n 12 ?_; conv => whnf)
    | (refine br_split (fun _ => ?_) (fun _ => ?_) <;> conv => whnf)
    | exact (rfl : (_ : Value) = _)
    | (simp only [*]; exact (rfl : (_ : Value) = _))
    | (simp [selF, codeF, *]; done))

theorem c_spec_AreaOf {a b c d e f : Int}  : Pure Try.prog n_spec_AreaOf [pt a b, pt c d, pt e f] (t2 (ii (selF (isPtF a b && isPtF c d && isPtF e f) (areaF a b c d e f) 0)) (ii (codeF (isPtF a b && isPtF c d && isPtF e f)))) := by
  refine pure_of good fn_spec_AreaOf rfl rfl ?_
  conv => whnf
  all_goals (repeat' first
    | exact (by assumption : (_ : Bool) = (_ : Bool))
    | (refine br_true (by assumption) ?_; conv => whnf)
    | (refine br_false (by assumption) ?_; conv => whnf)
    | (refine br_not ?_; conv => whnf)
    | (refine br_code ?_; conv => whnf)
    | (with_reducible refine br_and ?_; conv => whnf)
    | (with_reducible refine br_or ?_; conv => whnf)
    | (refine br_eq2 ?_; conv => whnf)
    | (refine c_code_2.call1 rfl rfl ⟨_, rfl⟩ ?_; conv => whnf)
    | (refine c_code_2.quiet1 rfl rfl ⟨_, rfl⟩ ?_; conv => whnf)
    | (refine c_code_3.call1 rfl rfl ⟨_, rfl⟩ ?_; conv => whnf)
    | (refine c_code_3.quiet1 rfl rfl ⟨_, rfl⟩ ?_; conv => whnf)
    | (refine c_spec_l01Area.call ?_; conv => whnf)
    | (refine c_spec_l01Area.quiet ?_; conv => whnf)
    | (refine draw_auto (by decide +kernel) ?_; conv => whnf)
    | (refine draw_asg (by decide +kernel) ?_; conv => whnf)
    | (refine draw_st (by decide +kernel) ?_; conv => whnf)
    | (refine loop_n 12 ?_; conv => whnf)
    | (refine br_split (fun _ => ?_) (fun _ => ?_) <;> conv => whnf)
    | exact (rfl : (_ : Value) = _)
    | (simp only [*]; exact (rfl : (_ : Value) = _))
    | (simp [selF, codeF, *]; done))

theorem c_laws_FnExactAreaOf {a b c d e f : Int}  : Pure Try.prog n_laws_FnExactAreaOf [pt a b, pt c d, pt e f] (bb true) := by
  refine pure_of good fn_laws_FnExactAreaOf rfl rfl ?_
  conv => whnf
  all_goals (repeat' first
    | (refine br_true ?_ ?_; (focus (simp; done)); conv => whnf)
    | (refine br_false ?_ ?_; (focus (simp; done)); conv => whnf)
    | exact (by assumption : (_ : Bool) = (_ : Bool))
    | (refine br_true (by assumption) ?_; conv => whnf)
    | (refine br_false (by assumption) ?_; conv => whnf)
    | (refine br_not ?_; conv => whnf)
    | (refine br_code ?_; conv => whnf)
    | (with_reducible refine br_and ?_; conv => whnf)
    | (with_reducible refine br_or ?_; conv => whnf)
    | (refine br_eq2 ?_; conv => whnf)
    | (refine c_laws_toPoint.call ?_; conv => whnf)
    | (refine c_laws_toPoint.quiet ?_; conv => whnf)
    | (refine c_spec_AreaOf.call ?_; conv => whnf)
    | (refine c_spec_AreaOf.quiet ?_; conv => whnf)
    | (refine c_impl_AreaOf.call ?_; conv => whnf)
    | (refine c_impl_AreaOf.quiet ?_; conv => whnf)
    | (refine draw_auto (by decide +kernel) ?_; conv => whnf)
    | (refine draw_asg (by decide +kernel) ?_; conv => whnf)
    | (refine draw_st (by decide +kernel) ?_; conv => whnf)
    | (refine loop_n 12 ?_; conv => whnf)
    | (refine br_split (fun _ => ?_) (fun _ => ?_) <;> conv => whnf)
    | exact (rfl : (_ : Value) = _)
    | (simp only [*]; exact (rfl : (_ : Value) = _))
    | (simp [*]; done))

theorem c_side_01 {a b c d e f : Int}  : Pure Try.prog n_impl_Triangle_side [tri a b c d e f, ii 0, ii 1] (pt (plusF c (-1) a) (plusF d (-1) b)) := by
  refine pure_of good fn_impl_Triangle_side rfl rfl ?_
  conv => whnf
  all_goals (repeat' first
    | exact (by assumption : (_ : Bool) = (_ : Bool))
    | (refine br_true (by assumption) ?_; conv => whnf)
    | (refine br_false (by assumption) ?_; conv => whnf)
    | (refine br_not ?_; conv => whnf)
    | (refine br_code ?_; conv => whnf)
    | (with_reducible refine br_and ?_; conv => whnf)
    | (with_reducible refine br_or ?_; conv => whnf)
    | (refine br_eq2 ?_; conv => whnf)
    | (refine c_impl_Point_less.call ?_; conv => whnf)
    | (refine c_impl_Point_less.quiet ?_; conv => whnf)
    | (refine draw_auto (by decide +kernel) ?_; conv => whnf)
    | (refine draw_asg (by decide +kernel) ?_; conv => whnf)
    | (refine draw_st (by decide +kernel) ?_; conv => whnf)
    | (refine loop_n 12 ?_; conv => whnf)
    | (refine br_split (fun _ => ?_) (fun _ => ?_) <;> conv => whnf)
    | exact (rfl : (_ : Value) = _)
    | (simp only [*]; exact (rfl : (_ : Value) = _))
    | (simp [*]; done))

theorem c_side_12 {a b c d e f : Int}  : Pure Try.prog n_impl_Triangle_side [tri a b c d e f, ii 1, ii 2] (pt (plusF e (-1) c) (plusF f (-1) d)) := by
  refine pure_of good fn_impl_Triangle_side rfl rfl ?_
  conv => whnf
  all_goals (repeat' first
    | exact (by assumption : (_ : Bool) = (_ : Bool))
    | (refine br_true (by assumption) ?_; conv => whnf)
    | (refine br_false (by assumption) ?_; conv => whnf)
    | (refine br_not ?_; conv => whnf)
    | (refine br_code ?_; conv => whnf)
    | (with_reducible refine br_and ?_; conv => whnf)
    | (with_reducible refine br_or ?_; conv => whnf)
    | (refine br_eq2 ?_; conv => whnf)
    | (refine c_impl_Point_less.call ?_; conv => whnf)
    | (refine c_impl_Point_less.quiet ?_; conv => whnf)
    | (refine draw_auto (by decide +kernel) ?_; conv => whnf)
    | (refine draw_asg (by decide +kernel) ?_; conv => whnf)
    | (refine draw_st (by decide +kernel) ?_; conv => whnf)
    | (refine loop_n 12 ?_; conv => whnf)
    | (refine br_split (fun _ => ?_) (fun _ => ?_) <;> conv => whnf)
    | exact (rfl : (_ : Value) = _)
    | (simp only [*]; exact (rfl : (_ : Value) = _))
    | (simp [*]; done))

theorem c_side_20 {a b c d e f : Int}  : Pure Try.prog n_impl_Triangle_side [tri a b c d e f, ii 2, ii 0] (pt (plusF a (-1) e) (plusF b (-1) f)) := by
  refine pure_of good fn_impl_Triangle_side rfl rfl ?_
  conv => whnf
  all_goals (repeat' first
    | exact (by assumption : (_ : Bool) = (_ : Bool))
    | (refine br_true (by assumption) ?_; conv => whnf)
    | (refine br_false (by assumption) ?_; conv => whnf)
    | (refine br_not ?_; conv => whnf)
    | (refine br_code ?_; conv => whnf)
    | (with_reducible refine br_and ?_; conv => whnf)
    | (with_reducible refine br_or ?_; conv => whnf)
    | (refine br_eq2 ?_; conv => whnf)
    | (refine c_impl_Point_less.call ?_; conv => whnf)
    | (refine c_impl_Point_less.quiet ?_; conv => whnf)
    | (refine draw_auto (by decide +kernel) ?_; conv => whnf)
    | (refine draw_asg (by decide +kernel) ?_; conv => whnf)
    | (refine draw_st (by decide +kernel) ?_; conv => whnf)
    | (refine loop_n 12 ?_; conv => whnf)
    | (refine br_split (fun _ => ?_) (fun _ => ?_) <;> conv => whnf)
    | exact (rfl : (_ : Value) = _)
    | (simp only [*]; exact (rfl : (_ : Value) = _))
    | (simp [*]; done))

theorem c_side_02 {a b c d e f : Int}  : Pure Try.prog n_impl_Triangle_side [tri a b c d e f, ii 0, ii 2] (pt (plusF e (-1) a) (plusF f (-1) b)) := by
  refine pure_of good fn_impl_Triangle_side rfl rfl ?_
  conv => whnf
  all_goals (repeat' first
    | exact (by assumption : (_ : Bool) = (_ : Bool))
    | (refine br_true (by assumption) ?_; conv => whnf)
    | (refine br_false (by assumption) ?_; conv => whnf)
    | (refine br_not ?_; conv => whnf)
    | (refine br_code ?_; conv => whnf)
    | (with_reducible refine br_and ?_; conv => whnf)
    | (with_reducible refine br_or ?_; conv => whnf)
    | (refine br_eq2 ?_; conv => whnf)
    | (refine c_impl_Point_less.call ?_; conv => whnf)
    | (refine c_impl_Point_less.quiet ?_; conv => whnf)
    | (refine draw_auto (by decide +kernel) ?_; conv => whnf)
    | (refine draw_asg (by decide +kernel) ?_; conv => whnf)
    | (refine draw_st (by decide +kernel) ?_; conv => whnf)
    | (refine loop_n 12 ?_; conv => whnf)
    | (refine br_split (fun _ => ?_) (fun _ => ?_) <;> conv => whnf)
    | exact (rfl : (_ : Value) = _)
    | (simp only [*]; exact (rfl : (_ : Value) = _))
    | (simp [*]; done))

theorem c_side_10 {a b c d e f : Int}  : Pure Try.prog n_impl_Triangle_side [tri a b c d e f, ii 1, ii 0] (pt (plusF a (-1) c) (plusF b (-1) d)) := by
  refine pure_of good fn_impl_Triangle_side rfl rfl ?_
  conv => whnf
  all_goals (repeat' first
    | exact (by assumption : (_ : Bool) = (_ : Bool))
    | (refine br_true (by assumption) ?_; conv => whnf)
    | (refine br_false (by assumption) ?_; conv => whnf)
    | (refine br_not ?_; conv => whnf)
    | (refine br_code ?_; conv => whnf)
    | (with_reducible refine br_and ?_; conv => whnf)
    | (with_reducible refine br_or ?_; conv => whnf)
    | (refine br_eq2 ?_; conv => whnf)
    | (refine c_impl_Point_less.call ?_; conv => whnf)
    | (refine c_impl_Point_less.quiet ?_; conv => whnf)
    | (refine draw_auto (by decide +kernel) ?_; conv => whnf)
    | (refine draw_asg (by decide +kernel) ?_; conv => whnf)
    | (refine draw_st (by decide +kernel) ?_; conv => whnf)
    | (refine loop_n 12 ?_; conv => whnf)
    | (refine br_split (fun _ => ?_) (fun _ => ?_) <;> conv => whnf)
    | exact (rfl : (_ : Value) = _)
    | (simp only [*]; exact (rfl : (_ : Value) = _))
    | (simp [*]; done))

theorem c_side_21 {a b c d e f : Int}  : Pure Try.prog n_impl_Triangle_side [tri a b c d e f, ii 2, ii 1] (pt (plusF c (-1) e) (plusF d (-1) f)) := by
  refine pure_of good fn_impl_Triangle_side rfl rfl ?_
  conv => whnf
  all_goals (repeat' first
    | exact (by assumption : (_ : Bool) = (_ : Bool))
    | (refine br_true (by assumption) ?_; conv => whnf)
    | (refine br_false (by assumption) ?_; conv => whnf)
    | (refine br_not ?_; conv => whnf)
    | (refine br_code ?_; conv => whnf)
    | (with_reducible refine br_and ?_; conv => whnf)
    | (with_reducible refine br_or ?_; conv => whnf)
    | (refine br_eq2 ?_; conv => whnf)
    | (refine c_impl_Point_less.call ?_; conv => whnf)
    | (refine c_impl_Point_less.quiet ?_; conv => whnf)
    | (refine draw_auto (by decide +kernel) ?_; conv => whnf)
    | (refine draw_asg (by decide +kernel) ?_; conv => whnf)
    | (refine draw_st (by decide +kernel) ?_; conv => whnf)
    | (refine loop_n 12 ?_; conv => whnf)
    | (refine br_split (fun _ => ?_) (fun _ => ?_) <;> conv => whnf)
    | exact (rfl : (_ : Value) = _)
    | (simp only [*]; exact (rfl : (_ : Value) = _))
    | (simp [*]; done))

theorem c_impl_Triangle_boundary {a b c d e f : Int}  : Pure Try.prog n_impl_Triangle_boundary [tri a b c d e f] (ii (w64 (w64 (gcdF (plusF c (-1) a) (plusF d (-1) b) + gcdF (plusF e (-1) c) (plusF f (-1) d)) + gcdF (plusF a (-1) e) (plusF b (-1) f)))) := by
  refine pure_of good fn_impl_Triangle_boundary rfl rfl ?_
  conv => whnf
  all_goals (repeat' first
    | exact (by assumption : (_ : Bool) = (_ : Bool))
    | (refine br_true (by assumption) ?_; conv => whnf)
    | (refine br_false (by assumption) ?_; conv => whnf)
    | (refine br_not ?_; conv => whnf)
    | (refine br_code ?_; conv => whnf)
    | (with_reducible refine br_and ?_; conv => whnf)
    | (with_reducible refine br_or ?_; conv => whnf)
    | (refine br_eq2 ?_; conv => whnf)
    | (refine c_side_01.call ?_; conv => whnf)
    | (refine c_side_01.quiet ?_; conv => whnf)
    | (refine c_side_12.call ?_; conv => whnf)
    | (refine c_side_12.quiet ?_; conv => whnf)
    | (refine c_side_20.call ?_; conv => whnf)
    | (refine c_side_20.quiet ?_; conv => whnf)
    | (refine c_side_02.call ?_; conv => whnf)
    | (refine c_side_02.quiet ?_; conv => whnf)
    | (refine c_side_10.call ?_; conv => whnf)
    | (refine c_side_10.quiet ?_; conv => whnf)
    | (refine c_side_21.call ?_; conv => whnf)
    | (refine c_side_21.quiet ?_; conv => whnf)
    | (refine c_impl_Point_length.call ?_; conv => whnf)
    | (refine c_impl_Point_length.quiet ?_; conv => whnf)
    | (refine draw_auto (by decide +kernel) ?_; conv => whnf)
    | (refine draw_asg (by decide +kernel) ?_; conv => whnf)
    | (refine draw_st (by decide +kernel) ?_; conv => whnf)
    | (refine loop_n 12 ?_; conv => whnf)
    | (refine br_split (fun _ => ?_) (fun _ => ?_) <;> conv => whnf)
    | exact (rfl : (_ : Value) = _)
    | (simp only [*]; exact (rfl : (_ : Value) = _))
    | (simp [*]; done))

theorem c_spec_l04Boundary {a b c d e f : Int}  : Pure Try.prog n_spec_l04Boundary [tri a b c d e f] (ii (w64 (w64 (gcdF (plusF c (-1) a) (plusF d (-1) b) + gcdF (plusF e (-1) c) (plusF f (-1) d)) + gcdF (plusF a (-1) e) (plusF b (-1) f)))) := by
  refine pure_of good fn_spec_l04Boundary rfl rfl ?_
  conv => whnf
  all_goals (repeat' first
    | exact (by assumption : (_ : Bool) = (_ : Bool))
    | (refine br_true (by assumption) ?_; conv => whnf)
    | (refine br_false (by assumption) ?_; conv => whnf)
    | (refine br_not ?_; conv => whnf)
    | (refine br_code ?_; conv => whnf)
    | (with_reducible refine br_and ?_; conv => whnf)
    | (with_reducible refine br_or ?_; conv => whnf)
    | (refine br_eq2 ?_; conv => whnf)
    | (refine c_spec_l01Length.call ?_; conv => whnf)
    | (refine c_spec_l01Length.quiet ?_; conv => whnf)
    | (refine draw_auto (by decide +kernel) ?_; conv => whnf)
    | (refine draw_asg (by decide +kernel) ?_; conv => whnf)
    | (refine draw_st (by decide +kernel) ?_; conv => whnf)
    | (refine loop_n 12 ?_; conv => whnf)
    | (refine br_split (fun _ => ?_) (fun _ => ?_) <;> conv => whnf)
    | exact (rfl : (_ : Value) = _)
    | (simp only [*]; exact (rfl : (_ : Value) = _))
    | (simp [*]; done))

theorem c_impl_Triangle_inner {a b c d e f : Int}  : Pure Try.prog n_impl_Triangle_inner [tri a b c d e f] (ii (w64 (w64 ((w64 (areaF a b c d e f - w64 (w64 (gcdF (plusF c (-1) a) (plusF d (-1) b) + gcdF (plusF e (-1) c) (plusF f (-1) d)) + gcdF (plusF a (-1) e) (plusF b (-1) f)))).tdiv 2) + 1))) := by
  refine pure_of good fn_impl_Triangle_inner rfl rfl ?_
  conv => whnf
  all_goals (repeat' first
    | exact (by assumption : (_ : Bool) = (_ : Bool))
    | (refine br_true (by assumption) ?_; conv => whnf)
    | (refine br_false (by assumption) ?_; conv => whnf)
    | (refine br_not ?_; conv => whnf)
    | (refine br_code ?_; conv => whnf)
    | (with_reducible refine br_and ?_; conv => whnf)
    | (with_reducible refine br_or ?_; conv => whnf)
    | (refine br_eq2 ?_; conv => whnf)
    | (refine c_impl_Triangle_area.call ?_; conv => whnf)
    | (refine c_impl_Triangle_area.quiet ?_; conv => whnf)
    | (refine c_impl_Triangle_boundary.call ?_; conv => whnf)
    | (refine c_impl_Triangle_boundary.quiet ?_; conv => whnf)
    | (refine draw_auto (by decide +kernel) ?_; conv => whnf)
    | (refine draw_asg (by decide +kernel) ?_; conv => whnf)
    | (refine draw_st (by decide +kernel) ?_; conv => whnf)
    | (refine loop_n 12 ?_; conv => whnf)
    | (refine br_split (fun _ => ?_) (fun _ => ?_) <;> conv => whnf)
    | exact (rfl : (_ : Value) = _)
    | (simp only [*]; exact (rfl : (_ : Value) = _))
    | (simp [*]; done))

theorem c_spec_l04Inner {a b c d e f : Int}  : Pure Try.prog n_spec_l04Inner [tri a b c d e f] (ii (w64 (w64 ((w64 (areaF a b c d e f - w64 (w64 (gcdF (plusF c (-1) a) (plusF d (-1) b) + gcdF (plusF e (-1) c) (plusF f (-1) d)) + gcdF (plusF a (-1) e) (plusF b (-1) f)))).tdiv 2) + 1))) := by
  refine pure_of good fn_spec_l04Inner rfl rfl ?_
  conv => whnf
  all_goals (repeat' first
    | exact (by assumption : (_ : Bool) = (_ : Bool))
    | (refine br_true (by assumption) ?_; conv => whnf)
    | (refine br_false (by assumption) ?_; conv => whnf)
    | (refine br_not ?_; conv => whnf)
    | (refine br_code ?_; conv => whnf)
    | (with_reducible refine br_and ?_; conv => whnf)
    | (with_reducible refine br_or ?_; conv => whnf)
    | (refine br_eq2 ?_; conv => whnf)
    | (refine c_spec_l04Area.call ?_; conv => whnf)
    | (refine c_spec_l04Area.quiet ?_; conv => whnf)
    | (refine c_spec_l04Boundary.call ?_; conv => whnf)
    | (refine c_spec_l04Boundary.quiet ?_; conv => whnf)
    | (refine draw_auto (by decide +kernel) ?_; conv => whnf)
    | (refine draw_asg (by decide +kernel) ?_; conv => whnf)
    | (refine draw_st (by decide +kernel) ?_; conv => whnf)
    | (refine loop_n 12 ?_; conv => whnf)
    | (refine br_split (fun _ => ?_) (fun _ => ?_) <;> conv => whnf)
    | exact (rfl : (_ : Value) = _)
    | (simp only [*]; exact (rfl : (_ : Value) = _))
    | (simp [*]; done))

theorem c_of_BoundaryOf {a b c d e f : Int}  : Pure Try.prog n_impl_ofTriangle [tri a b c d e f, fnv n_impl_Triangle_boundary] (t2 (ii (selF (isTriF a b c d e f) (w64 (w64 (gcdF (plusF c (-1) a) (plusF d (-1) b) + gcdF (plusF e (-1) c) (plusF f (-1) d)) + gcdF (plusF a (-1) e) (plusF b (-1) f))) 0)) (ii (codeF (isTriF a b c d e f)))) := by
  refine pure_of good fn_impl_ofTriangle rfl rfl ?_
  conv => whnf
  all_goals (repeat' first
    | exact (by assumption : (_ : Bool) = (_ : Bool))
    | (refine br_true (by assumption) ?_; conv => whnf)
    | (refine br_false (by assumption) ?_; conv => whnf)
    | (refine br_not ?_; conv => whnf)
    | (refine br_code ?_; conv => whnf)
    | (with_reducible refine br_and ?_; conv => whnf)
    | (with_reducible refine br_or ?_; conv => whnf)
    | (refine br_eq2 ?_; conv => whnf)
    | (refine c_impl_IsTriangle.call ?_; conv => whnf)
    | (refine c_impl_IsTriangle.quiet ?_; conv => whnf)
    | (refine c_impl_Triangle_boundary.call ?_; conv => whnf)
    | (refine c_impl_Triangle_boundary.quiet ?_; conv => whnf)
    | (refine draw_auto (by decide +kernel) ?_; conv => whnf)
    | (refine draw_asg (by decide +kernel) ?_; conv => whnf)
    | (refine draw_st (by decide +kernel) ?_; conv => whnf)
    | (refine loop_n 12 ?_; conv => whnf)
    | (refine br_split (fun _ => ?_) (fun _ => ?_) <;> conv => whnf)
    | exact (rfl : (_ : Value) = _)
    | (simp only [*]; exact (rfl : (_ : Value) = _))
    | (simp [selF, codeF, *]; done))

theorem c_impl_BoundaryOf {a b c d e f : Int}  : Pure Try.prog n_impl_BoundaryOf [tri a b c d e f] (t2 (ii (selF (isTriF a b c d e f) (w64 (w64 (gcdF (plusF c (-1) a) (plusF d (-1) b) + gcdF (plusF e (-1) c) (plusF f (-1) d)) + gcdF (plusF a (-1) e) (plusF b (-1) f))) 0)) (ii (codeF (isTriF a b c d e f)))) := by
  refine pure_of good fn_impl_BoundaryOf rfl rfl ?_
  conv => whnf
  all_goals (repeat' first
    | exact (by assumption : (_ : Bool) = (_ : Bool))
    | (refine br_true (by assumption) ?_; conv => whnf)
    | (refine br_false (by assumption) ?_; conv => whnf)
    | (refine br_not ?_; conv => whnf)
    | (refine br_code ?_; conv => whnf)
    | (with_reducible refine br_and ?_; conv => whnf)
    | (with_reducible refine br_or ?_; conv => whnf)
    | (refine br_eq2 ?_; conv => whnf)
    | (refine c_of_AreaOfTriangle.call ?_; conv => whnf)
    | (refine c_of_AreaOfTriangle.quiet ?_; conv => whnf)
    | (refine c_of_BoundaryOf.call ?_; conv => whnf)
    | (refine c_of_BoundaryOf.quiet ?_; conv => whnf)
    | (refine c_impl_Triangle_boundary.call ?_; conv => whnf)
    | (refine c_impl_Triangle_boundary.quiet ?_; conv => whnf)
    | (refine draw_auto (by decide +kernel) ?_; conv => whnf)
    | (refine draw_asg (by decide +kernel) ?_; conv => whnf)
    | (refine draw_st (by decide +kernel) ?_; conv => whnf)
    | (refine loop_n 12 ?_; conv => whnf)
    | (refine br_split (fun _ => ?_) (fun _ => ?_) <;> conv => whnf)
    | exact (rfl : (_ : Value) = _)
    | (simp only [*]; exact (rfl : (_ : Value) = _))
    | (simp [*]; done))

theorem c_spec_BoundaryOf {a b c d e f : Int}  : Pure Try.prog n_spec_BoundaryOf [tri a b c d e f] (t2 (ii (selF (isTriF a b c d e f) (w64 (w64 (gcdF (plusF c (-1) a) (plusF d (-1) b) + gcdF (plusF e (-1) c) (plusF f (-1) d)) + gcdF (plusF a (-1) e) (plusF b (-1) f))) 0)) (ii (codeF (isTriF a b c d e f)))) := by
  refine pure_of good fn_spec_BoundaryOf rfl rfl ?_
  conv => whnf
  all_goals (repeat' first
    | exact (by assumption : (_ : Bool) = (_ : Bool))
    | (refine br_true (by assumption) ?_; conv => whnf)
    | (refine br_false (by assumption) ?_; conv => whnf)
    | (refine br_not ?_; conv => whnf)
    | (refine br_code ?_; conv => whnf)
    | (with_reducible refine br_and ?_; conv => whnf)
    | (with_reducible refine br_or ?_; conv => whnf)
    | (refine br_eq2 ?_; conv => whnf)
    | (refine c_spec_l04Is.call ?_; conv => whnf)
    | (refine c_spec_l04Is.quiet ?_; conv => whnf)
    | (refine c_spec_l04Boundary.call ?_; conv => whnf)
    | (refine c_spec_l04Boundary.quiet ?_; conv => whnf)
    | (refine draw_auto (by decide +kernel) ?_; conv => whnf)
    | (refine draw_asg (by decide +kernel) ?_; conv => whnf)
    | (refine draw_st (by decide +kernel) ?_; conv => whnf)
    | (refine loop_n 12 ?_; conv => whnf)
    | (refine br_split (fun _ => ?_) (fun _ => ?_) <;> conv => whnf)
    | exact (rfl : (_ : Value) = _)
    | (simp only [*]; exact (rfl : (_ : Value) = _))
    | (simp [selF, codeF, *]; done))

theorem c_laws_FnExactBoundaryOf {a b c d e f : Int}  : Pure Try.prog n_laws_FnExactBoundaryOf [tri a b c d e f] (bb true) := by
  refine pure_of good fn_laws_FnExactBoundaryOf rfl rfl ?_
  conv => whnf
  all_goals (repeat' first
    | (refine br_true ?_ ?_; (focus (simp; done)); conv => whnf)
    | (refine br_false ?_ ?_; (focus (simp; done)); conv => whnf)
    | exact (by assumption : (_ : Bool) = (_ : Bool))
    | (refine br_true (by assumption) ?_; conv => whnf)
    | (refine br_false (by assumption) ?_; conv => whnf)
    | (refine br_not ?_; conv => whnf)
    | (refine br_code ?_; conv => whnf)
    | (with_reducible refine br_and ?_; conv => whnf)
    | (with_reducible refine br_or ?_; conv => whnf)
    | (refine br_eq2 ?_; conv => whnf)
    | (refine c_laws_toTriangle.call ?_; conv => whnf)
    | (refine c_laws_toTriangle.quiet ?_; conv => whnf)
    | (refine c_spec_BoundaryOf.call ?_; conv => whnf)
    | (refine c_spec_BoundaryOf.quiet ?_; conv => whnf)
    | (refine c_impl_BoundaryOf.call ?_; conv => whnf)
    | (refine c_impl_BoundaryOf.quiet ?_; conv => whnf)
    | (refine draw_auto (by decide +kernel) ?_; conv => whnf)
    | (refine draw_asg (by decide +kernel) ?_; conv => whnf)
    | (refine draw_st (by decide +kernel) ?_; conv => whnf)
    | (refine loop_n 12 ?_; conv => whnf)
    | (refine br_split (fun _ => ?_) (fun _ => ?_) <;> conv => whnf)
    | exact (rfl : (_ : Value) = _)
    | (simp only [*]; exact (rfl : (_ : Value) = _))
    | (simp [*]; done))

theorem c_of_CountInner {a b c d e f : Int}  : Pure Try.prog n_impl_ofTriangle [tri a b c d e f, fnv n_impl_Triangle_inner] (t2 (ii (selF (isTriF a b c d e f) (w64 (w64 ((w64 (areaF a b c d e f - w64 (w64 (gcdF (plusF c (-1) a) (plusF d (-1) b) + gcdF (plusF e (-1) c) (plusF f (-1) d)) + gcdF (plusF a (-1) e) (plusF b (-1) f)))).tdiv 2) + 1)) 0)) (ii (codeF (isTriF a b c d e f)))) := by
  refine pure_of good fn_impl_ofTriangle rfl rfl ?_
  conv => whnf
  all_goals (repeat' first
    | exact (by assumption : (_ : Bool) = (_ : Bool))
    | (refine br_true (by assumption) ?_; conv => whnf)
    | (refine br_false (by assumption) ?_; conv => whnf)
    | (refine br_not ?_; conv => whnf)
    | (refine br_code ?_; conv => whnf)
    | (with_reducible refine br_and ?_; conv => whnf)
    | (with_reducible refine br_or ?_; conv => whnf)
    | (refine br_eq2 ?_; conv => whnf)
    | (refine c_impl_IsTriangle.call ?_; conv => whnf)
    | (refine c_impl_IsTriangle.quiet ?_; conv => whnf)
    | (refine c_impl_Triangle_inner.call ?_; conv => whnf)
    | (refine c_impl_Triangle_inner.quiet ?_; conv => whnf)
    | (refine draw_auto (by decide +kernel) ?_; conv => whnf)
    | (refine draw_asg (by decide +kernel) ?_; conv => whnf)
    | (refine draw_st (by decide +kernel) ?_; conv => whnf)
    | (refine loop_n 12 ?_; conv => whnf)
    | (refine br_split (fun _ => ?_) (fun _ => ?_) <;> conv => whnf)
    | exact (rfl : (_ : Value) = _)
    | (simp only [*]; exact (rfl : (_ : Value) = _))
    | (simp [selF, codeF, *]; done))

theorem c_impl_CountInner {a b c d e f : Int}  : Pure Try.prog n_impl_CountInner [tri a b c d e f] (t2 (ii (selF (isTriF a b c d e f) (w64 (w64 ((w64 (areaF a b c d e f - w64 (w64 (gcdF (plusF c (-1) a) (plusF d (-1) b) + gcdF (plusF e (-1) c) (plusF f (-1) d)) + gcdF (plusF a (-1) e) (plusF b (-1) f)))).tdiv 2) + 1)) 0)) (ii (codeF (isTriF a b c d e f)))) := by
  refine pure_of good fn_impl_CountInner rfl rfl ?_
  conv => whnf
  all_goals (repeat' first
    | exact (by assumption : (_ : Bool) = (_ : Bool))
    | (refine br_true (by assumption) ?_; conv => whnf)
    | (refine br_false (by assumption) ?_; conv => whnf)
    | (refine br_not ?_; conv => whnf)
    | (refine br_code ?_; conv => whnf)
    | (with_reducible refine br_and ?_; conv => whnf)
    | (with_reducible refine br_or ?_; conv => whnf)
    | (refine br_eq2 ?_; conv => whnf)
    | (refine c_of_AreaOfTriangle.call ?_; conv => whnf)
    | (refine c_of_AreaOfTriangle.quiet ?_; conv => whnf)
    | (refine c_of_BoundaryOf.call ?_; conv => whnf)
    | (refine c_of_BoundaryOf.quiet ?_; conv => whnf)
    | (refine c_of_CountInner.call ?_; conv => whnf)
    | (refine c_of_CountInner.quiet ?_; conv => whnf)
    | (refine c_impl_Triangle_inner.call ?_; conv => whnf)
    | (refine c_impl_Triangle_inner.quiet ?_; conv => whnf)
    | (refine draw_auto (by decide +kernel) ?_; conv => whnf)
    | (refine draw_asg (by decide +kernel) ?_; conv => whnf)
    | (refine draw_st (by decide +kernel) ?_; conv => whnf)
    | (refine loop_n 12 ?_; conv => whnf)
    | (refine br_split (fun _ => ?_) (fun _ => ?_) <;> conv => whnf)
    | exact (rfl : (_ : Value) = _)
    | (simp only [*]; exact (rfl : (_ : Value) = _))
    | (simp [*]; done))

theorem c_spec_CountInner {a b c d e f : Int}  : Pure Try.prog n_spec_CountInner [tri a b c d e f] (t2 (ii (selF (isTriF a b c d e f) (w64 (w64 ((w64 (areaF a b c d e f - w64 (w64 (gcdF (plusF c (-1) a) (plusF d (-1) b) + gcdF (plusF e (-1) c) (plusF f (-1) d)) + gcdF (plusF a (-1) e) (plusF b (-1) f)))).tdiv 2) + 1)) 0)) (ii (codeF (isTriF a b c d e f)))) := by
  refine pure_of good fn_spec_CountInner rfl rfl ?_
  conv => whnf
  all_goals (repeat' first
    | exact (by assumption : (_ : Bool) = (_ : Bool))
    | (refine br_true (by assumption) ?_; conv => whnf)
    | (refine br_false (by assumption) ?_; conv => whnf)
    | (refine br_not ?_; conv => whnf)
    | (refine br_code ?_; conv => whnf)
    | (with_reducible refine br_and ?_; conv => whnf)
    | (with_reducible refine br_or ?_; conv => whnf)
    | (refine br_eq2 ?_; conv => whnf)
    | (refine c_spec_l04Is.call ?_; conv => whnf)
    | (refine c_spec_l04Is.quiet ?_; conv => whnf)
    | (refine c_spec_l04Inner.call ?_; conv => whnf)
    | (refine c_spec_l04Inner.quiet ?_; conv => whnf)
    | (refine draw_auto (by decide +kernel) ?_; conv => whnf)
    | (refine draw_asg (by decide +kernel) ?_; conv => whnf)
    | (refine draw_st (by decide +kernel) ?_; conv => whnf)
    | (refine loop_n 12 ?_; conv => whnf)
    | (refine br_split (fun _ => ?_) (fun _ => ?_) <;> conv => whnf)
    | exact (rfl : (_ : Value) = _)
    | (simp only [*]; exact (rfl : (_ : Value) = _))
    | (simp [selF, codeF, *]; done))

theorem c_laws_FnExactCountInner {a b c d e f : Int}  : Pure Try.prog n_laws_FnExactCountInner [tri a b c d e f] (bb true) := by
  refine pure_of good fn_laws_FnExactCountInner rfl rfl ?_
  conv => whnf
  all_goals (repeat' first
    | (refine br_true ?_ ?_; (focus (simp; done)); conv => whnf)
    | (refine br_false ?_ ?_; (focus (simp; done)); conv => whnf)
    | exact (by assumption : (_ : Bool) = (_ : Bool))
    | (refine br_true (by assumption) ?_; conv => whnf)
    | (refine br_false (by assumption) ?_; conv => whnf)
    | (refine br_not ?_; conv => whnf)
    | (refine br_code ?_; conv => whnf)
    | (with_reducible refine br_and ?_; conv => whnf)
    | (with_reducible refine br_or ?_; conv => whnf)
    | (refine br_eq2 ?_; conv => whnf)
    | (refine c_laws_toTriangle.call ?_; conv => whnf)
    | (refine c_laws_toTriangle.quiet ?_; conv => whnf)
    | (refine c_spec_CountInner.call ?_; conv => whnf)
    | (refine c_spec_CountInner.quiet ?_; conv => whnf)
    | (refine c_impl_CountInner.call ?_; conv => whnf)
    | (refine c_impl_CountInner.quiet ?_; conv => whnf)
    | (refine draw_auto (by decide +kernel) ?_; conv => whnf)
    | (refine draw_asg (by decide +kernel) ?_; conv => whnf)
    | (refine draw_st (by decide +kernel) ?_; conv => whnf)
    | (refine loop_n 12 ?_; conv => whnf)
    | (refine br_split (fun _ => ?_) (fun _ => ?_) <;> conv => whnf)
    | exact (rfl : (_ : Value) = _)
    | (simp only [*]; exact (rfl : (_ : Value) = _))
    | (simp [*]; done))

theorem c_impl_DistanceOf {a b c d e f : Int}  : Pure Try.prog n_impl_DistanceOf [pt a b, pt c d, pt e f] (t2 (ii (selF (isPtF a b && isPtF c d && isPtF e f) (selF (decide (a = c) && decide (b = d)) 0 (w64 ((areaF a b c d e f).tdiv (gcdF (plusF c (-1) a) (plusF d (-1) b))))) 0)) (ii (selF (isPtF a b && isPtF c d && isPtF e f) (selF (decide (a = c) && decide (b = d)) 5 0) 1))) := by
  refine pure_of good fn_impl_DistanceOf rfl rfl ?_
  conv => whnf
  all_goals (repeat' first
    | (refine br_false (dist_ne (by simp_all) (by simp_all) (fun he => by simp_all)) ?_; conv => whnf)
    | (with_reducible refine br_and ?_; conv => whnf)
    | exact (by assumption : (_ : Bool) = (_ : Bool))
    | (refine br_true (by assumption) ?_; conv => whnf)
    | (refine br_false (by assumption) ?_; conv => whnf)
    | (refine br_not ?_; conv => whnf)
    | (refine br_code ?_; conv => whnf)
    | (with_reducible refine br_and ?_; conv => whnf)
    | (with_reducible refine br_or ?_; conv => whnf)
    | (refine br_eq2 ?_; conv => whnf)
    | (refine c_points_2.call1 rfl rfl ⟨_, rfl⟩ ?_; conv => whnf)
    | (refine c_points_2.quiet1 rfl rfl ⟨_, rfl⟩ ?_; conv => whnf)
    | (refine c_points_3.call1 rfl rfl ⟨_, rfl⟩ ?_; conv => whnf)
    | (refine c_points_3.quiet1 rfl rfl ⟨_, rfl⟩ ?_; conv => whnf)
    | (refine c_impl_area.call ?_; conv => whnf)
    | (refine c_impl_area.quiet ?_; conv => whnf)
    | (refine c_impl_Point_less.call ?_; conv => whnf)
    | (refine c_impl_Point_less.quiet ?_; conv => whnf)
    | (refine c_impl_Point_length.call ?_; conv => whnf)
    | (refine c_impl_Point_length.quiet ?_; conv => whnf)
    | (refine draw_auto (by decide +kernel) ?_; conv => whnf)
    | (refine draw_asg (by decide +kernel) ?_; conv => whnf)
    | (refine draw_st (by decide +kernel) ?_; conv => whnf)
    | (refine loop_n 12 ?_; conv => whnf)
    | (refine br_split (fun _ => ?_) (fun _ => ?_) <;> conv => whnf)
    | exact (rfl : (_ : Value) = _)
    | (simp only [*]; exact (rfl : (_ : Value) = _))
    | (simp [selF, codeF, *]; done))

theorem c_spec_DistanceOf {a b c d e f : Int}  : Pure Try.prog n_spec_DistanceOf [pt a b, pt c d, pt e f] (t2 (ii (selF (isPtF a b && isPtF c d && isPtF e f) (selF (decide (a = c) && decide (b = d)) 0 (w64 ((areaF a b c d e f).tdiv (gcdF (plusF c (-1) a) (plusF d (-1) b))))) 0)) (ii (selF (isPtF a b && isPtF c d && isPtF e f) (selF (decide (a = c) && decide (b = d)) 5 0) 1))) := by
  refine pure_of good fn_spec_DistanceOf rfl rfl ?_
  conv => whnf
  all_goals (repeat' first
    | (refine br_false (dist_ne (by simp_all) (by simp_all) (fun he => by simp_all)) ?_; conv => whnf)
    | (with_reducible refine br_and ?_; conv => whnf)
    | exact (by assumption : (_ : Bool) = (_ : Bool))
    | (refine br_true (by assumption) ?_; conv => whnf)
    | (refine br_false (by assumption) ?_; conv => whnf)
    | (refine br_not ?_; conv => whnf)
    | (refine br_code ?_; conv => whnf)
    | (with_reducible refine br_and ?_; conv => whnf)
    | (with_reducible refine br_or ?_; conv => whnf)
    | (refine br_eq2 ?_; conv => whnf)
    | (refine c_code_2.call1 rfl rfl ⟨_, rfl⟩ ?_; conv => whnf)
    | (refine c_code_2.quiet1 rfl rfl ⟨_, rfl⟩ ?_; conv => whnf)
    | (refine c_code_3.call1 rfl rfl ⟨_, rfl⟩ ?_; conv => whnf)
    | (refine c_code_3.quiet1 rfl rfl ⟨_, rfl⟩ ?_; conv => whnf)
    | (refine c_spec_l01Area.call ?_; conv => whnf)
    | (refine c_spec_l01Area.quiet ?_; conv => whnf)
    | (refine c_spec_l01Length.call ?_; conv => whnf)
    | (refine c_spec_l01Length.quiet ?_; conv => whnf)
    | (refine draw_auto (by decide +kernel) ?_; conv => whnf)
    | (refine draw_asg (by decide +kernel) ?_; conv => whnf)
    | (refine draw_st (by decide +kernel) ?_; conv => whnf)
    | (refine loop_n 12 ?_; conv => whnf)
    | (refine br_split (fun _ => ?_) (fun _ => ?_) <;> conv => whnf)
    | exact (rfl : (_ : Value) = _)
    | (simp only [*]; exact (rfl : (_ : Value) = _))
    | (simp [selF, codeF, *]; done))

theorem c_laws_FnExactDistanceOf {a b c d e f : Int}  : Pure Try.prog n_laws_FnExactDistanceOf [pt a b, pt c d, pt e f] (bb true) := by
  refine pure_of good fn_laws_FnExactDistanceOf rfl rfl ?_
  conv => whnf
  all_goals (repeat' first
    | (refine br_true ?_ ?_; (focus (simp; done)); conv => whnf)
    | (refine br_false ?_ ?_; (focus (simp; done)); conv => whnf)
    | exact (by assumption : (_ : Bool) = (_ : Bool))
    | (refine br_true (by assumption) ?_; conv => whnf)
    | (refine br_false (by assumption) ?_; conv => whnf)
    | (refine br_not ?_; conv => whnf)
    | (refine br_code ?_; conv => whnf)
    | (with_reducible refine br_and ?_; conv => whnf)
    | (with_reducible refine br_or ?_; conv => whnf)
    | (refine br_eq2 ?_; conv => whnf)
    | (refine c_laws_toPoint.call ?_; conv => whnf)
    | (refine c_laws_toPoint.quiet ?_; conv => whnf)
    | (refine c_spec_DistanceOf.call ?_; conv => whnf)
    | (refine c_spec_DistanceOf.quiet ?_; conv => whnf)
    | (refine c_impl_DistanceOf.call ?_; conv => whnf)
    | (refine c_impl_DistanceOf.quiet ?_; conv => whnf)
    | (refine draw_auto (by decide +kernel) ?_; conv => whnf)
    | (refine draw_asg (by decide +kernel) ?_; conv => whnf)
    | (refine draw_st (by decide +kernel) ?_; conv => whnf)
    | (refine loop_n 12 ?_; conv => whnf)
    | (refine br_split (fun _ => ?_) (fun _ => ?_) <;> conv => whnf)
    | exact (rfl : (_ : Value) = _)
    | (simp only [*]; exact (rfl : (_ : Value) = _))
    | (simp [*]; done))

theorem c_impl_MultipleOf {a b c d e f k : Int}  : Pure Try.prog n_impl_MultipleOf [tri a b c d e f, ii k] (t2 (tri (selF (isTriF a b c d e f) (selF (inF k 1 1000) (selF (isTriF (w64 (k * a)) (w64 (k * b)) (w64 (k * c)) (w64 (k * d)) (w64 (k * e)) (w64 (k * f))) (w64 (k * a)) 0) 0) 0) (selF (isTriF a b c d e f) (selF (inF k 1 1000) (selF (isTriF (w64 (k * a)) (w64 (k * b)) (w64 (k * c)) (w64 (k * d)) (w64 (k * e)) (w64 (k * f))) (w64 (k * b)) 0) 0) 0) (selF (isTriF a b c d e f) (selF (inF k 1 1000) (selF (isTriF (w64 (k * a)) (w64 (k * b)) (w64 (k * c)) (w64 (k * d)) (w64 (k * e)) (w64 (k * f))) (w64 (k * c)) 0) 0) 0) (selF (isTriF a b c d e f) (selF (inF k 1 1000) (selF (isTriF (w64 (k * a)) (w64 (k * b)) (w64 (k * c)) (w64 (k * d)) (w64 (k * e)) (w64 (k * f))) (w64 (k * d)) 0) 0) 0) (selF (isTriF a b c d e f) (selF (inF k 1 1000) (selF (isTriF (w64 (k * a)) (w64 (k * b)) (w64 (k * c)) (w64 (k * d)) (w64 (k * e)) (w64 (k * f))) (w64 (k * e)) 0) 0) 0) (selF (isTriF a b c d e f) (selF (inF k 1 1000) (selF (isTriF (w64 (k * a)) (w64 (k * b)) (w64 (k * c)) (w64 (k * d)) (w64 (k * e)) (w64 (k * f))) (w64 (k * f)) 0) 0) 0)) (ii (selF (isTriF a b c d e f) (selF (inF k 1 1000) (selF (isTriF (w64 (k * a)) (w64 (k * b)) (w64 (k * c)) (w64 (k * d)) (w64 (k * e)) (w64 (k * f))) 0 3) 2) 1))) := by
  refine pure_of good fn_impl_MultipleOf rfl rfl ?_
  conv => whnf
  all_goals (repeat' first
    | exact (by assumption : (_ : Bool) = (_ : Bool))
    | (refine br_true (by assumption) ?_; conv => whnf)
    | (refine br_false (by assumption) ?_; conv => whnf)
    | (refine br_not ?_; conv => whnf)
    | (refine br_code ?_; conv => whnf)
    | (with_reducible refine br_and ?_; conv => whnf)
    | (with_reducible refine br_or ?_; conv => whnf)
    | (refine br_eq2 ?_; conv => whnf)
    | (refine c_impl_IsTriangle.call ?_; conv => whnf)
    | (refine c_impl_IsTriangle.quiet ?_; conv => whnf)
    | (refine c_impl_in.call ?_; conv => whnf)
    | (refine c_impl_in.quiet ?_; conv => whnf)
    | (refine c_impl_Point_plus.call ?_; conv => whnf)
    | (refine c_impl_Point_plus.quiet ?_; conv => whnf)
    | (refine draw_auto (by decide +kernel) ?_; conv => whnf)
    | (refine draw_asg (by decide +kernel) ?_; conv => whnf)
    | (refine draw_st (by decide +kernel) ?_; conv => whnf)
    | (refine loop_n 12 ?_; conv => whnf)
    | (refine br_split (fun _ => ?_) (fun _ => ?_) <;> conv => whnf)
    | exact (rfl : (_ : Value) = _)
    | (simp only [plusF_zero] at *; simp [selF, *]; done)
    | (simp only [*]; exact (rfl : (_ : Value) = _))
    | (simp [selF, *]; done))

theorem c_spec_MultipleOf {a b c d e f k : Int}  : Pure Try.prog n_spec_MultipleOf [tri a b c d e f, ii k] (t2 (tri (selF (isTriF a b c d e f) (selF (inF k 1 1000) (selF (isTriF (w64 (k * a)) (w64 (k * b)) (w64 (k * c)) (w64 (k * d)) (w64 (k * e)) (w64 (k * f))) (w64 (k * a)) 0) 0) 0) (selF (isTriF a b c d e f) (selF (inF k 1 1000) (selF (isTriF (w64 (k * a)) (w64 (k * b)) (w64 (k * c)) (w64 (k * d)) (w64 (k * e)) (w64 (k * f))) (w64 (k * b)) 0) 0) 0) (selF (isTriF a b c d e f) (selF (inF k 1 1000) (selF (isTriF (w64 (k * a)) (w64 (k * b)) (w64 (k * c)) (w64 (k * d)) (w64 (k * e)) (w64 (k * f))) (w64 (k * c)) 0) 0) 0) (selF (isTriF a b c d e f) (selF (inF k 1 1000) (selF (isTriF (w64 (k * a)) (w64 (k * b)) (w64 (k * c)) (w64 (k * d)) (w64 (k * e)) (w64 (k * f))) (w64 (k * d)) 0) 0) 0) (selF (isTriF a b c d e f) (selF (inF k 1 1000) (selF (isTriF (w64 (k * a)) (w64 (k * b)) (w64 (k * c)) (w64 (k * d)) (w64 (k * e)) (w64 (k * f))) (w64 (k * e)) 0) 0) 0) (selF (isTriF a b c d e f) (selF (inF k 1 1000) (selF (isTriF (w64 (k * a)) (w64 (k * b)) (w64 (k * c)) (w64 (k * d)) (w64 (k * e)) (w64 (k * f))) (w64 (k * f)) 0) 0) 0)) (ii (selF (isTriF a b c d e f) (selF (inF k 1 1000) (selF (isTriF (w64 (k * a)) (w64 (k * b)) (w64 (k * c)) (w64 (k * d)) (w64 (k * e)) (w64 (k * f))) 0 3) 2) 1))) := by
  refine pure_of good fn_spec_MultipleOf rfl rfl ?_
  conv => whnf
  all_goals (repeat' first
    | exact (by assumption : (_ : Bool) = (_ : Bool))
    | (refine br_true (by assumption) ?_; conv => whnf)
    | (refine br_false (by assumption) ?_; conv => whnf)
    | (refine br_not ?_; conv => whnf)
    | (refine br_code ?_; conv => whnf)
    | (with_reducible refine br_and ?_; conv => whnf)
    | (with_reducible refine br_or ?_; conv => whnf)
    | (refine br_eq2 ?_; conv => whnf)
    | (refine c_spec_l04Is.call ?_; conv => whnf)
    | (refine c_spec_l04Is.quiet ?_; conv => whnf)
    | (refine c_spec_l01In.call ?_; conv => whnf)
    | (refine c_spec_l01In.quiet ?_; conv => whnf)
    | (refine draw_auto (by decide +kernel) ?_; conv => whnf)
    | (refine draw_asg (by decide +kernel) ?_; conv => whnf)
    | (refine draw_st (by decide +kernel) ?_; conv => whnf)
    | (refine loop_n 12 ?_; conv => whnf)
    | (refine br_split (fun _ => ?_) (fun _ => ?_) <;> conv => whnf)
    | exact (rfl : (_ : Value) = _)
    | (simp only [*]; exact (rfl : (_ : Value) = _))
    | (simp [selF, *]; done))

theorem c_eqTriangle_same {a b c d e f : Int}  : Pure Try.prog n_laws_eqTriangle [tri a b c d e f, tri a b c d e f] (bb true) := by
  refine pure_of good fn_laws_eqTriangle rfl rfl ?_
  conv => whnf
  all_goals (repeat' first
    | (refine br_true ?_ ?_; (focus (simp; done)); conv => whnf)
    | (refine br_false ?_ ?_; (focus (simp; done)); conv => whnf)
    | exact (by assumption : (_ : Bool) = (_ : Bool))
    | (refine br_true (by assumption) ?_; conv => whnf)
    | (refine br_false (by assumption) ?_; conv => whnf)
    | (refine br_not ?_; conv => whnf)
    | (refine br_code ?_; conv => whnf)
    | (with_reducible refine br_and ?_; conv => whnf)
    | (with_reducible refine br_or ?_; conv => whnf)
    | (refine br_eq2 ?_; conv => whnf)
    | (refine c_laws_eqPoint.call ?_; conv => whnf)
    | (refine c_laws_eqPoint.quiet ?_; conv => whnf)
    | (refine draw_auto (by decide +kernel) ?_; conv => whnf)
    | (refine draw_asg (by decide +kernel) ?_; conv => whnf)
    | (refine draw_st (by decide +kernel) ?_; conv => whnf)
    | (refine loop_n 12 ?_; conv => whnf)
    | (refine br_split (fun _ => ?_) (fun _ => ?_) <;> conv => whnf)
    | exact (rfl : (_ : Value) = _)
    | (simp only [*]; exact (rfl : (_ : Value) = _))
    | (simp [*]; done))

theorem c_laws_FnExactMultipleOf {a b c d e f k : Int}  : Pure Try.prog n_laws_FnExactMultipleOf [tri a b c d e f, ii k] (bb true) := by
  refine pure_of good fn_laws_FnExactMultipleOf rfl rfl ?_
  conv => whnf
  all_goals (repeat' first
    | (refine br_true ?_ ?_; (focus (simp; done)); conv => whnf)
    | (refine br_false ?_ ?_; (focus (simp; done)); conv => whnf)
    | exact (by assumption : (_ : Bool) = (_ : Bool))
    | (refine br_true (by assumption) ?_; conv => whnf)
    | (refine br_false (by assumption) ?_; conv => whnf)
    | (refine br_not ?_; conv => whnf)
    | (refine br_code ?_; conv => whnf)
    | (with_reducible refine br_and ?_; conv => whnf)
    | (with_reducible refine br_or ?_; conv => whnf)
    | (refine br_eq2 ?_; conv => whnf)
    | (refine c_laws_toTriangle.call ?_; conv => whnf)
    | (refine c_laws_toTriangle.quiet ?_; conv => whnf)
    | (refine c_spec_MultipleOf.call ?_; conv => whnf)
    | (refine c_spec_MultipleOf.quiet ?_; conv => whnf)
    | (refine c_impl_MultipleOf.call ?_; conv => whnf)
    | (refine c_impl_MultipleOf.quiet ?_; conv => whnf)
    | (refine c_eqTriangle_same.call ?_; conv => whnf)
    | (refine c_eqTriangle_same.quiet ?_; conv => whnf)
    | (refine draw_auto (by decide +kernel) ?_; conv => whnf)
    | (refine draw_asg (by decide +kernel) ?_; conv => whnf)
    | (refine draw_st (by decide +kernel) ?_; conv => whnf)
    | (refine loop_n 12 ?_; conv => whnf)
    | (refine br_split (fun _ => ?_) (fun _ => ?_) <;> conv => whnf)
    | exact (rfl : (_ : Value) = _)
    | (simp only [*]; exact (rfl : (_ : Value) = _))
    | (simp [*]; done))

end Go.Proofs.Ytepmlacfaffmmaa
