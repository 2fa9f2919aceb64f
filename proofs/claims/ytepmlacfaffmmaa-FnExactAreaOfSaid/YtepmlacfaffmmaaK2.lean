/-
  Contracts of functions of the program (printed by a program of this work; Lean checks each).
  Conditions: as each contract states.
-/
import Derived.Test.YtepmlacfaffmmaaK1
namespace Go.Proofs.Ytepmlacfaffmmaa
open Go.Ev Go.RowKit
set_option maxRecDepth 100000
set_option linter.unusedVariables false
set_option linter.unusedSimpArgs false

theorem c_impl_small {a b : Int}  : Pure Try.prog n_impl_small [pt a b] (bb (smallF a b)) := by
  refine pure_of good fn_impl_small rfl rfl ?_
  conv => whnf
  all_goals (repeat' first
    | (refine br_true (by assumption) ?_; conv => whnf)
    | (refine br_false (by assumption) ?_; conv => whnf)
    | (refine br_not ?_; conv => whnf)
    | (refine br_code ?_; conv => whnf)
    | (refine c_impl_in.call ?_; conv => whnf)
    | (refine c_impl_in.quiet ?_; conv => whnf)
    | (refine draw_auto (by decide +kernel) ?_; conv => whnf)
    | (refine loop_n 12 ?_; conv => whnf)
    | (refine br_split (fun _ => ?_) (fun _ => ?_) <;> conv => whnf)
    | exact (rfl : (_ : Value) = _)
    | (simp only [*]; exact (rfl : (_ : Value) = _))
    | (simp [smallF, *]; done))

theorem c_impl_IsTriangle {a b c d e f : Int}  : Pure Try.prog n_impl_IsTriangle [tri a b c d e f] (bb (isTriF a b c d e f)) := by
  refine pure_of good fn_impl_IsTriangle rfl rfl ?_
  conv => whnf
  all_goals (repeat' first
    | (refine br_true (by assumption) ?_; conv => whnf)
    | (refine br_false (by assumption) ?_; conv => whnf)
    | (refine br_not ?_; conv => whnf)
    | (refine br_code ?_; conv => whnf)
    | (refine c_impl_small.call ?_; conv => whnf)
    | (refine c_impl_small.quiet ?_; conv => whnf)
    | (refine c_impl_area.call ?_; conv => whnf)
    | (refine c_impl_area.quiet ?_; conv => whnf)
    | (refine draw_auto (by decide +kernel) ?_; conv => whnf)
    | (refine loop_n 12 ?_; conv => whnf)
    | (refine br_split (fun _ => ?_) (fun _ => ?_) <;> conv => whnf)
    | exact (rfl : (_ : Value) = _)
    | (simp only [*]; exact (rfl : (_ : Value) = _))
    | (simp [isTriF, *]; done))

theorem c_spec_l04Is {a b c d e f : Int}  : Pure Try.prog n_spec_l04Is [tri a b c d e f] (bb (isTriF a b c d e f)) := by
  refine pure_of good fn_spec_l04Is rfl rfl ?_
  conv => whnf
  all_goals (repeat' first
    | (refine br_true (by assumption) ?_; conv => whnf)
    | (refine br_false (by assumption) ?_; conv => whnf)
    | (refine br_not ?_; conv => whnf)
    | (refine br_code ?_; conv => whnf)
    | (refine c_spec_l01In.call ?_; conv => whnf)
    | (refine c_spec_l01In.quiet ?_; conv => whnf)
    | (refine c_spec_l01Area.call ?_; conv => whnf)
    | (refine c_spec_l01Area.quiet ?_; conv => whnf)
    | (refine draw_auto (by decide +kernel) ?_; conv => whnf)
    | (refine loop_n 12 ?_; conv => whnf)
    | (refine br_split (fun _ => ?_) (fun _ => ?_) <;> conv => whnf)
    | exact (rfl : (_ : Value) = _)
    | (simp only [*]; exact (rfl : (_ : Value) = _))
    | (simp [isTriF, smallF, *]; done))

theorem c_spec_IsTriangle {a b c d e f : Int}  : Pure Try.prog n_spec_IsTriangle [tri a b c d e f] (bb (isTriF a b c d e f)) := by
  refine pure_of good fn_spec_IsTriangle rfl rfl ?_
  conv => whnf
  all_goals (repeat' first
    | (refine br_true (by assumption) ?_; conv => whnf)
    | (refine br_false (by assumption) ?_; conv => whnf)
    | (refine br_not ?_; conv => whnf)
    | (refine br_code ?_; conv => whnf)
    | (refine c_spec_l04Is.call ?_; conv => whnf)
    | (refine c_spec_l04Is.quiet ?_; conv => whnf)
    | (refine draw_auto (by decide +kernel) ?_; conv => whnf)
    | (refine loop_n 12 ?_; conv => whnf)
    | (refine br_split (fun _ => ?_) (fun _ => ?_) <;> conv => whnf)
    | exact (rfl : (_ : Value) = _)
    | (simp only [*]; exact (rfl : (_ : Value) = _))
    | (simp [*]; done))

theorem c_laws_FnExactIsTriangle {a b c d e f : Int}  : Pure Try.prog n_laws_FnExactIsTriangle [tri a b c d e f] (bb true) := by
  refine pure_of good fn_laws_FnExactIsTriangle rfl rfl ?_
  conv => whnf
  all_goals (repeat' first
    | (refine br_true ?_ ?_; (focus (simp; done)); conv => whnf)
    | (refine br_false ?_ ?_; (focus (simp; done)); conv => whnf)
    | (refine br_true (by assumption) ?_; conv => whnf)
    | (refine br_false (by assumption) ?_; conv => whnf)
    | (refine br_not ?_; conv => whnf)
    | (refine br_code ?_; conv => whnf)
    | (refine c_laws_toTriangle.call ?_; conv => whnf)
    | (refine c_laws_toTriangle.quiet ?_; conv => whnf)
    | (refine c_spec_IsTriangle.call ?_; conv => whnf)
    | (refine c_spec_IsTriangle.quiet ?_; conv => whnf)
    | (refine c_impl_IsTriangle.call ?_; conv => whnf)
    | (refine c_impl_IsTriangle.quiet ?_; conv => whnf)
    | (refine draw_auto (by decide +kernel) ?_; conv => whnf)
    | (refine loop_n 12 ?_; conv => whnf)
    | (refine br_split (fun _ => ?_) (fun _ => ?_) <;> conv => whnf)
    | exact (rfl : (_ : Value) = _)
    | (simp only [*]; exact (rfl : (_ : Value) = _))
    | (simp [*]; done))

theorem c_impl_Triangle_area {a b c d e f : Int}  : Pure Try.prog n_impl_Triangle_area [tri a b c d e f] (ii (areaF a b c d e f)) := by
  refine pure_of good fn_impl_Triangle_area rfl rfl ?_
  conv => whnf
  all_goals (repeat' first
    | (refine br_true (by assumption) ?_; conv => whnf)
    | (refine br_false (by assumption) ?_; conv => whnf)
    | (refine br_not ?_; conv => whnf)
    | (refine br_code ?_; conv => whnf)
    | (refine c_impl_area.call ?_; conv => whnf)
    | (refine c_impl_area.quiet ?_; conv => whnf)
    | (refine draw_auto (by decide +kernel) ?_; conv => whnf)
    | (refine loop_n 12 ?_; conv => whnf)
    | (refine br_split (fun _ => ?_) (fun _ => ?_) <;> conv => whnf)
    | exact (rfl : (_ : Value) = _)
    | (simp only [*]; exact (rfl : (_ : Value) = _))
    | (simp [*]; done))

theorem c_spec_l04Area {a b c d e f : Int}  : Pure Try.prog n_spec_l04Area [tri a b c d e f] (ii (areaF a b c d e f)) := by
  refine pure_of good fn_spec_l04Area rfl rfl ?_
  conv => whnf
  all_goals (repeat' first
    | (refine br_true (by assumption) ?_; conv => whnf)
    | (refine br_false (by assumption) ?_; conv => whnf)
    | (refine br_not ?_; conv => whnf)
    | (refine br_code ?_; conv => whnf)
    | (refine c_spec_l01Area.call ?_; conv => whnf)
    | (refine c_spec_l01Area.quiet ?_; conv => whnf)
    | (refine draw_auto (by decide +kernel) ?_; conv => whnf)
    | (refine loop_n 12 ?_; conv => whnf)
    | (refine br_split (fun _ => ?_) (fun _ => ?_) <;> conv => whnf)
    | exact (rfl : (_ : Value) = _)
    | (simp only [*]; exact (rfl : (_ : Value) = _))
    | (simp [*]; done))

theorem c_of_AreaOfTriangle {a b c d e f : Int}  : Pure Try.prog n_impl_ofTriangle [tri a b c d e f, fnv n_impl_Triangle_area] (t2 (ii (selF (isTriF a b c d e f) (areaF a b c d e f) 0)) (ii (codeF (isTriF a b c d e f)))) := by
  refine pure_of good fn_impl_ofTriangle rfl rfl ?_
  conv => whnf
  all_goals (repeat' first
    | (refine br_true (by assumption) ?_; conv => whnf)
    | (refine br_false (by assumption) ?_; conv => whnf)
    | (refine br_not ?_; conv => whnf)
    | (refine br_code ?_; conv => whnf)
    | (refine c_impl_IsTriangle.call ?_; conv => whnf)
    | (refine c_impl_IsTriangle.quiet ?_; conv => whnf)
    | (refine c_impl_Triangle_area.call ?_; conv => whnf)
    | (refine c_impl_Triangle_area.quiet ?_; conv => whnf)
    | (refine draw_auto (by decide +kernel) ?_; conv => whnf)
    | (refine loop_n 12 ?_; conv => whnf)
    | (refine br_split (fun _ => ?_) (fun _ => ?_) <;> conv => whnf)
    | exact (rfl : (_ : Value) = _)
    | (simp only [*]; exact (rfl : (_ : Value) = _))
    | (simp [selF, codeF, *]; done))

theorem c_impl_AreaOfTriangle {a b c d e f : Int}  : Pure Try.prog n_impl_AreaOfTriangle [tri a b c d e f] (t2 (ii (selF (isTriF a b c d e f) (areaF a b c d e f) 0)) (ii (codeF (isTriF a b c d e f)))) := by
  refine pure_of good fn_impl_AreaOfTriangle rfl rfl ?_
  conv => whnf
  all_goals (repeat' first
    | (refine br_true (by assumption) ?_; conv => whnf)
    | (refine br_false (by assumption) ?_; conv => whnf)
    | (refine br_not ?_; conv => whnf)
    | (refine br_code ?_; conv => whnf)
    | (refine c_of_AreaOfTriangle.call ?_; conv => whnf)
    | (refine c_of_AreaOfTriangle.quiet ?_; conv => whnf)
    | (refine c_impl_Triangle_area.call ?_; conv => whnf)
    | (refine c_impl_Triangle_area.quiet ?_; conv => whnf)
    | (refine draw_auto (by decide +kernel) ?_; conv => whnf)
    | (refine loop_n 12 ?_; conv => whnf)
    | (refine br_split (fun _ => ?_) (fun _ => ?_) <;> conv => whnf)
    | exact (rfl : (_ : Value) = _)
    | (simp only [*]; exact (rfl : (_ : Value) = _))
    | (simp [*]; done))

theorem c_spec_AreaOfTriangle {a b c d e f : Int}  : Pure Try.prog n_spec_AreaOfTriangle [tri a b c d e f] (t2 (ii (selF (isTriF a b c d e f) (areaF a b c d e f) 0)) (ii (codeF (isTriF a b c d e f)))) := by
  refine pure_of good fn_spec_AreaOfTriangle rfl rfl ?_
  conv => whnf
  all_goals (repeat' first
    | (refine br_true (by assumption) ?_; conv => whnf)
    | (refine br_false (by assumption) ?_; conv => whnf)
    | (refine br_not ?_; conv => whnf)
    | (refine br_code ?_; conv => whnf)
    | (refine c_spec_l04Is.call ?_; conv => whnf)
    | (refine c_spec_l04Is.quiet ?_; conv => whnf)
    | (refine c_spec_l04Area.call ?_; conv => whnf)
    | (refine c_spec_l04Area.quiet ?_; conv => whnf)
    | (refine draw_auto (by decide +kernel) ?_; conv => whnf)
    | (refine loop_n 12 ?_; conv => whnf)
    | (refine br_split (fun _ => ?_) (fun _ => ?_) <;> conv => whnf)
    | exact (rfl : (_ : Value) = _)
    | (simp only [*]; exact (rfl : (_ : Value) = _))
    | (simp [selF, codeF, *]; done))

theorem c_laws_FnExactAreaOfTriangle {a b c d e f : Int}  : Pure Try.prog n_laws_FnExactAreaOfTriangle [tri a b c d e f] (bb true) := by
  refine pure_of good fn_laws_FnExactAreaOfTriangle rfl rfl ?_
  conv => whnf
  all_goals (repeat' first
    | (refine br_true ?_ ?_; (focus (simp; done)); conv => whnf)
    | (refine br_false ?_ ?_; (focus (simp; done)); conv => whnf)
    | (refine br_true (by assumption) ?_; conv => whnf)
    | (refine br_false (by assumption) ?_; conv => whnf)
    | (refine br_not ?_; conv => whnf)
    | (refine br_code ?_; conv => whnf)
    | (refine c_laws_toTriangle.call ?_; conv => whnf)
    | (refine c_laws_toTriangle.quiet ?_; conv => whnf)
    | (refine c_spec_AreaOfTriangle.call ?_; conv => whnf)
    | (refine c_spec_AreaOfTriangle.quiet ?_; conv => whnf)
    | (refine c_impl_AreaOfTriangle.call ?_; conv => whnf)
    | (refine c_impl_AreaOfTriangle.quiet ?_; conv => whnf)
    | (refine draw_auto (by decide +kernel) ?_; conv => whnf)
    | (refine loop_n 12 ?_; conv => whnf)
    | (refine br_split (fun _ => ?_) (fun _ => ?_) <;> conv => whnf)
    | exact (rfl : (_ : Value) = _)
    | (simp only [*]; exact (rfl : (_ : Value) = _))
    | (simp [*]; done))

theorem c_impl_AreaOf {a b c d e f : Int}  : Pure Try.prog n_impl_AreaOf [pt a b, pt c d, pt e f] (t2 (ii (selF (isPtF a b && isPtF c d && isPtF e f) (areaF a b c d e f) 0)) (ii (codeF (isPtF a b && isPtF c d && isPtF e f)))) := by
  refine pure_of good fn_impl_AreaOf rfl rfl ?_
  conv => whnf
  all_goals (repeat' first
    | (refine br_true (by assumption) ?_; conv => whnf)
    | (refine br_false (by assumption) ?_; conv => whnf)
    | (refine br_not ?_; conv => whnf)
    | (refine br_code ?_; conv => whnf)
    | (refine c_points_2.call1 rfl rfl ⟨_, rfl⟩ ?_; conv => whnf)
    | (refine c_points_2.quiet1 rfl rfl ⟨_, rfl⟩ ?_; conv => whnf)
    | (refine c_points_3.call1 rfl rfl ⟨_, rfl⟩ ?_; conv => whnf)
    | (refine c_points_3.quiet1 rfl rfl ⟨_, rfl⟩ ?_; conv => whnf)
    | (refine c_impl_area.call ?_; conv => whnf)
    | (refine c_impl_area.quiet ?_; conv => whnf)
    | (refine draw_auto (by decide +kernel) ?_; conv => whnf)
    | (refine loop_n 12 ?_; conv => whnf)
    | (refine br_split (fun _ => ?_) (fun _ => ?_) <;> conv => whnf)
    | exact (rfl : (_ : Value) = _)
    | (simp only [*]; exact (rfl : (_ : Value) = _))
    | (simp [selF, codeF, *]; done))

theorem c_spec_AreaOf {a b c d e f : Int}  : Pure Try.prog n_spec_AreaOf [pt a b, pt c d, pt e f] (t2 (ii (selF (isPtF a b && isPtF c d && isPtF e f) (areaF a b c d e f) 0)) (ii (codeF (isPtF a b && isPtF c d && isPtF e f)))) := by
  refine pure_of good fn_spec_AreaOf rfl rfl ?_
  conv => whnf
  all_goals (repeat' first
    | (refine br_true (by assumption) ?_; conv => whnf)
    | (refine br_false (by assumption) ?_; conv => whnf)
    | (refine br_not ?_; conv => whnf)
    | (refine br_code ?_; conv => whnf)
    | (refine c_code_2.call1 rfl rfl ⟨_, rfl⟩ ?_; conv => whnf)
    | (refine c_code_2.quiet1 rfl rfl ⟨_, rfl⟩ ?_; conv => whnf)
    | (refine c_code_3.call1 rfl rfl ⟨_, rfl⟩ ?_; conv => whnf)
    | (refine c_code_3.quiet1 rfl rfl ⟨_, rfl⟩ ?_; conv => whnf)
    | (refine c_spec_l01Area.call ?_; conv => whnf)
    | (refine c_spec_l01Area.quiet ?_; conv => whnf)
    | (refine draw_auto (by decide +kernel) ?_; conv => whnf)
    | (refine loop_n 12 ?_; conv => whnf)
    | (refine br_split (fun _ => ?_) (fun _ => ?_) <;> conv => whnf)
    | exact (rfl : (_ : Value) = _)
    | (simp only [*]; exact (rfl : (_ : Value) = _))
    | (simp [selF, codeF, *]; done))

theorem c_laws_FnExactAreaOf {a b c d e f : Int}  : Pure Try.prog n_laws_FnExactAreaOf [pt a b, pt c d, pt e f] (bb true) := by
  refine pure_of good fn_laws_FnExactAreaOf rfl rfl ?_
  conv => whnf
  all_goals (repeat' first
    | (refine br_true ?_ ?_; (focus (simp; done)); conv => whnf)
    | (refine br_false ?_ ?_; (focus (simp; done)); conv => whnf)
    | (refine br_true (by assumption) ?_; conv => whnf)
    | (refine br_false (by assumption) ?_; conv => whnf)
    | (refine br_not ?_; conv => whnf)
    | (refine br_code ?_; conv => whnf)
    | (refine c_laws_toPoint.call ?_; conv => whnf)
    | (refine c_laws_toPoint.quiet ?_; conv => whnf)
    | (refine c_spec_AreaOf.call ?_; conv => whnf)
    | (refine c_spec_AreaOf.quiet ?_; conv => whnf)
    | (refine c_impl_AreaOf.call ?_; conv => whnf)
    | (refine c_impl_AreaOf.quiet ?_; conv => whnf)
    | (refine draw_auto (by decide +kernel) ?_; conv => whnf)
    | (refine loop_n 12 ?_; conv => whnf)
    | (refine br_split (fun _ => ?_) (fun _ => ?_) <;> conv => whnf)
    | exact (rfl : (_ : Value) = _)
    | (simp only [*]; exact (rfl : (_ : Value) = _))
    | (simp [*]; done))

end Go.Proofs.Ytepmlacfaffmmaa
