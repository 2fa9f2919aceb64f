/-
  Contracts of functions of the program (printed by a program of this work; Lean checks each).
  Conditions: as each contract states.
-/
import Derived.Test.YtlkbfpklhncfbaaK3
import Derived.Test.YtlkbfpklhncfbaaCorn
namespace Go.Proofs.Ytlkbfpklhncfbaa
open Go.Ev Go.RowKit
set_option maxRecDepth 100000
set_option linter.unusedVariables false
set_option linter.unusedSimpArgs false

theorem c_impl_Corner_cosine {a b c d : Int} (h : isCornF a b c d = true) : Pure Try.prog n_impl_Corner_cosine [q4 a b c d] (ii (cosF a b c d)) := by
  refine pure_of good fn_impl_Corner_cosine rfl rfl ?_
  conv => whnf
  all_goals (repeat' first
    | exact corn_p1 h
    | exact sine_nz h
    | exact congrArg (Value.int IntKind.i64) (cos_impl h)
    | (refine StoreK.mk rfl ?_; conv => whnf)
    | exact join_same
    | exact (by assumption : (_ : Bool) = (_ : Bool))
    | (refine br_true (by assumption) ?_; conv => whnf)
    | (refine br_false (by assumption) ?_; conv => whnf)
    | (refine br_not ?_; conv => whnf)
    | (refine br_code ?_; conv => whnf)
    | (with_reducible refine br_and ?_; conv => whnf)
    | (with_reducible refine br_or ?_; conv => whnf)
    | (refine br_eq2 ?_; conv => whnf)
    | (refine (c_impl_Point_mate ?_).call ?_ <;> conv => whnf)
    | (refine (c_impl_Point_mate ?_).quiet ?_ <;> conv => whnf)
    | (refine c_impl_det.call ?_; conv => whnf)
    | (refine c_impl_det.quiet ?_; conv => whnf)
    | (refine c_impl_Corner_sine.call ?_; conv => whnf)
    | (refine c_impl_Corner_sine.quiet ?_; conv => whnf)
    | (refine (c_impl_mod ?_).call ?_ <;> conv => whnf)
    | (refine (c_impl_mod ?_).quiet ?_ <;> conv => whnf)
    | (refine draw_auto (by decide +kernel) ?_; conv => whnf)
    | (refine draw_asg (by decide +kernel) ?_; conv => whnf)
    | (refine draw_st (by decide +kernel) ?_; conv => whnf)
    | (refine draw_call (by decide +kernel) ?_; conv => whnf)
    | (refine enter_same (loop_n 12 ?_); conv => whnf)
    | (refine next_same ?_; conv => whnf)
    | (refine mapK_row (by assumption) ?_; conv => whnf)
    | (refine mapK_plain (Plain.of rfl) ?_; conv => whnf)
    | (refine mapK_lit ?_; conv => whnf)
    | (refine br_split (fun _ => ?_) (fun _ => ?_) <;> conv => whnf)
    | exact (rfl : (_ : Value) = _)
    | (simp only [*]; exact (rfl : (_ : Value) = _))
    | (simp [*]; done))

theorem c_spec_l02Cosine {a b c d : Int} (h : isCornF a b c d = true) : Pure Try.prog n_spec_l02Cosine [q4 a b c d] (ii (cosF a b c d)) := by
  refine pure_of good fn_spec_l02Cosine rfl rfl ?_
  conv => whnf
  all_goals (repeat' first
    | exact corn_p1 h
    | exact sine_nz h
    | exact congrArg (Value.int IntKind.i64) (cos_0 h (by assumption))
    | exact congrArg (Value.int IntKind.i64) (cos_1 h (by assumption))
    | (refine StoreK.mk rfl ?_; conv => whnf)
    | exact join_same
    | exact (by assumption : (_ : Bool) = (_ : Bool))
    | (refine br_true (by assumption) ?_; conv => whnf)
    | (refine br_false (by assumption) ?_; conv => whnf)
    | (refine br_not ?_; conv => whnf)
    | (refine br_code ?_; conv => whnf)
    | (with_reducible refine br_and ?_; conv => whnf)
    | (with_reducible refine br_or ?_; conv => whnf)
    | (refine br_eq2 ?_; conv => whnf)
    | (refine c_spec_l02Sine.call ?_; conv => whnf)
    | (refine c_spec_l02Sine.quiet ?_; conv => whnf)
    | (refine (c_spec_l01Base ?_).call ?_ <;> conv => whnf)
    | (refine (c_spec_l01Base ?_).quiet ?_ <;> conv => whnf)
    | (refine c_spec_l01Det.call ?_; conv => whnf)
    | (refine c_spec_l01Det.quiet ?_; conv => whnf)
    | (refine (c_spec_l01Rest ?_).call ?_ <;> conv => whnf)
    | (refine (c_spec_l01Rest ?_).quiet ?_ <;> conv => whnf)
    | (refine draw_auto (by decide +kernel) ?_; conv => whnf)
    | (refine draw_asg (by decide +kernel) ?_; conv => whnf)
    | (refine draw_st (by decide +kernel) ?_; conv => whnf)
    | (refine draw_call (by decide +kernel) ?_; conv => whnf)
    | (refine enter_same (loop_n 12 ?_); conv => whnf)
    | (refine next_same ?_; conv => whnf)
    | (refine mapK_row (by assumption) ?_; conv => whnf)
    | (refine mapK_plain (Plain.of rfl) ?_; conv => whnf)
    | (refine mapK_lit ?_; conv => whnf)
    | (refine br_split (fun _ => ?_) (fun _ => ?_) <;> conv => whnf)
    | exact (rfl : (_ : Value) = _)
    | (simp only [*]; exact (rfl : (_ : Value) = _))
    | (simp [*]; done))

theorem c_eqCorner_same {a b c d : Int}  : Pure Try.prog n_laws_eqCorner [q4 a b c d, q4 a b c d] (bb true) := by
  refine pure_of good fn_laws_eqCorner rfl rfl ?_
  conv => whnf
  all_goals (repeat' first
    | (refine br_true ?_ ?_; (focus (simp; done)); conv => whnf)
    | (refine br_false ?_ ?_; (focus (simp; done)); conv => whnf)
    | (refine StoreK.mk rfl ?_; conv => whnf)
    | exact join_same
    | exact (by assumption : (_ : Bool) = (_ : Bool))
    | (refine br_true (by assumption) ?_; conv => whnf)
    | (refine br_false (by assumption) ?_; conv => whnf)
    | (refine br_not ?_; conv => whnf)
    | (refine br_code ?_; conv => whnf)
    | (with_reducible refine br_and ?_; conv => whnf)
    | (with_reducible refine br_or ?_; conv => whnf)
    | (refine br_eq2 ?_; conv => whnf)
    | (refine c_laws_eqPoint.call ?_; conv => whnf)
    | (refine c_laws_eqPoint.quiet ?_; conv => whnf)
    | (refine draw_auto (by decide +kernel) ?_; conv => whnf)
    | (refine draw_asg (by decide +kernel) ?_; conv => whnf)
    | (refine draw_st (by decide +kernel) ?_; conv => whnf)
    | (refine draw_call (by decide +kernel) ?_; conv => whnf)
    | (refine enter_same (loop_n 12 ?_); conv => whnf)
    | (refine next_same ?_; conv => whnf)
    | (refine mapK_row (by assumption) ?_; conv => whnf)
    | (refine mapK_plain (Plain.of rfl) ?_; conv => whnf)
    | (refine mapK_lit ?_; conv => whnf)
    | (refine br_split (fun _ => ?_) (fun _ => ?_) <;> conv => whnf)
    | exact (rfl : (_ : Value) = _)
    | (simp only [*]; exact (rfl : (_ : Value) = _))
    | (simp [*]; done))

theorem c_impl_CosineOf {a b c d : Int}  : Pure Try.prog n_impl_CosineOf [q4 a b c d] (t2 (ii (selF (isCornF a b c d) (selF (bigF a b c d) 0 (cosF a b c d)) 0)) (ii (limF (isCornF a b c d) (bigF a b c d)))) := by
  refine pure_of good fn_impl_CosineOf rfl rfl ?_
  conv => whnf
  all_goals (repeat' first
    | (refine br_lim ?_; conv => whnf)
    | (refine StoreK.mk rfl ?_; conv => whnf)
    | exact join_same
    | exact (by assumption : (_ : Bool) = (_ : Bool))
    | (refine br_true (by assumption) ?_; conv => whnf)
    | (refine br_false (by assumption) ?_; conv => whnf)
    | (refine br_not ?_; conv => whnf)
    | (refine br_code ?_; conv => whnf)
    | (with_reducible refine br_and ?_; conv => whnf)
    | (with_reducible refine br_or ?_; conv => whnf)
    | (refine br_eq2 ?_; conv => whnf)
    | (refine c_limited_1.call1 rfl rfl ⟨_, rfl⟩ ?_; conv => whnf)
    | (refine c_limited_1.quiet1 rfl rfl ⟨_, rfl⟩ ?_; conv => whnf)
    | (refine c_limited_2.call1 rfl rfl ⟨_, rfl⟩ ?_; conv => whnf)
    | (refine c_limited_2.quiet1 rfl rfl ⟨_, rfl⟩ ?_; conv => whnf)
    | (refine (c_impl_Corner_cosine ?_).call ?_ <;> conv => whnf)
    | (refine (c_impl_Corner_cosine ?_).quiet ?_ <;> conv => whnf)
    | (refine draw_auto (by decide +kernel) ?_; conv => whnf)
    | (refine draw_asg (by decide +kernel) ?_; conv => whnf)
    | (refine draw_st (by decide +kernel) ?_; conv => whnf)
    | (refine draw_call (by decide +kernel) ?_; conv => whnf)
    | (refine enter_same (loop_n 12 ?_); conv => whnf)
    | (refine next_same ?_; conv => whnf)
    | (refine mapK_row (by assumption) ?_; conv => whnf)
    | (refine mapK_plain (Plain.of rfl) ?_; conv => whnf)
    | (refine mapK_lit ?_; conv => whnf)
    | (refine br_split (fun _ => ?_) (fun _ => ?_) <;> conv => whnf)
    | exact (rfl : (_ : Value) = _)
    | (simp only [*]; exact (rfl : (_ : Value) = _))
    | (simp [selF, limF, *]; done))

theorem c_impl_tangent {a b : Int}  : Pure Try.prog n_impl_tangent [ii a, ii b] (q4 1 0 b a) := by
  refine pure_of good fn_impl_tangent rfl rfl ?_
  conv => whnf
  all_goals (repeat' first
    | (refine StoreK.mk rfl ?_; conv => whnf)
    | exact join_same
    | exact (by assumption : (_ : Bool) = (_ : Bool))
    | (refine br_true (by assumption) ?_; conv => whnf)
    | (refine br_false (by assumption) ?_; conv => whnf)
    | (refine br_not ?_; conv => whnf)
    | (refine br_code ?_; conv => whnf)
    | (with_reducible refine br_and ?_; conv => whnf)
    | (with_reducible refine br_or ?_; conv => whnf)
    | (refine br_eq2 ?_; conv => whnf)
    | (refine draw_auto (by decide +kernel) ?_; conv => whnf)
    | (refine draw_asg (by decide +kernel) ?_; conv => whnf)
    | (refine draw_st (by decide +kernel) ?_; conv => whnf)
    | (refine draw_call (by decide +kernel) ?_; conv => whnf)
    | (refine enter_same (loop_n 12 ?_); conv => whnf)
    | (refine next_same ?_; conv => whnf)
    | (refine mapK_row (by assumption) ?_; conv => whnf)
    | (refine mapK_plain (Plain.of rfl) ?_; conv => whnf)
    | (refine mapK_lit ?_; conv => whnf)
    | (refine br_split (fun _ => ?_) (fun _ => ?_) <;> conv => whnf)
    | exact (rfl : (_ : Value) = _)
    | (simp only [*]; exact (rfl : (_ : Value) = _))
    | (simp [*]; done))

theorem c_spec_l02Normal {a b : Int}  : Pure Try.prog n_spec_l02Normal [ii a, ii b] (q4 1 0 b a) := by
  refine pure_of good fn_spec_l02Normal rfl rfl ?_
  conv => whnf
  all_goals (repeat' first
    | (refine StoreK.mk rfl ?_; conv => whnf)
    | exact join_same
    | exact (by assumption : (_ : Bool) = (_ : Bool))
    | (refine br_true (by assumption) ?_; conv => whnf)
    | (refine br_false (by assumption) ?_; conv => whnf)
    | (refine br_not ?_; conv => whnf)
    | (refine br_code ?_; conv => whnf)
    | (with_reducible refine br_and ?_; conv => whnf)
    | (with_reducible refine br_or ?_; conv => whnf)
    | (refine br_eq2 ?_; conv => whnf)
    | (refine draw_auto (by decide +kernel) ?_; conv => whnf)
    | (refine draw_asg (by decide +kernel) ?_; conv => whnf)
    | (refine draw_st (by decide +kernel) ?_; conv => whnf)
    | (refine draw_call (by decide +kernel) ?_; conv => whnf)
    | (refine enter_same (loop_n 12 ?_); conv => whnf)
    | (refine next_same ?_; conv => whnf)
    | (refine mapK_row (by assumption) ?_; conv => whnf)
    | (refine mapK_plain (Plain.of rfl) ?_; conv => whnf)
    | (refine mapK_lit ?_; conv => whnf)
    | (refine br_split (fun _ => ?_) (fun _ => ?_) <;> conv => whnf)
    | exact (rfl : (_ : Value) = _)
    | (simp only [*]; exact (rfl : (_ : Value) = _))
    | (simp [*]; done))

theorem c_impl_NormalCorner {a b c d : Int}  : Pure Try.prog n_impl_NormalCorner [q4 a b c d] (t2 (q4 (selF (isCornF a b c d) (selF (bigF a b c d) 0 (1)) 0) 0 (selF (isCornF a b c d) (selF (bigF a b c d) 0 (cosF a b c d)) 0) (selF (isCornF a b c d) (selF (bigF a b c d) 0 (sineF a b c d)) 0)) (ii (limF (isCornF a b c d) (bigF a b c d)))) := by
  refine pure_of good fn_impl_NormalCorner rfl rfl ?_
  conv => whnf
  all_goals (repeat' first
    | (refine br_lim ?_; conv => whnf)
    | (refine StoreK.mk rfl ?_; conv => whnf)
    | exact join_same
    | exact (by assumption : (_ : Bool) = (_ : Bool))
    | (refine br_true (by assumption) ?_; conv => whnf)
    | (refine br_false (by assumption) ?_; conv => whnf)
    | (refine br_not ?_; conv => whnf)
    | (refine br_code ?_; conv => whnf)
    | (with_reducible refine br_and ?_; conv => whnf)
    | (with_reducible refine br_or ?_; conv => whnf)
    | (refine br_eq2 ?_; conv => whnf)
    | (refine c_limited_1.call1 rfl rfl ⟨_, rfl⟩ ?_; conv => whnf)
    | (refine c_limited_1.quiet1 rfl rfl ⟨_, rfl⟩ ?_; conv => whnf)
    | (refine c_limited_2.call1 rfl rfl ⟨_, rfl⟩ ?_; conv => whnf)
    | (refine c_limited_2.quiet1 rfl rfl ⟨_, rfl⟩ ?_; conv => whnf)
    | (refine c_impl_Corner_sine.call ?_; conv => whnf)
    | (refine c_impl_Corner_sine.quiet ?_; conv => whnf)
    | (refine (c_impl_Corner_cosine ?_).call ?_ <;> conv => whnf)
    | (refine (c_impl_Corner_cosine ?_).quiet ?_ <;> conv => whnf)
    | (refine c_impl_tangent.call ?_; conv => whnf)
    | (refine c_impl_tangent.quiet ?_; conv => whnf)
    | (refine draw_auto (by decide +kernel) ?_; conv => whnf)
    | (refine draw_asg (by decide +kernel) ?_; conv => whnf)
    | (refine draw_st (by decide +kernel) ?_; conv => whnf)
    | (refine draw_call (by decide +kernel) ?_; conv => whnf)
    | (refine enter_same (loop_n 12 ?_); conv => whnf)
    | (refine next_same ?_; conv => whnf)
    | (refine mapK_row (by assumption) ?_; conv => whnf)
    | (refine mapK_plain (Plain.of rfl) ?_; conv => whnf)
    | (refine mapK_lit ?_; conv => whnf)
    | (refine br_split (fun _ => ?_) (fun _ => ?_) <;> conv => whnf)
    | exact (rfl : (_ : Value) = _)
    | (simp only [*]; exact (rfl : (_ : Value) = _))
    | (simp [selF, limF, *]; done))

theorem c_spec_NormalCorner {a b c d : Int}  : Pure Try.prog n_spec_NormalCorner [q4 a b c d] (t2 (q4 (selF (isCornF a b c d) (selF (bigF a b c d) 0 (1)) 0) 0 (selF (isCornF a b c d) (selF (bigF a b c d) 0 (cosF a b c d)) 0) (selF (isCornF a b c d) (selF (bigF a b c d) 0 (sineF a b c d)) 0)) (ii (limF (isCornF a b c d) (bigF a b c d)))) := by
  refine pure_of good fn_spec_NormalCorner rfl rfl ?_
  conv => whnf
  all_goals (repeat' first
    | (refine br_lim ?_; conv => whnf)
    | (refine StoreK.mk rfl ?_; conv => whnf)
    | exact join_same
    | exact (by assumption : (_ : Bool) = (_ : Bool))
    | (refine br_true (by assumption) ?_; conv => whnf)
    | (refine br_false (by assumption) ?_; conv => whnf)
    | (refine br_not ?_; conv => whnf)
    | (refine br_code ?_; conv => whnf)
    | (with_reducible refine br_and ?_; conv => whnf)
    | (with_reducible refine br_or ?_; conv => whnf)
    | (refine br_eq2 ?_; conv => whnf)
    | (refine c_l02Code_1.call1 rfl rfl ⟨_, rfl⟩ ?_; conv => whnf)
    | (refine c_l02Code_1.quiet1 rfl rfl ⟨_, rfl⟩ ?_; conv => whnf)
    | (refine c_l02Code_2.call1 rfl rfl ⟨_, rfl⟩ ?_; conv => whnf)
    | (refine c_l02Code_2.quiet1 rfl rfl ⟨_, rfl⟩ ?_; conv => whnf)
    | (refine c_spec_l02Sine.call ?_; conv => whnf)
    | (refine c_spec_l02Sine.quiet ?_; conv => whnf)
    | (refine (c_spec_l02Cosine ?_).call ?_ <;> conv => whnf)
    | (refine (c_spec_l02Cosine ?_).quiet ?_ <;> conv => whnf)
    | (refine c_spec_l02Normal.call ?_; conv => whnf)
    | (refine c_spec_l02Normal.quiet ?_; conv => whnf)
    | (refine draw_auto (by decide +kernel) ?_; conv => whnf)
    | (refine draw_asg (by decide +kernel) ?_; conv => whnf)
    | (refine draw_st (by decide +kernel) ?_; conv => whnf)
    | (refine draw_call (by decide +kernel) ?_; conv => whnf)
    | (refine enter_same (loop_n 12 ?_); conv => whnf)
    | (refine next_same ?_; conv => whnf)
    | (refine mapK_row (by assumption) ?_; conv => whnf)
    | (refine mapK_plain (Plain.of rfl) ?_; conv => whnf)
    | (refine mapK_lit ?_; conv => whnf)
    | (refine br_split (fun _ => ?_) (fun _ => ?_) <;> conv => whnf)
    | exact (rfl : (_ : Value) = _)
    | (simp only [*]; exact (rfl : (_ : Value) = _))
    | (simp [selF, limF, *]; done))

def invA (k m : Int) : Int := w64 (k * m)
def invB (k m : Int) : Int := w64 (w64 (0 - k) * m)

def halfA (a b c d e f g i : Int) : Int := apF (invA (detF e f g i) i) (invB (detF e f g i) f) a c
def halfB (a b c d e f g i : Int) : Int := apF (invA (detF e f g i) i) (invB (detF e f g i) f) b d
def halfC (a b c d e f g i : Int) : Int := apF (invB (detF e f g i) g) (invA (detF e f g i) e) a c
def halfD (a b c d e f g i : Int) : Int := apF (invB (detF e f g i) g) (invA (detF e f g i) e) b d

theorem br_sel3 {p : Bool} {A B : Prop} (h : brK p A B) : brK (decide (selF p 0 3 = 0)) A B := by cases p <;> exact h

abbrev tr3 (a b c : Int) : Value := .agg #[.int .i64 a, .int .i64 b, .int .i64 c]

end Go.Proofs.Ytlkbfpklhncfbaa
