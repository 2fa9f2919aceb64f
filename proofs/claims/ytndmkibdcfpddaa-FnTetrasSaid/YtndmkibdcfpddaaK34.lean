/-
  Contracts of functions of the program (printed by a program of this work; Lean checks each).
  Conditions: as each contract states.
-/
import Derived.Test.YtndmkibdcfpddaaK33
namespace Go.Proofs.Ytndmkibdcfpddaa
open Go.Ev Go.RowKit
set_option maxRecDepth 100000
set_option linter.unusedVariables false
set_option linter.unusedSimpArgs false

attribute [local irreducible] isTetF cntF

theorem c_impl_CountSpots_ok {a b c d e f g h i x y z : Int} (h1 : isTetF a b c d e f g h i x y z = true) : Pure Try.prog n_impl_CountSpots [v12 a b c d e f g h i x y z] (t2 (ii (cntF (hasF a b c d e f g h i x y z) a b c d e f g h i x y z)) (ii 0)) := by
  have k_ := tet_ok h1; refine pure_of good fn_impl_CountSpots rfl rfl ?_
  conv => whnf
  all_goals (repeat' first
    | exact k_
    | (refine StoreK.mk rfl ?_; conv => whnf)
    | exact join_same
    | exact (by assumption : (_ : Bool) = (_ : Bool))
    | (refine br_true (by assumption) ?_; conv => whnf)
    | (refine br_false (by assumption) ?_; conv => whnf)
    | (refine br_not ?_; conv => whnf)
    | (refine br_code ?_; conv => whnf)
    | (with_reducible refine br_and ?_; conv => whnf)
    | (with_reducible refine br_or ?_; conv => whnf)
    | (refine br_eq2 ?_; conv => whnf)
    | (refine c_impl_IsTetra.call ?_; conv => whnf)
    | (refine c_impl_IsTetra.quiet ?_; conv => whnf)
    | (refine (c_impl_Tetra_count ?_).call ?_ <;> conv => whnf)
    | (refine (c_impl_Tetra_count ?_).quiet ?_ <;> conv => whnf)
    | (refine draw_auto (by decide +kernel) ?_; conv => whnf)
    | (refine draw_asg (by decide +kernel) ?_; conv => whnf)
    | (refine draw_st (by decide +kernel) ?_; conv => whnf)
    | (refine draw_call (by decide +kernel) ?_; conv => whnf)
    | (refine enter_same (loop_n 12 ?_); conv => whnf)
    | (refine next_same ?_; conv => whnf)
    | (refine mapK_row (by assumption) ?_; conv => whnf)
    | (refine mapK_plain (Plain.of rfl) ?_; conv => whnf)
    | (refine mapK_lit ?_; conv => whnf)
    | (refine br_split (fun _ => ?_) (fun _ => ?_) <;> conv => whnf)
    | exact (rfl : (_ : Value) = _)
    | (rw [cnt_same k_]; done)
    | (simp only [*]; exact (rfl : (_ : Value) = _))
    | (simp [*]; done))

theorem c_impl_CountSpots_no {a b c d e f g h i x y z : Int} (h1 : isTetF a b c d e f g h i x y z = false) : Pure Try.prog n_impl_CountSpots [v12 a b c d e f g h i x y z] (t2 (ii 0) (ii 1)) := by
  refine pure_of good fn_impl_CountSpots rfl rfl ?_
  conv => whnf
  all_goals (repeat' first
    | exact k_
    | (refine StoreK.mk rfl ?_; conv => whnf)
    | exact join_same
    | exact (by assumption : (_ : Bool) = (_ : Bool))
    | (refine br_true (by assumption) ?_; conv => whnf)
    | (refine br_false (by assumption) ?_; conv => whnf)
    | (refine br_not ?_; conv => whnf)
    | (refine br_code ?_; conv => whnf)
    | (with_reducible refine br_and ?_; conv => whnf)
    | (with_reducible refine br_or ?_; conv => whnf)
    | (refine br_eq2 ?_; conv => whnf)
    | (refine c_impl_IsTetra.call ?_; conv => whnf)
    | (refine c_impl_IsTetra.quiet ?_; conv => whnf)
    | (refine (c_impl_Tetra_count ?_).call ?_ <;> conv => whnf)
    | (refine (c_impl_Tetra_count ?_).quiet ?_ <;> conv => whnf)
    | (refine draw_auto (by decide +kernel) ?_; conv => whnf)
    | (refine draw_asg (by decide +kernel) ?_; conv => whnf)
    | (refine draw_st (by decide +kernel) ?_; conv => whnf)
    | (refine draw_call (by decide +kernel) ?_; conv => whnf)
    | (refine enter_same (loop_n 12 ?_); conv => whnf)
    | (refine next_same ?_; conv => whnf)
    | (refine mapK_row (by assumption) ?_; conv => whnf)
    | (refine mapK_plain (Plain.of rfl) ?_; conv => whnf)
    | (refine mapK_lit ?_; conv => whnf)
    | (refine br_split (fun _ => ?_) (fun _ => ?_) <;> conv => whnf)
    | exact (rfl : (_ : Value) = _)
    | (rw [cnt_same k_]; done)
    | (simp only [*]; exact (rfl : (_ : Value) = _))
    | (simp [*]; done))

theorem c_spec_CountSpots_ok {a b c d e f g h i x y z : Int} (h1 : isTetF a b c d e f g h i x y z = true) : Pure Try.prog n_spec_CountSpots [v12 a b c d e f g h i x y z] (t2 (ii (cntF (hasF a b c d e f g h i x y z) a b c d e f g h i x y z)) (ii 0)) := by
  have k_ := tet_ok h1; refine pure_of good fn_spec_CountSpots rfl rfl ?_
  conv => whnf
  all_goals (repeat' first
    | exact k_
    | (refine StoreK.mk rfl ?_; conv => whnf)
    | exact join_same
    | exact (by assumption : (_ : Bool) = (_ : Bool))
    | (refine br_true (by assumption) ?_; conv => whnf)
    | (refine br_false (by assumption) ?_; conv => whnf)
    | (refine br_not ?_; conv => whnf)
    | (refine br_code ?_; conv => whnf)
    | (with_reducible refine br_and ?_; conv => whnf)
    | (with_reducible refine br_or ?_; conv => whnf)
    | (refine br_eq2 ?_; conv => whnf)
    | (refine c_spec_l08Tetra.call ?_; conv => whnf)
    | (refine c_spec_l08Tetra.quiet ?_; conv => whnf)
    | (refine (c_spec_l08Count ?_).call ?_ <;> conv => whnf)
    | (refine (c_spec_l08Count ?_).quiet ?_ <;> conv => whnf)
    | (refine draw_auto (by decide +kernel) ?_; conv => whnf)
    | (refine draw_asg (by decide +kernel) ?_; conv => whnf)
    | (refine draw_st (by decide +kernel) ?_; conv => whnf)
    | (refine draw_call (by decide +kernel) ?_; conv => whnf)
    | (refine enter_same (loop_n 12 ?_); conv => whnf)
    | (refine next_same ?_; conv => whnf)
    | (refine mapK_row (by assumption) ?_; conv => whnf)
    | (refine mapK_plain (Plain.of rfl) ?_; conv => whnf)
    | (refine mapK_lit ?_; conv => whnf)
    | (refine br_split (fun _ => ?_) (fun _ => ?_) <;> conv => whnf)
    | exact (rfl : (_ : Value) = _)
    | (rw [cnt_same k_]; done)
    | (simp only [*]; exact (rfl : (_ : Value) = _))
    | (simp [*]; done))

theorem c_spec_CountSpots_no {a b c d e f g h i x y z : Int} (h1 : isTetF a b c d e f g h i x y z = false) : Pure Try.prog n_spec_CountSpots [v12 a b c d e f g h i x y z] (t2 (ii 0) (ii 1)) := by
  refine pure_of good fn_spec_CountSpots rfl rfl ?_
  conv => whnf
  all_goals (repeat' first
    | exact k_
    | (refine StoreK.mk rfl ?_; conv => whnf)
    | exact join_same
    | exact (by assumption : (_ : Bool) = (_ : Bool))
    | (refine br_true (by assumption) ?_; conv => whnf)
    | (refine br_false (by assumption) ?_; conv => whnf)
    | (refine br_not ?_; conv => whnf)
    | (refine br_code ?_; conv => whnf)
    | (with_reducible refine br_and ?_; conv => whnf)
    | (with_reducible refine br_or ?_; conv => whnf)
    | (refine br_eq2 ?_; conv => whnf)
    | (refine c_spec_l08Tetra.call ?_; conv => whnf)
    | (refine c_spec_l08Tetra.quiet ?_; conv => whnf)
    | (refine (c_spec_l08Count ?_).call ?_ <;> conv => whnf)
    | (refine (c_spec_l08Count ?_).quiet ?_ <;> conv => whnf)
    | (refine draw_auto (by decide +kernel) ?_; conv => whnf)
    | (refine draw_asg (by decide +kernel) ?_; conv => whnf)
    | (refine draw_st (by decide +kernel) ?_; conv => whnf)
    | (refine draw_call (by decide +kernel) ?_; conv => whnf)
    | (refine enter_same (loop_n 12 ?_); conv => whnf)
    | (refine next_same ?_; conv => whnf)
    | (refine mapK_row (by assumption) ?_; conv => whnf)
    | (refine mapK_plain (Plain.of rfl) ?_; conv => whnf)
    | (refine mapK_lit ?_; conv => whnf)
    | (refine br_split (fun _ => ?_) (fun _ => ?_) <;> conv => whnf)
    | exact (rfl : (_ : Value) = _)
    | (rw [cnt_same k_]; done)
    | (simp only [*]; exact (rfl : (_ : Value) = _))
    | (simp [*]; done))

theorem c_law_CountSpots_ok {a b c d e f g h i x y z : Int} (h1 : isTetF a b c d e f g h i x y z = true) : Pure Try.prog n_laws_FnExactCountSpots [v12 a b c d e f g h i x y z] (bb true) := by
  refine pure_of good fn_laws_FnExactCountSpots rfl rfl ?_
  conv => whnf
  all_goals (repeat' first
    | exact h1
    | (refine br_true ?_ ?_; (focus (simp; done)); conv => whnf)
    | (refine br_false ?_ ?_; (focus (simp; done)); conv => whnf)
    | (refine StoreK.mk rfl ?_; conv => whnf)
    | exact join_same
    | exact (by assumption : (_ : Bool) = (_ : Bool))
    | (refine br_true (by assumption) ?_; conv => whnf)
    | (refine br_false (by assumption) ?_; conv => whnf)
    | (refine br_not ?_; conv => whnf)
    | (refine br_code ?_; conv => whnf)
    | (with_reducible refine br_and ?_; conv => whnf)
    | (with_reducible refine br_or ?_; conv => whnf)
    | (refine br_eq2 ?_; conv => whnf)
    | (refine c_laws_toTetra.call ?_; conv => whnf)
    | (refine c_laws_toTetra.quiet ?_; conv => whnf)
    | (refine (c_spec_CountSpots_ok ?_).call ?_ <;> conv => whnf)
    | (refine (c_spec_CountSpots_ok ?_).quiet ?_ <;> conv => whnf)
    | (refine (c_impl_CountSpots_ok ?_).call ?_ <;> conv => whnf)
    | (refine (c_impl_CountSpots_ok ?_).quiet ?_ <;> conv => whnf)
    | (refine draw_auto (by decide +kernel) ?_; conv => whnf)
    | (refine draw_asg (by decide +kernel) ?_; conv => whnf)
    | (refine draw_st (by decide +kernel) ?_; conv => whnf)
    | (refine draw_call (by decide +kernel) ?_; conv => whnf)
    | (refine enter_same (loop_n 12 ?_); conv => whnf)
    | (refine next_same ?_; conv => whnf)
    | (refine mapK_row (by assumption) ?_; conv => whnf)
    | (refine mapK_plain (Plain.of rfl) ?_; conv => whnf)
    | (refine mapK_lit ?_; conv => whnf)
    | (refine br_split (fun _ => ?_) (fun _ => ?_) <;> conv => whnf)
    | exact (rfl : (_ : Value) = _)
    | (simp only [*]; exact (rfl : (_ : Value) = _))
    | (simp [*]; done))

theorem c_law_CountSpots_no {a b c d e f g h i x y z : Int} (h1 : isTetF a b c d e f g h i x y z = false) : Pure Try.prog n_laws_FnExactCountSpots [v12 a b c d e f g h i x y z] (bb true) := by
  refine pure_of good fn_laws_FnExactCountSpots rfl rfl ?_
  conv => whnf
  all_goals (repeat' first
    | exact h1
    | (refine br_true ?_ ?_; (focus (simp; done)); conv => whnf)
    | (refine br_false ?_ ?_; (focus (simp; done)); conv => whnf)
    | (refine StoreK.mk rfl ?_; conv => whnf)
    | exact join_same
    | exact (by assumption : (_ : Bool) = (_ : Bool))
    | (refine br_true (by assumption) ?_; conv => whnf)
    | (refine br_false (by assumption) ?_; conv => whnf)
    | (refine br_not ?_; conv => whnf)
    | (refine br_code ?_; conv => whnf)
    | (with_reducible refine br_and ?_; conv => whnf)
    | (with_reducible refine br_or ?_; conv => whnf)
    | (refine br_eq2 ?_; conv => whnf)
    | (refine c_laws_toTetra.call ?_; conv => whnf)
    | (refine c_laws_toTetra.quiet ?_; conv => whnf)
    | (refine (c_spec_CountSpots_no ?_).call ?_ <;> conv => whnf)
    | (refine (c_spec_CountSpots_no ?_).quiet ?_ <;> conv => whnf)
    | (refine (c_impl_CountSpots_no ?_).call ?_ <;> conv => whnf)
    | (refine (c_impl_CountSpots_no ?_).quiet ?_ <;> conv => whnf)
    | (refine draw_auto (by decide +kernel) ?_; conv => whnf)
    | (refine draw_asg (by decide +kernel) ?_; conv => whnf)
    | (refine draw_st (by decide +kernel) ?_; conv => whnf)
    | (refine draw_call (by decide +kernel) ?_; conv => whnf)
    | (refine enter_same (loop_n 12 ?_); conv => whnf)
    | (refine next_same ?_; conv => whnf)
    | (refine mapK_row (by assumption) ?_; conv => whnf)
    | (refine mapK_plain (Plain.of rfl) ?_; conv => whnf)
    | (refine mapK_lit ?_; conv => whnf)
    | (refine br_split (fun _ => ?_) (fun _ => ?_) <;> conv => whnf)
    | exact (rfl : (_ : Value) = _)
    | (simp only [*]; exact (rfl : (_ : Value) = _))
    | (simp [*]; done))

theorem c_laws_FnExactCountSpots {a b c d e f g h i x y z : Int} : Pure Try.prog n_laws_FnExactCountSpots [v12 a b c d e f g h i x y z] (bb true) := by
  cases h1 : isTetF a b c d e f g h i x y z
  · exact c_law_CountSpots_no h1
  · exact c_law_CountSpots_ok h1

theorem c_impl_IsEmptyTetra_ok {a b c d e f g h i x y z : Int} (h1 : isTetF a b c d e f g h i x y z = true) : Pure Try.prog n_impl_IsEmptyTetra [v12 a b c d e f g h i x y z] (t2 (bb (decide (cntF (hasF a b c d e f g h i x y z) a b c d e f g h i x y z = 4))) (ii 0)) := by
  have k_ := tet_ok h1; refine pure_of good fn_impl_IsEmptyTetra rfl rfl ?_
  conv => whnf
  all_goals (repeat' first
    | exact k_
    | (refine StoreK.mk rfl ?_; conv => whnf)
    | exact join_same
    | exact (by assumption : (_ : Bool) = (_ : Bool))
    | (refine br_true (by assumption) ?_; conv => whnf)
    | (refine br_false (by assumption) ?_; conv => whnf)
    | (refine br_not ?_; conv => whnf)
    | (refine br_code ?_; conv => whnf)
    | (with_reducible refine br_and ?_; conv => whnf)
    | (with_reducible refine br_or ?_; conv => whnf)
    | (refine br_eq2 ?_; conv => whnf)
    | (refine c_impl_IsTetra.call ?_; conv => whnf)
    | (refine c_impl_IsTetra.quiet ?_; conv => whnf)
    | (refine (c_impl_Tetra_count ?_).call ?_ <;> conv => whnf)
    | (refine (c_impl_Tetra_count ?_).quiet ?_ <;> conv => whnf)
    | (refine draw_auto (by decide +kernel) ?_; conv => whnf)
    | (refine draw_asg (by decide +kernel) ?_; conv => whnf)
    | (refine draw_st (by decide +kernel) ?_; conv => whnf)
    | (refine draw_call (by decide +kernel) ?_; conv => whnf)
    | (refine enter_same (loop_n 12 ?_); conv => whnf)
    | (refine next_same ?_; conv => whnf)
    | (refine mapK_row (by assumption) ?_; conv => whnf)
    | (refine mapK_plain (Plain.of rfl) ?_; conv => whnf)
    | (refine mapK_lit ?_; conv => whnf)
    | (refine br_split (fun _ => ?_) (fun _ => ?_) <;> conv => whnf)
    | exact (rfl : (_ : Value) = _)
    | (rw [cnt_same k_]; done)
    | (simp only [*]; exact (rfl : (_ : Value) = _))
    | (simp [*]; done))

theorem c_impl_IsEmptyTetra_no {a b c d e f g h i x y z : Int} (h1 : isTetF a b c d e f g h i x y z = false) : Pure Try.prog n_impl_IsEmptyTetra [v12 a b c d e f g h i x y z] (t2 (bb false) (ii 1)) := by
  refine pure_of good fn_impl_IsEmptyTetra rfl rfl ?_
  conv => whnf
  all_goals (repeat' first
    | exact k_
    | (refine StoreK.mk rfl ?_; conv => whnf)
    | exact join_same
    | exact (by assumption : (_ : Bool) = (_ : Bool))
    | (refine br_true (by assumption) ?_; conv => whnf)
    | (refine br_false (by assumption) ?_; conv => whnf)
    | (refine br_not ?_; conv => whnf)
    | (refine br_code ?_; conv => whnf)
    | (with_reducible refine br_and ?_; conv => whnf)
    | (with_reducible refine br_or ?_; conv => whnf)
    | (refine br_eq2 ?_; conv => whnf)
    | (refine c_impl_IsTetra.call ?_; conv => whnf)
    | (refine c_impl_IsTetra.quiet ?_; conv => whnf)
    | (refine (c_impl_Tetra_count ?_).call ?_ <;> conv => whnf)
    | (refine (c_impl_Tetra_count ?_).quiet ?_ <;> conv => whnf)
    | (refine draw_auto (by decide +kernel) ?_; conv => whnf)
    | (refine draw_asg (by decide +kernel) ?_; conv => whnf)
    | (refine draw_st (by decide +kernel) ?_; conv => whnf)
    | (refine draw_call (by decide +kernel) ?_; conv => whnf)
    | (refine enter_same (loop_n 12 ?_); conv => whnf)
    | (refine next_same ?_; conv => whnf)
    | (refine mapK_row (by assumption) ?_; conv => whnf)
    | (refine mapK_plain (Plain.of rfl) ?_; conv => whnf)
    | (refine mapK_lit ?_; conv => whnf)
    | (refine br_split (fun _ => ?_) (fun _ => ?_) <;> conv => whnf)
    | exact (rfl : (_ : Value) = _)
    | (rw [cnt_same k_]; done)
    | (simp only [*]; exact (rfl : (_ : Value) = _))
    | (simp [*]; done))

theorem c_spec_IsEmptyTetra_ok {a b c d e f g h i x y z : Int} (h1 : isTetF a b c d e f g h i x y z = true) : Pure Try.prog n_spec_IsEmptyTetra [v12 a b c d e f g h i x y z] (t2 (bb (decide (cntF (hasF a b c d e f g h i x y z) a b c d e f g h i x y z = 4))) (ii 0)) := by
  have k_ := tet_ok h1; refine pure_of good fn_spec_IsEmptyTetra rfl rfl ?_
  conv => whnf
  all_goals (repeat' first
    | exact k_
    | (refine StoreK.mk rfl ?_; conv => whnf)
    | exact join_same
    | exact (by assumption : (_ : Bool) = (_ : Bool))
    | (refine br_true (by assumption) ?_; conv => whnf)
    | (refine br_false (by assumption) ?_; conv => whnf)
    | (refine br_not ?_; conv => whnf)
    | (refine br_code ?_; conv => whnf)
    | (with_reducible refine br_and ?_; conv => whnf)
    | (with_reducible refine br_or ?_; conv => whnf)
    | (refine br_eq2 ?_; conv => whnf)
    | (refine c_spec_l08Tetra.call ?_; conv => whnf)
    | (refine c_spec_l08Tetra.quiet ?_; conv => whnf)
    | (refine (c_spec_l08Count ?_).call ?_ <;> conv => whnf)
    | (refine (c_spec_l08Count ?_).quiet ?_ <;> conv => whnf)
    | (refine draw_auto (by decide +kernel) ?_; conv => whnf)
    | (refine draw_asg (by decide +kernel) ?_; conv => whnf)
    | (refine draw_st (by decide +kernel) ?_; conv => whnf)
    | (refine draw_call (by decide +kernel) ?_; conv => whnf)
    | (refine enter_same (loop_n 12 ?_); conv => whnf)
    | (refine next_same ?_; conv => whnf)
    | (refine mapK_row (by assumption) ?_; conv => whnf)
    | (refine mapK_plain (Plain.of rfl) ?_; conv => whnf)
    | (refine mapK_lit ?_; conv => whnf)
    | (refine br_split (fun _ => ?_) (fun _ => ?_) <;> conv => whnf)
    | exact (rfl : (_ : Value) = _)
    | (rw [cnt_same k_]; done)
    | (simp only [*]; exact (rfl : (_ : Value) = _))
    | (simp [*]; done))

theorem c_spec_IsEmptyTetra_no {a b c d e f g h i x y z : Int} (h1 : isTetF a b c d e f g h i x y z = false) : Pure Try.prog n_spec_IsEmptyTetra [v12 a b c d e f g h i x y z] (t2 (bb false) (ii 1)) := by
  refine pure_of good fn_spec_IsEmptyTetra rfl rfl ?_
  conv => whnf
  all_goals (repeat' first
    | exact k_
    | (refine StoreK.mk rfl ?_; conv => whnf)
    | exact join_same
    | exact (by assumption : (_ : Bool) = (_ : Bool))
    | (refine br_true (by assumption) ?_; conv => whnf)
    | (refine br_false (by assumption) ?_; conv => whnf)
    | (refine br_not ?_; conv => whnf)
    | (refine br_code ?_; conv => whnf)
    | (with_reducible refine br_and ?_; conv => whnf)
    | (with_reducible refine br_or ?_; conv => whnf)
    | (refine br_eq2 ?_; conv => whnf)
    | (refine c_spec_l08Tetra.call ?_; conv => whnf)
    | (refine c_spec_l08Tetra.quiet ?_; conv => whnf)
    | (refine (c_spec_l08Count ?_).call ?_ <;> conv => whnf)
    | (refine (c_spec_l08Count ?_).quiet ?_ <;> conv => whnf)
    | (refine draw_auto (by decide +kernel) ?_; conv => whnf)
    | (refine draw_asg (by decide +kernel) ?_; conv => whnf)
    | (refine draw_st (by decide +kernel) ?_; conv => whnf)
    | (refine draw_call (by decide +kernel) ?_; conv => whnf)
    | (refine enter_same (loop_n 12 ?_); conv => whnf)
    | (refine next_same ?_; conv => whnf)
    | (refine mapK_row (by assumption) ?_; conv => whnf)
    | (refine mapK_plain (Plain.of rfl) ?_; conv => whnf)
    | (refine mapK_lit ?_; conv => whnf)
    | (refine br_split (fun _ => ?_) (fun _ => ?_) <;> conv => whnf)
    | exact (rfl : (_ : Value) = _)
    | (rw [cnt_same k_]; done)
    | (simp only [*]; exact (rfl : (_ : Value) = _))
    | (simp [*]; done))

theorem c_law_IsEmptyTetra_ok {a b c d e f g h i x y z : Int} (h1 : isTetF a b c d e f g h i x y z = true) : Pure Try.prog n_laws_FnExactIsEmptyTetra [v12 a b c d e f g h i x y z] (bb true) := by
  refine pure_of good fn_laws_FnExactIsEmptyTetra rfl rfl ?_
  conv => whnf
  all_goals (repeat' first
    | exact h1
    | (refine br_true ?_ ?_; (focus (simp; done)); conv => whnf)
    | (refine br_false ?_ ?_; (focus (simp; done)); conv => whnf)
    | (refine StoreK.mk rfl ?_; conv => whnf)
    | exact join_same
    | exact (by assumption : (_ : Bool) = (_ : Bool))
    | (refine br_true (by assumption) ?_; conv => whnf)
    | (refine br_false (by assumption) ?_; conv => whnf)
    | (refine br_not ?_; conv => whnf)
    | (refine br_code ?_; conv => whnf)
    | (with_reducible refine br_and ?_; conv => whnf)
    | (with_reducible refine br_or ?_; conv => whnf)
    | (refine br_eq2 ?_; conv => whnf)
    | (refine c_laws_toTetra.call ?_; conv => whnf)
    | (refine c_laws_toTetra.quiet ?_; conv => whnf)
    | (refine (c_spec_IsEmptyTetra_ok ?_).call ?_ <;> conv => whnf)
    | (refine (c_spec_IsEmptyTetra_ok ?_).quiet ?_ <;> conv => whnf)
    | (refine (c_impl_IsEmptyTetra_ok ?_).call ?_ <;> conv => whnf)
    | (refine (c_impl_IsEmptyTetra_ok ?_).quiet ?_ <;> conv => whnf)
    | (refine draw_auto (by decide +kernel) ?_; conv => whnf)
    | (refine draw_asg (by decide +kernel) ?_; conv => whnf)
    | (refine draw_st (by decide +kernel) ?_; conv => whnf)
    | (refine draw_call (by decide +kernel) ?_; conv => whnf)
    | (refine enter_same (loop_n 12 ?_); conv => whnf)
    | (refine next_same ?_; conv => whnf)
    | (refine mapK_row (by assumption) ?_; conv => whnf)
    | (refine mapK_plain (Plain.of rfl) ?_; conv => whnf)
    | (refine mapK_lit ?_; conv => whnf)
    | (refine br_split (fun _ => ?_) (fun _ => ?_) <;> conv => whnf)
    | exact (rfl : (_ : Value) = _)
    | (simp only [*]; exact (rfl : (_ : Value) = _))
    | (simp [*]; done))

theorem c_law_IsEmptyTetra_no {a b c d e f g h i x y z : Int} (h1 : isTetF a b c d e f g h i x y z = false) : Pure Try.prog n_laws_FnExactIsEmptyTetra [v12 a b c d e f g h i x y z] (bb true) := by
  refine pure_of good fn_laws_FnExactIsEmptyTetra rfl rfl ?_
  conv => whnf
  all_goals (repeat' first
    | exact h1
    | (refine br_true ?_ ?_; (focus (simp; done)); conv => whnf)
    | (refine br_false ?_ ?_; (focus (simp; done)); conv => whnf)
    | (refine StoreK.mk rfl ?_; conv => whnf)
    | exact join_same
    | exact (by assumption : (_ : Bool) = (_ : Bool))
    | (refine br_true (by assumption) ?_; conv => whnf)
    | (refine br_false (by assumption) ?_; conv => whnf)
    | (refine br_not ?_; conv => whnf)
    | (refine br_code ?_; conv => whnf)
    | (with_reducible refine br_and ?_; conv => whnf)
    | (with_reducible refine br_or ?_; conv => whnf)
    | (refine br_eq2 ?_; conv => whnf)
    | (refine c_laws_toTetra.call ?_; conv => whnf)
    | (refine c_laws_toTetra.quiet ?_; conv => whnf)
    | (refine (c_spec_IsEmptyTetra_no ?_).call ?_ <;> conv => whnf)
    | (refine (c_spec_IsEmptyTetra_no ?_).quiet ?_ <;> conv => whnf)
    | (refine (c_impl_IsEmptyTetra_no ?_).call ?_ <;> conv => whnf)
    | (refine (c_impl_IsEmptyTetra_no ?_).quiet ?_ <;> conv => whnf)
    | (refine draw_auto (by decide +kernel) ?_; conv => whnf)
    | (refine draw_asg (by decide +kernel) ?_; conv => whnf)
    | (refine draw_st (by decide +kernel) ?_; conv => whnf)
    | (refine draw_call (by decide +kernel) ?_; conv => whnf)
    | (refine enter_same (loop_n 12 ?_); conv => whnf)
    | (refine next_same ?_; conv => whnf)
    | (refine mapK_row (by assumption) ?_; conv => whnf)
    | (refine mapK_plain (Plain.of rfl) ?_; conv => whnf)
    | (refine mapK_lit ?_; conv => whnf)
    | (refine br_split (fun _ => ?_) (fun _ => ?_) <;> conv => whnf)
    | exact (rfl : (_ : Value) = _)
    | (simp only [*]; exact (rfl : (_ : Value) = _))
    | (simp [*]; done))

theorem c_laws_FnExactIsEmptyTetra {a b c d e f g h i x y z : Int} : Pure Try.prog n_laws_FnExactIsEmptyTetra [v12 a b c d e f g h i x y z] (bb true) := by
  cases h1 : isTetF a b c d e f g h i x y z
  · exact c_law_IsEmptyTetra_no h1
  · exact c_law_IsEmptyTetra_ok h1

end Go.Proofs.Ytndmkibdcfpddaa
