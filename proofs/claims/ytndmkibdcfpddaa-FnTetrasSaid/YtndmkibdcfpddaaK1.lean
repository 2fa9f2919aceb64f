/-
  Contracts of functions of the program (printed by a program of this work; Lean checks each).
  Conditions: as each contract states.
-/
import Derived.Test.YtndmkibdcfpddaaTbl
import Derived.Test.YtndmkibdcfpddaaMath
namespace Go.Proofs.Ytndmkibdcfpddaa
open Go.Ev Go.RowKit
set_option maxRecDepth 100000
set_option linter.unusedVariables false
set_option linter.unusedSimpArgs false

abbrev ii (a : Int) : Value := .int .i64 a
abbrev bb (a : Bool) : Value := .bool a
abbrev pt (a b : Int) : Value := .agg #[.int .i64 a, .int .i64 b]
abbrev tri (a b c d e f : Int) : Value := .agg #[.int .i64 a, .int .i64 b, .int .i64 c, .int .i64 d, .int .i64 e, .int .i64 f]
abbrev q4 (a b c d : Int) : Value := .agg #[.int .i64 a, .int .i64 b, .int .i64 c, .int .i64 d]
abbrev t2 (a b : Value) : Value := .tuple #[a, b]
abbrev fnv (n : Nat) : Value := .func (.func n) #[] #[]

theorem c_impl_in {n l h : Int}  : Pure Try.prog n_impl_in [ii n, ii l, ii h] (bb (inF n l h)) := by
  refine pure_of good fn_impl_in rfl rfl ?_
  conv => whnf
  all_goals (repeat' first
    | (refine StoreK.mk rfl ?_; conv => whnf)
    | exact join_same
    | exact (by assumption : (_ : Bool) = (_ : Bool))
    | (refine br_true (by assumption) ?_; conv => whnf)
    | (refine br_false (by assumption) ?_; conv => whnf)
    | (refine br_not ?_; conv => whnf)
    | (refine br_code ?_; conv => whnf)
    | (with_reducible refine br_and ?_; conv => whnf)
    | (with_reducible refine br_or ?_; conv => whnf)
    | (refine br_eq2 ?_; conv => whnf)
    | (refine draw_auto (by decide +kernel) ?_; conv => whnf)
    | (refine draw_asg (by decide +kernel) ?_; conv => whnf)
    | (refine draw_st (by decide +kernel) ?_; conv => whnf)
    | (refine draw_call (by decide +kernel) ?_; conv => whnf)
    | (refine enter_same (loop_n 12 ?_); conv => whnf)
    | (refine next_same ?_; conv => whnf)
    | (refine mapK_row (by assumption) ?_; conv => whnf)
    | (refine mapK_plain (Plain.of rfl) ?_; conv => whnf)
    | (refine mapK_lit ?_; conv => whnf)
    | (refine br_split (fun _ => ?_) (fun _ => ?_) <;> conv => whnf)
    | exact (rfl : (_ : Value) = _)
    | (simp only [*]; exact (rfl : (_ : Value) = _))
    | (simp [inF, *]; done))

theorem c_spec_l01In {n l h : Int}  : Pure Try.prog n_spec_l01In [ii n, ii l, ii h] (bb (inF n l h)) := by
  refine pure_of good fn_spec_l01In rfl rfl ?_
  conv => whnf
  all_goals (repeat' first
    | (refine StoreK.mk rfl ?_; conv => whnf)
    | exact join_same
    | exact (by assumption : (_ : Bool) = (_ : Bool))
    | (refine br_true (by assumption) ?_; conv => whnf)
    | (refine br_false (by assumption) ?_; conv => whnf)
    | (refine br_not ?_; conv => whnf)
    | (refine br_code ?_; conv => whnf)
    | (with_reducible refine br_and ?_; conv => whnf)
    | (with_reducible refine br_or ?_; conv => whnf)
    | (refine br_eq2 ?_; conv => whnf)
    | (refine draw_auto (by decide +kernel) ?_; conv => whnf)
    | (refine draw_asg (by decide +kernel) ?_; conv => whnf)
    | (refine draw_st (by decide +kernel) ?_; conv => whnf)
    | (refine draw_call (by decide +kernel) ?_; conv => whnf)
    | (refine enter_same (loop_n 12 ?_); conv => whnf)
    | (refine next_same ?_; conv => whnf)
    | (refine mapK_row (by assumption) ?_; conv => whnf)
    | (refine mapK_plain (Plain.of rfl) ?_; conv => whnf)
    | (refine mapK_lit ?_; conv => whnf)
    | (refine br_split (fun _ => ?_) (fun _ => ?_) <;> conv => whnf)
    | exact (rfl : (_ : Value) = _)
    | (simp only [*]; exact (rfl : (_ : Value) = _))
    | (simp [inF, *]; done))

theorem c_impl_size {n : Int}  : Pure Try.prog n_impl_size [ii n] (ii (sizeF n)) := by
  refine pure_of good fn_impl_size rfl rfl ?_
  conv => whnf
  all_goals (repeat' first
    | (refine StoreK.mk rfl ?_; conv => whnf)
    | exact join_same
    | exact (by assumption : (_ : Bool) = (_ : Bool))
    | (refine br_true (by assumption) ?_; conv => whnf)
    | (refine br_false (by assumption) ?_; conv => whnf)
    | (refine br_not ?_; conv => whnf)
    | (refine br_code ?_; conv => whnf)
    | (with_reducible refine br_and ?_; conv => whnf)
    | (with_reducible refine br_or ?_; conv => whnf)
    | (refine br_eq2 ?_; conv => whnf)
    | (refine draw_auto (by decide +kernel) ?_; conv => whnf)
    | (refine draw_asg (by decide +kernel) ?_; conv => whnf)
    | (refine draw_st (by decide +kernel) ?_; conv => whnf)
    | (refine draw_call (by decide +kernel) ?_; conv => whnf)
    | (refine enter_same (loop_n 12 ?_); conv => whnf)
    | (refine next_same ?_; conv => whnf)
    | (refine mapK_row (by assumption) ?_; conv => whnf)
    | (refine mapK_plain (Plain.of rfl) ?_; conv => whnf)
    | (refine mapK_lit ?_; conv => whnf)
    | (refine br_split (fun _ => ?_) (fun _ => ?_) <;> conv => whnf)
    | exact (rfl : (_ : Value) = _)
    | (simp only [*]; exact (rfl : (_ : Value) = _))
    | (simp [*]; done))

theorem c_impl_gcd {a b : Int}  : Pure Try.prog n_impl_gcd [ii a, ii b] (ii (gcdF a b)) := by
  refine pure_of good fn_impl_gcd rfl rfl ?_
  conv => whnf
  all_goals (repeat' first
    | (refine enter_same (loop_rec (fun (s : Int × Int × Value × Value × Value × Value × Value × Value) => match s with | (x, y, u5, u6, u7, u8, u9, u10) => [ii x, ii y, undef, undef, ii 0, u5, u6, u7, u8, u9, u10, undef, undef]) (fun (s : Int × Int × Value × Value × Value × Value × Value × Value) => match s with | (x, y, u5, u6, u7, u8, u9, u10) => []) (fun (s : Int × Int × Value × Value × Value × Value × Value × Value) => match s with | (x, y, u5, u6, u7, u8, u9, u10) => y.natAbs) (fun (s : Int × Int × Value × Value × Value × Value × Value × Value) => match s with | (x, y, u5, u6, u7, u8, u9, u10) => gcdL x y = gcdL a b) (a, b, _, _, _, _, _, _) rfl ?_); rintro n ⟨x, y, u5, u6, u7, u8, u9, u10⟩ hI IH; replace hI : gcdL x y = gcdL a b := hI; conv => whnf)
    | exact next_same (IH (y, x.tmod y, _, _, _, _, _, _) (Eq.trans (gcdL_step (ne_of_dec (by assumption))).symm hI) (tmod_lt (ne_of_dec (by assumption))))
    | (refine StoreK.mk rfl ?_; conv => whnf)
    | exact join_same
    | exact (by assumption : (_ : Bool) = (_ : Bool))
    | (refine br_true (by assumption) ?_; conv => whnf)
    | (refine br_false (by assumption) ?_; conv => whnf)
    | (refine br_not ?_; conv => whnf)
    | (refine br_code ?_; conv => whnf)
    | (with_reducible refine br_and ?_; conv => whnf)
    | (with_reducible refine br_or ?_; conv => whnf)
    | (refine br_eq2 ?_; conv => whnf)
    | (refine c_impl_size.call ?_; conv => whnf)
    | (refine c_impl_size.quiet ?_; conv => whnf)
    | (refine draw_auto (by decide +kernel) ?_; conv => whnf)
    | (refine draw_asg (by decide +kernel) ?_; conv => whnf)
    | (refine draw_st (by decide +kernel) ?_; conv => whnf)
    | (refine draw_call (by decide +kernel) ?_; conv => whnf)
    | (refine enter_same (loop_n 12 ?_); conv => whnf)
    | (refine next_same ?_; conv => whnf)
    | (refine mapK_row (by assumption) ?_; conv => whnf)
    | (refine mapK_plain (Plain.of rfl) ?_; conv => whnf)
    | (refine mapK_lit ?_; conv => whnf)
    | (refine br_split (fun _ => ?_) (fun _ => ?_) <;> conv => whnf)
    | exact (rfl : (_ : Value) = _)
    | (simp only [gcdF, sizeF, ← hI, eq_of_dec (show decide (y = 0) = true by assumption), gcdL_zero]; done)
    | (simp only [*]; exact (rfl : (_ : Value) = _))
    | (simp [*]; done))

theorem c_spec_l01Gcd {a b : Int}  : Pure Try.prog n_spec_l01Gcd [ii a, ii b] (ii (gcdF a b)) := by
  refine pure_of good fn_spec_l01Gcd rfl rfl ?_
  conv => whnf
  all_goals (repeat' first
    | (refine enter_same (loop_rec (fun (s : Int × Int × Value × Value × Value × Value × Value × Value × Value × Value) => match s with | (x, y, u5, u6, u7, u8, u9, u10, u11, u12) => [ii x, ii y, undef, undef, ii 0, u5, u6, u7, u8, u9, u10, u11, u12, undef, undef, undef, undef]) (fun (s : Int × Int × Value × Value × Value × Value × Value × Value × Value × Value) => match s with | (x, y, u5, u6, u7, u8, u9, u10, u11, u12) => []) (fun (s : Int × Int × Value × Value × Value × Value × Value × Value × Value × Value) => match s with | (x, y, u5, u6, u7, u8, u9, u10, u11, u12) => y.natAbs) (fun (s : Int × Int × Value × Value × Value × Value × Value × Value × Value × Value) => match s with | (x, y, u5, u6, u7, u8, u9, u10, u11, u12) => gcdL x y = gcdL a b) (a, b, _, _, _, _, _, _, _, _) rfl ?_); rintro n ⟨x, y, u5, u6, u7, u8, u9, u10, u11, u12⟩ hI IH; replace hI : gcdL x y = gcdL a b := hI; conv => whnf)
    | exact next_same (IH (y, x.tmod y, _, _, _, _, _, _, _, _) (Eq.trans (gcdL_step (ne_of_dec (by assumption))).symm hI) (tmod_lt (ne_of_dec (by assumption))))
    | (refine StoreK.mk rfl ?_; conv => whnf)
    | exact join_same
    | exact (by assumption : (_ : Bool) = (_ : Bool))
    | (refine br_true (by assumption) ?_; conv => whnf)
    | (refine br_false (by assumption) ?_; conv => whnf)
    | (refine br_not ?_; conv => whnf)
    | (refine br_code ?_; conv => whnf)
    | (with_reducible refine br_and ?_; conv => whnf)
    | (with_reducible refine br_or ?_; conv => whnf)
    | (refine br_eq2 ?_; conv => whnf)
    | (refine draw_auto (by decide +kernel) ?_; conv => whnf)
    | (refine draw_asg (by decide +kernel) ?_; conv => whnf)
    | (refine draw_st (by decide +kernel) ?_; conv => whnf)
    | (refine draw_call (by decide +kernel) ?_; conv => whnf)
    | (refine enter_same (loop_n 12 ?_); conv => whnf)
    | (refine next_same ?_; conv => whnf)
    | (refine mapK_row (by assumption) ?_; conv => whnf)
    | (refine mapK_plain (Plain.of rfl) ?_; conv => whnf)
    | (refine mapK_lit ?_; conv => whnf)
    | (refine br_split (fun _ => ?_) (fun _ => ?_) <;> conv => whnf)
    | exact (rfl : (_ : Value) = _)
    | (simp only [gcdF, sizeF, ← hI, eq_of_dec (show decide (y = 0) = true by assumption), gcdL_zero]; done)
    | (simp only [*]; exact (rfl : (_ : Value) = _))
    | (simp [*]; done))

end Go.Proofs.Ytndmkibdcfpddaa
