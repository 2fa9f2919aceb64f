/-
  Contracts of functions of the program (printed by a program of this work; Lean checks each).
  Conditions: as each contract states.
-/
import Derived.Test.YtnjepaboecijcaaDoorK101
import Derived.Test.YtnjepaboecijcaaDoorK102
namespace Go.Proofs.YtnjepaboecijcaaDoor
open Go.Ev Go.RowKit
set_option maxRecDepth 100000
set_option linter.unusedVariables false
set_option linter.unusedSimpArgs false

attribute [local irreducible] isPtF plusF okPath pX pY ByteArray.extract

theorem okPath_long {u : ByteArray} (h : ¬ (u.size : Int) ≤ 60) : okPath u = false := by
  cases ho : okPath u with
  | false => rfl
  | true => have := ((okPath_iff u).1 ho).1; rw [← size_len] at this; omega

theorem c_law_FractionOfPath_ok {u : ByteArray} (hk : u.size ≤ 1048576) (ho : okPath u = true) : Pure Tryd.prog n_laws_FnExactFractionOfPath [.string u] (bb true) := by
  have hs : u.size ≤ 9223372036854775807 := (by omega); refine pure_of good fn_laws_FnExactFractionOfPath rfl rfl ?_
  conv => whnf
  all_goals (repeat' first
    | (refine br_false (b := decide ((u.size : Int) > 1048576)) (decide_eq_false (by omega)) ?_; conv => whnf)
    | exact hs
    | exact ho
    | exact hl
    | (refine br_true ?_ ?_; (focus (simp; done)); conv => whnf)
    | (refine br_false ?_ ?_; (focus (simp; done)); conv => whnf)
    | (refine StoreK.mk rfl ?_; conv => whnf)
    | exact join_same
    | exact (by assumption : (_ : Bool) = (_ : Bool))
    | (refine br_true (by assumption) ?_; conv => whnf)
    | (refine br_false (by assumption) ?_; conv => whnf)
    | (refine br_not ?_; conv => whnf)
    | (refine br_code ?_; conv => whnf)
    | (with_reducible refine br_and ?_; conv => whnf)
    | (with_reducible refine br_or ?_; conv => whnf)
    | (refine br_eq2 ?_; conv => whnf)
    | (refine (c_spec_FractionOfPath_ok ?_).call ?_ <;> conv => whnf)
    | (refine (c_spec_FractionOfPath_ok ?_).quiet ?_ <;> conv => whnf)
    | (refine (c_impl_FractionOfPath_ok ?_ ?_).call ?_ <;> conv => whnf)
    | (refine (c_impl_FractionOfPath_ok ?_ ?_).quiet ?_ <;> conv => whnf)
    | (refine c_laws_eqPoint.call ?_; conv => whnf)
    | (refine c_laws_eqPoint.quiet ?_; conv => whnf)
    | (refine draw_auto (by decide +kernel) ?_; conv => whnf)
    | (refine draw_asg (by decide +kernel) ?_; conv => whnf)
    | (refine draw_st (by decide +kernel) ?_; conv => whnf)
    | (refine draw_call (by decide +kernel) ?_; conv => whnf)
    | (refine enter_same (loop_n 12 ?_); conv => whnf)
    | (refine next_same ?_; conv => whnf)
    | (refine mapK_row (by assumption) ?_; conv => whnf)
    | (refine mapK_plain (Plain.of rfl) ?_; conv => whnf)
    | (refine mapK_lit ?_; conv => whnf)
    | (refine br_split (fun _ => ?_) (fun _ => ?_) <;> conv => whnf)
    | exact (rfl : (_ : Value) = _)
    | (simp only [*]; exact (rfl : (_ : Value) = _))
    | (simp [*]; done))

theorem c_law_FractionOfPath_bad {u : ByteArray} (hl : (u.size : Int) ≤ 60) (ho : okPath u = false) : Pure Tryd.prog n_laws_FnExactFractionOfPath [.string u] (bb true) := by
  have hs : u.size ≤ 9223372036854775807 := (by omega); refine pure_of good fn_laws_FnExactFractionOfPath rfl rfl ?_
  conv => whnf
  all_goals (repeat' first
    | (refine br_false (b := decide ((u.size : Int) > 1048576)) (decide_eq_false (by omega)) ?_; conv => whnf)
    | exact hs
    | exact ho
    | exact hl
    | (refine br_true ?_ ?_; (focus (simp; done)); conv => whnf)
    | (refine br_false ?_ ?_; (focus (simp; done)); conv => whnf)
    | (refine StoreK.mk rfl ?_; conv => whnf)
    | exact join_same
    | exact (by assumption : (_ : Bool) = (_ : Bool))
    | (refine br_true (by assumption) ?_; conv => whnf)
    | (refine br_false (by assumption) ?_; conv => whnf)
    | (refine br_not ?_; conv => whnf)
    | (refine br_code ?_; conv => whnf)
    | (with_reducible refine br_and ?_; conv => whnf)
    | (with_reducible refine br_or ?_; conv => whnf)
    | (refine br_eq2 ?_; conv => whnf)
    | (refine (c_spec_FractionOfPath_bad ?_ ?_).call ?_ <;> conv => whnf)
    | (refine (c_spec_FractionOfPath_bad ?_ ?_).quiet ?_ <;> conv => whnf)
    | (refine (c_impl_FractionOfPath_no ?_ ?_).call ?_ <;> conv => whnf)
    | (refine (c_impl_FractionOfPath_no ?_ ?_).quiet ?_ <;> conv => whnf)
    | (refine c_laws_eqPoint.call ?_; conv => whnf)
    | (refine c_laws_eqPoint.quiet ?_; conv => whnf)
    | (refine draw_auto (by decide +kernel) ?_; conv => whnf)
    | (refine draw_asg (by decide +kernel) ?_; conv => whnf)
    | (refine draw_st (by decide +kernel) ?_; conv => whnf)
    | (refine draw_call (by decide +kernel) ?_; conv => whnf)
    | (refine enter_same (loop_n 12 ?_); conv => whnf)
    | (refine next_same ?_; conv => whnf)
    | (refine mapK_row (by assumption) ?_; conv => whnf)
    | (refine mapK_plain (Plain.of rfl) ?_; conv => whnf)
    | (refine mapK_lit ?_; conv => whnf)
    | (refine br_split (fun _ => ?_) (fun _ => ?_) <;> conv => whnf)
    | exact (rfl : (_ : Value) = _)
    | (simp only [*]; exact (rfl : (_ : Value) = _))
    | (simp [*]; done))

theorem c_law_FractionOfPath_long {u : ByteArray} (hk : u.size ≤ 1048576) (hl : ¬ (u.size : Int) ≤ 60) : Pure Tryd.prog n_laws_FnExactFractionOfPath [.string u] (bb true) := by
  have hs : u.size ≤ 9223372036854775807 := (by omega); have ho := okPath_long hl; refine pure_of good fn_laws_FnExactFractionOfPath rfl rfl ?_
  conv => whnf
  all_goals (repeat' first
    | (refine br_false (b := decide ((u.size : Int) > 1048576)) (decide_eq_false (by omega)) ?_; conv => whnf)
    | exact hs
    | exact ho
    | exact hl
    | (refine br_true ?_ ?_; (focus (simp; done)); conv => whnf)
    | (refine br_false ?_ ?_; (focus (simp; done)); conv => whnf)
    | (refine StoreK.mk rfl ?_; conv => whnf)
    | exact join_same
    | exact (by assumption : (_ : Bool) = (_ : Bool))
    | (refine br_true (by assumption) ?_; conv => whnf)
    | (refine br_false (by assumption) ?_; conv => whnf)
    | (refine br_not ?_; conv => whnf)
    | (refine br_code ?_; conv => whnf)
    | (with_reducible refine br_and ?_; conv => whnf)
    | (with_reducible refine br_or ?_; conv => whnf)
    | (refine br_eq2 ?_; conv => whnf)
    | (refine (c_spec_FractionOfPath_long ?_).call ?_ <;> conv => whnf)
    | (refine (c_spec_FractionOfPath_long ?_).quiet ?_ <;> conv => whnf)
    | (refine (c_impl_FractionOfPath_no ?_ ?_).call ?_ <;> conv => whnf)
    | (refine (c_impl_FractionOfPath_no ?_ ?_).quiet ?_ <;> conv => whnf)
    | (refine c_laws_eqPoint.call ?_; conv => whnf)
    | (refine c_laws_eqPoint.quiet ?_; conv => whnf)
    | (refine draw_auto (by decide +kernel) ?_; conv => whnf)
    | (refine draw_asg (by decide +kernel) ?_; conv => whnf)
    | (refine draw_st (by decide +kernel) ?_; conv => whnf)
    | (refine draw_call (by decide +kernel) ?_; conv => whnf)
    | (refine enter_same (loop_n 12 ?_); conv => whnf)
    | (refine next_same ?_; conv => whnf)
    | (refine mapK_row (by assumption) ?_; conv => whnf)
    | (refine mapK_plain (Plain.of rfl) ?_; conv => whnf)
    | (refine mapK_lit ?_; conv => whnf)
    | (refine br_split (fun _ => ?_) (fun _ => ?_) <;> conv => whnf)
    | exact (rfl : (_ : Value) = _)
    | (simp only [*]; exact (rfl : (_ : Value) = _))
    | (simp [*]; done))

theorem c_law_FractionOfPath_huge {u : ByteArray} (hk : ¬ u.size ≤ 1048576) : Pure Tryd.prog n_laws_FnExactFractionOfPath [.string u] (bb true) := by
  refine pure_of good fn_laws_FnExactFractionOfPath rfl rfl ?_
  conv => whnf
  all_goals (repeat' first
    | (refine br_true (b := decide ((u.size : Int) > 1048576)) (decide_eq_true (by omega)) ?_; conv => whnf)
    | (refine StoreK.mk rfl ?_; conv => whnf)
    | exact join_same
    | exact (by assumption : (_ : Bool) = (_ : Bool))
    | (refine br_true (by assumption) ?_; conv => whnf)
    | (refine br_false (by assumption) ?_; conv => whnf)
    | (refine br_not ?_; conv => whnf)
    | (refine br_code ?_; conv => whnf)
    | (with_reducible refine br_and ?_; conv => whnf)
    | (with_reducible refine br_or ?_; conv => whnf)
    | (refine br_eq2 ?_; conv => whnf)
    | (refine (c_spec_FractionOfPath_long ?_).call ?_ <;> conv => whnf)
    | (refine (c_spec_FractionOfPath_long ?_).quiet ?_ <;> conv => whnf)
    | (refine (c_spec_FractionOfPath_bad ?_ ?_).call ?_ <;> conv => whnf)
    | (refine (c_spec_FractionOfPath_bad ?_ ?_).quiet ?_ <;> conv => whnf)
    | (refine (c_spec_FractionOfPath_ok ?_).call ?_ <;> conv => whnf)
    | (refine (c_spec_FractionOfPath_ok ?_).quiet ?_ <;> conv => whnf)
    | (refine (c_impl_FractionOfPath_no ?_ ?_).call ?_ <;> conv => whnf)
    | (refine (c_impl_FractionOfPath_no ?_ ?_).quiet ?_ <;> conv => whnf)
    | (refine (c_impl_FractionOfPath_ok ?_ ?_).call ?_ <;> conv => whnf)
    | (refine (c_impl_FractionOfPath_ok ?_ ?_).quiet ?_ <;> conv => whnf)
    | (refine c_laws_eqPoint.call ?_; conv => whnf)
    | (refine c_laws_eqPoint.quiet ?_; conv => whnf)
    | (refine draw_auto (by decide +kernel) ?_; conv => whnf)
    | (refine draw_asg (by decide +kernel) ?_; conv => whnf)
    | (refine draw_st (by decide +kernel) ?_; conv => whnf)
    | (refine draw_call (by decide +kernel) ?_; conv => whnf)
    | (refine enter_same (loop_n 12 ?_); conv => whnf)
    | (refine next_same ?_; conv => whnf)
    | (refine mapK_row (by assumption) ?_; conv => whnf)
    | (refine mapK_plain (Plain.of rfl) ?_; conv => whnf)
    | (refine mapK_lit ?_; conv => whnf)
    | (refine br_split (fun _ => ?_) (fun _ => ?_) <;> conv => whnf)
    | exact (rfl : (_ : Value) = _)
    | (simp only [*]; exact (rfl : (_ : Value) = _))
    | (simp [*]; done))

theorem c_laws_FnExactFractionOfPath {u : ByteArray} : Pure Tryd.prog n_laws_FnExactFractionOfPath [.string u] (bb true) := by
  by_cases hk : u.size ≤ 1048576
  · cases ho : okPath u
    · by_cases hl : (u.size : Int) ≤ 60
      · exact c_law_FractionOfPath_bad hl ho
      · exact c_law_FractionOfPath_long hk hl
    · exact c_law_FractionOfPath_ok hk ho
  · exact c_law_FractionOfPath_huge hk

end Go.Proofs.YtnjepaboecijcaaDoor
