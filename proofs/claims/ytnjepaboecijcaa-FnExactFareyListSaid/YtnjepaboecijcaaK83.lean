/-
  Contracts of functions of the program (printed by a program of this work; Lean checks each).
  Conditions: as each contract states.
-/
import Derived.Test.YtnjepaboecijcaaK81
import Derived.Test.YtnjepaboecijcaaK82
namespace Go.Proofs.Ytnjepaboecijcaa
open Go.Ev Go.RowKit
set_option maxRecDepth 100000
set_option linter.unusedVariables false
set_option linter.unusedSimpArgs false

attribute [local irreducible] inF farL

theorem c_impl_FareyList_no {n : Int} (hin : inF n 1 16 = false) : CallOK Try.prog n_impl_FareyList [ii n] [] (fun v m_ => v = t2 (.slice none 0 0) (ii 2) ∧ m_ = []) := by
  refine callOK_ofF good fn_impl_FareyList ?_
  conv => whnf
  all_goals (repeat' first
    | exact out_forget [] ⟨rfl, rfl⟩ rfl (okB2_spec rfl) trivial rfl rfl
    | (refine StoreK.mk rfl ?_; conv => whnf)
    | exact join_same
    | exact (by assumption : (_ : Bool) = (_ : Bool))
    | (refine br_true (by assumption) ?_; conv => whnf)
    | (refine br_false (by assumption) ?_; conv => whnf)
    | (refine br_not ?_; conv => whnf)
    | (refine br_code ?_; conv => whnf)
    | (with_reducible refine br_and ?_; conv => whnf)
    | (with_reducible refine br_or ?_; conv => whnf)
    | (refine br_eq2 ?_; conv => whnf)
    | (refine c_impl_in.call ?_; conv => whnf)
    | (refine c_impl_in.quiet ?_; conv => whnf)
    | (refine c_impl_gcd.call ?_; conv => whnf)
    | (refine c_impl_gcd.quiet ?_; conv => whnf)
    | (refine draw_auto (by decide +kernel) ?_; conv => whnf)
    | (refine draw_asg (by decide +kernel) ?_; conv => whnf)
    | (refine draw_st (by decide +kernel) ?_; conv => whnf)
    | (refine draw_call (by decide +kernel) ?_; conv => whnf)
    | (refine enter_same (loop_n 12 ?_); conv => whnf)
    | (refine next_same ?_; conv => whnf)
    | (refine mapK_row (by assumption) ?_; conv => whnf)
    | (refine mapK_plain (Plain.of rfl) ?_; conv => whnf)
    | (refine mapK_lit ?_; conv => whnf)
    | (refine br_split (fun _ => ?_) (fun _ => ?_) <;> conv => whnf)
    | exact (rfl : (_ : Value) = _)
    | (simp only [*]; exact (rfl : (_ : Value) = _))
    | (simp [*]; done))

theorem c_spec_FareyList_no {n : Int} (hin : inF n 1 16 = false) : CallOK Try.prog n_spec_FareyList [ii n] [] (fun v m_ => v = t2 (.slice none 0 0) (ii 2) ∧ m_ = []) := by
  refine callOK_ofF good fn_spec_FareyList ?_
  conv => whnf
  all_goals (repeat' first
    | exact out_forget [] ⟨rfl, rfl⟩ rfl (okB2_spec rfl) trivial rfl rfl
    | (refine StoreK.mk rfl ?_; conv => whnf)
    | exact join_same
    | exact (by assumption : (_ : Bool) = (_ : Bool))
    | (refine br_true (by assumption) ?_; conv => whnf)
    | (refine br_false (by assumption) ?_; conv => whnf)
    | (refine br_not ?_; conv => whnf)
    | (refine br_code ?_; conv => whnf)
    | (with_reducible refine br_and ?_; conv => whnf)
    | (with_reducible refine br_or ?_; conv => whnf)
    | (refine br_eq2 ?_; conv => whnf)
    | (refine c_spec_l01In.call ?_; conv => whnf)
    | (refine c_spec_l01In.quiet ?_; conv => whnf)
    | (refine c_spec_l01Plus.call ?_; conv => whnf)
    | (refine c_spec_l01Plus.quiet ?_; conv => whnf)
    | (refine draw_auto (by decide +kernel) ?_; conv => whnf)
    | (refine draw_asg (by decide +kernel) ?_; conv => whnf)
    | (refine draw_st (by decide +kernel) ?_; conv => whnf)
    | (refine draw_call (by decide +kernel) ?_; conv => whnf)
    | (refine enter_same (loop_n 12 ?_); conv => whnf)
    | (refine next_same ?_; conv => whnf)
    | (refine mapK_row (by assumption) ?_; conv => whnf)
    | (refine mapK_plain (Plain.of rfl) ?_; conv => whnf)
    | (refine mapK_lit ?_; conv => whnf)
    | (refine br_split (fun _ => ?_) (fun _ => ?_) <;> conv => whnf)
    | exact (rfl : (_ : Value) = _)
    | (simp only [*]; exact (rfl : (_ : Value) = _))
    | (simp [*]; done))

theorem c_law_FareyList_ok {m : Nat} (hm1 : 1 ≤ m) (hm : m ≤ 16) : Pure Try.prog n_laws_FnExactFareyList [ii (m : Int)] (bb true) := by
  refine pure_of good fn_laws_FnExactFareyList rfl rfl ?_
  conv => whnf
  all_goals (repeat' first
    | (refine br_true ?_ ?_; (focus (simp; done)); conv => whnf)
    | (refine br_false ?_ ?_; (focus (simp; done)); conv => whnf)
    | (refine br_false (decide_eq_false (by omega)) ?_; conv => whnf)
    | (refine draw_call (by decide +kernel) ?_; conv => whnf)
    | (refine StoreK.mk rfl ?_; conv => whnf)
    | exact join_same
    | exact (by assumption : (_ : Bool) = (_ : Bool))
    | (refine br_true (by assumption) ?_; conv => whnf)
    | (refine br_false (by assumption) ?_; conv => whnf)
    | (refine br_not ?_; conv => whnf)
    | (refine br_code ?_; conv => whnf)
    | (with_reducible refine br_and ?_; conv => whnf)
    | (with_reducible refine br_or ?_; conv => whnf)
    | (refine br_eq2 ?_; conv => whnf)
    | (refine CallOK.useR (c_spec_FareyList_ok (by first | assumption | exact Row.lit rfl rfl | omega) (by first | assumption | exact Row.lit rfl rfl | omega)) [] rfl rfl rfl trivial (fun v_ mem_ hR => ?_); obtain ⟨n_, c_, sp_, hrow_, hn_, rfl, rfl⟩ := hR; refine ⟨rfl, ?_⟩; conv => whnf)
    | (refine CallOK.useR (c_impl_FareyList_ok (by first | assumption | exact Row.lit rfl rfl | omega) (by first | assumption | exact Row.lit rfl rfl | omega)) [] rfl rfl rfl trivial (fun v_ mem_ hR => ?_); obtain ⟨n_, c_, sp_, hrow_, hn_, rfl, rfl⟩ := hR; refine ⟨rfl, ?_⟩; conv => whnf)
    | (refine CallOK.useR (c_laws_eqPointS (by first | assumption | exact Row.lit rfl rfl | omega) (by first | assumption | exact Row.lit rfl rfl | omega) (by first | assumption | exact Row.lit rfl rfl | omega)) [_, _] rfl rfl rfl ⟨⟨⟨_, rfl, .plain rfl (fun _ h_ => by first | exact h_ | cases h_) (by first | exact Plain.of rfl | exact Row.all (by assumption))⟩⟩, ⟨⟨_, rfl, .plain rfl (fun _ h_ => by first | exact h_ | cases h_) (by first | exact Plain.of rfl | exact Row.all (by assumption))⟩⟩, trivial⟩ (fun v_ mem_ hR => ?_); obtain ⟨rfl, rfl⟩ := hR; refine ⟨rfl, ?_⟩; conv => whnf)
    | (refine c_eqPointS_nil.call ?_; conv => whnf)
    | (refine c_eqPointS_nil.quiet ?_; conv => whnf)
    | (refine CallOK.useR c_eqPointS_empty [_, _] rfl rfl rfl ⟨⟨⟨_, rfl, .plain rfl (fun _ h_ => by first | exact h_ | cases h_) (by first | exact Plain.of rfl | exact Row.all (by assumption))⟩⟩, ⟨⟨_, rfl, .plain rfl (fun _ h_ => by first | exact h_ | cases h_) (by first | exact Plain.of rfl | exact Row.all (by assumption))⟩⟩, trivial⟩ (fun v_ mem_ hR => ?_); obtain ⟨rfl, rfl⟩ := hR; refine ⟨rfl, ?_⟩; conv => whnf)
    | (refine CallOK.useR (c_laws_markPointS (by first | assumption | exact Row.lit rfl rfl | omega) (by first | assumption | exact Row.lit rfl rfl | omega) (by first | assumption | exact Row.lit rfl rfl | omega)) [_] rfl rfl rfl ⟨⟨⟨_, rfl, .plain rfl (fun _ h_ => by first | exact h_ | cases h_) (by first | exact Plain.of rfl | exact Row.all (by assumption))⟩⟩, trivial⟩ (fun v_ mem_ hR => ?_); obtain ⟨sq_, hrow_, rfl, rfl⟩ := hR; refine ⟨rfl, ?_⟩; conv => whnf)
    | (refine c_markPointS_nil.call ?_; conv => whnf)
    | (refine c_markPointS_nil.quiet ?_; conv => whnf)
    | (refine CallOK.useR (c_laws_heldPointS (by first | assumption | exact Row.lit rfl rfl | omega) (by first | assumption | exact Row.lit rfl rfl | omega) (by first | assumption | exact Row.lit rfl rfl | omega)) [_] rfl rfl rfl ⟨⟨⟨_, rfl, .plain rfl (fun _ h_ => by first | exact h_ | cases h_) (by first | exact Plain.of rfl | exact Row.all (by assumption))⟩⟩, trivial⟩ (fun v_ mem_ hR => ?_); obtain ⟨rfl, rfl⟩ := hR; refine ⟨rfl, ?_⟩; conv => whnf)
    | (refine c_heldPointS_nil.call ?_; conv => whnf)
    | (refine c_heldPointS_nil.quiet ?_; conv => whnf)
    | (refine draw_auto (by decide +kernel) ?_; conv => whnf)
    | (refine draw_asg (by decide +kernel) ?_; conv => whnf)
    | (refine draw_st (by decide +kernel) ?_; conv => whnf)
    | (refine draw_call (by decide +kernel) ?_; conv => whnf)
    | (refine enter_same (loop_n 12 ?_); conv => whnf)
    | (refine next_same ?_; conv => whnf)
    | (refine mapK_row (by assumption) ?_; conv => whnf)
    | (refine mapK_plain (Plain.of rfl) ?_; conv => whnf)
    | (refine mapK_lit ?_; conv => whnf)
    | (refine br_split (fun _ => ?_) (fun _ => ?_) <;> conv => whnf)
    | exact (rfl : (_ : Value) = _)
    | (simp only [*]; exact (rfl : (_ : Value) = _))
    | (simp [*]; done))

theorem c_law_FareyList_no {n : Int} (hin : inF n 1 16 = false) : Pure Try.prog n_laws_FnExactFareyList [ii n] (bb true) := by
  refine pure_of good fn_laws_FnExactFareyList rfl rfl ?_
  conv => whnf
  all_goals (repeat' first
    | (refine br_true ?_ ?_; (focus (simp; done)); conv => whnf)
    | (refine br_false ?_ ?_; (focus (simp; done)); conv => whnf)
    | (refine br_false (decide_eq_false (by omega)) ?_; conv => whnf)
    | (refine draw_call (by decide +kernel) ?_; conv => whnf)
    | (refine StoreK.mk rfl ?_; conv => whnf)
    | exact join_same
    | exact (by assumption : (_ : Bool) = (_ : Bool))
    | (refine br_true (by assumption) ?_; conv => whnf)
    | (refine br_false (by assumption) ?_; conv => whnf)
    | (refine br_not ?_; conv => whnf)
    | (refine br_code ?_; conv => whnf)
    | (with_reducible refine br_and ?_; conv => whnf)
    | (with_reducible refine br_or ?_; conv => whnf)
    | (refine br_eq2 ?_; conv => whnf)
    | (refine CallOK.useR (c_spec_FareyList_no (by first | assumption | exact Row.lit rfl rfl | omega)) [] rfl rfl rfl trivial (fun v_ mem_ hR => ?_); obtain ⟨rfl, rfl⟩ := hR; refine ⟨rfl, ?_⟩; conv => whnf)
    | (refine CallOK.useR (c_impl_FareyList_no (by first | assumption | exact Row.lit rfl rfl | omega)) [] rfl rfl rfl trivial (fun v_ mem_ hR => ?_); obtain ⟨rfl, rfl⟩ := hR; refine ⟨rfl, ?_⟩; conv => whnf)
    | (refine CallOK.useR (c_laws_eqPointS (by first | assumption | exact Row.lit rfl rfl | omega) (by first | assumption | exact Row.lit rfl rfl | omega) (by first | assumption | exact Row.lit rfl rfl | omega)) [_, _] rfl rfl rfl ⟨⟨⟨_, rfl, .plain rfl (fun _ h_ => by first | exact h_ | cases h_) (by first | exact Plain.of rfl | exact Row.all (by assumption))⟩⟩, ⟨⟨_, rfl, .plain rfl (fun _ h_ => by first | exact h_ | cases h_) (by first | exact Plain.of rfl | exact Row.all (by assumption))⟩⟩, trivial⟩ (fun v_ mem_ hR => ?_); obtain ⟨rfl, rfl⟩ := hR; refine ⟨rfl, ?_⟩; conv => whnf)
    | (refine c_eqPointS_nil.call ?_; conv => whnf)
    | (refine c_eqPointS_nil.quiet ?_; conv => whnf)
    | (refine CallOK.useR c_eqPointS_empty [_, _] rfl rfl rfl ⟨⟨⟨_, rfl, .plain rfl (fun _ h_ => by first | exact h_ | cases h_) (by first | exact Plain.of rfl | exact Row.all (by assumption))⟩⟩, ⟨⟨_, rfl, .plain rfl (fun _ h_ => by first | exact h_ | cases h_) (by first | exact Plain.of rfl | exact Row.all (by assumption))⟩⟩, trivial⟩ (fun v_ mem_ hR => ?_); obtain ⟨rfl, rfl⟩ := hR; refine ⟨rfl, ?_⟩; conv => whnf)
    | (refine CallOK.useR (c_laws_markPointS (by first | assumption | exact Row.lit rfl rfl | omega) (by first | assumption | exact Row.lit rfl rfl | omega) (by first | assumption | exact Row.lit rfl rfl | omega)) [_] rfl rfl rfl ⟨⟨⟨_, rfl, .plain rfl (fun _ h_ => by first | exact h_ | cases h_) (by first | exact Plain.of rfl | exact Row.all (by assumption))⟩⟩, trivial⟩ (fun v_ mem_ hR => ?_); obtain ⟨sq_, hrow_, rfl, rfl⟩ := hR; refine ⟨rfl, ?_⟩; conv => whnf)
    | (refine c_markPointS_nil.call ?_; conv => whnf)
    | (refine c_markPointS_nil.quiet ?_; conv => whnf)
    | (refine CallOK.useR (c_laws_heldPointS (by first | assumption | exact Row.lit rfl rfl | omega) (by first | assumption | exact Row.lit rfl rfl | omega) (by first | assumption | exact Row.lit rfl rfl | omega)) [_] rfl rfl rfl ⟨⟨⟨_, rfl, .plain rfl (fun _ h_ => by first | exact h_ | cases h_) (by first | exact Plain.of rfl | exact Row.all (by assumption))⟩⟩, trivial⟩ (fun v_ mem_ hR => ?_); obtain ⟨rfl, rfl⟩ := hR; refine ⟨rfl, ?_⟩; conv => whnf)
    | (refine c_heldPointS_nil.call ?_; conv => whnf)
    | (refine c_heldPointS_nil.quiet ?_; conv => whnf)
    | (refine draw_auto (by decide +kernel) ?_; conv => whnf)
    | (refine draw_asg (by decide +kernel) ?_; conv => whnf)
    | (refine draw_st (by decide +kernel) ?_; conv => whnf)
    | (refine draw_call (by decide +kernel) ?_; conv => whnf)
    | (refine enter_same (loop_n 12 ?_); conv => whnf)
    | (refine next_same ?_; conv => whnf)
    | (refine mapK_row (by assumption) ?_; conv => whnf)
    | (refine mapK_plain (Plain.of rfl) ?_; conv => whnf)
    | (refine mapK_lit ?_; conv => whnf)
    | (refine br_split (fun _ => ?_) (fun _ => ?_) <;> conv => whnf)
    | exact (rfl : (_ : Value) = _)
    | (simp only [*]; exact (rfl : (_ : Value) = _))
    | (simp [*]; done))

theorem c_laws_FnExactFareyList {a : Int} : Pure Try.prog n_laws_FnExactFareyList [ii a] (bb true) := by
  cases h : inF a 1 16
  · exact c_law_FareyList_no h
  · obtain ⟨m, rfl⟩ : ∃ m : Nat, a = (m : Int) := ⟨a.toNat, by unfold inF at h; simp only [Bool.and_eq_true, decide_eq_true_eq] at h; omega⟩
    exact c_law_FareyList_ok (by unfold inF at h; simp only [Bool.and_eq_true, decide_eq_true_eq] at h; omega) (by unfold inF at h; simp only [Bool.and_eq_true, decide_eq_true_eq] at h; omega)

end Go.Proofs.Ytnjepaboecijcaa
