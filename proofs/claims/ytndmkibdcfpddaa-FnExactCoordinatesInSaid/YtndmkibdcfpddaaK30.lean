/-
  Contracts of functions of the program (printed by a program of this work; Lean checks each).
  Conditions: as each contract states.
-/
import Derived.Test.YtndmkibdcfpddaaK8
import Derived.Test.YtndmkibdcfpddaaK6
namespace Go.Proofs.Ytndmkibdcfpddaa
open Go.Ev Go.RowKit
set_option maxRecDepth 100000
set_option linter.unusedVariables false
set_option linter.unusedSimpArgs false

attribute [local irreducible] isConeF isSpF co0 co1 co2

theorem cone_ok {a b c d e f g h i x y z : Int} (h1 : (isConeF a b c d e f g h i && isSpF x y z) = true) : isConeF a b c d e f g h i = true ∧ isSpF x y z = true := by simpa using h1

theorem c_impl_CoordinatesIn_ok {a b c d e f g h i x y z : Int} (h1 : (isConeF a b c d e f g h i && isSpF x y z) = true) : CallOK Try.prog n_impl_CoordinatesIn [v9 a b c d e f g h i, v3 x y z] [] (fun v m_ => v = t2 (.slice (some ⟨0, 0, none⟩) 3 3) (ii 0) ∧ m_ = [(il [co0 a b c d e f g h i x y z, co1 a b c d e f g h i x y z, co2 a b c d e f g h i x y z] ++ [], some t_impl_Spot)]) := by
  have h2 := (cone_ok h1).1; have h3 := (cone_ok h1).2; refine callOK_ofF good fn_impl_CoordinatesIn ?_
  conv => whnf
  all_goals (repeat' first
    | exact out_forget [_] ⟨rfl, rfl⟩ rfl (okB2_spec rfl) ⟨⟨⟨_, rfl, .plain rfl rfl (by first | exact Plain.of rfl | exact Row.all (by assumption))⟩⟩, trivial⟩ rfl rfl
    | exact out_forget [] ⟨rfl, rfl⟩ rfl (okB2_spec rfl) trivial rfl rfl
    | (rw [h1]; exact out_forget [] ⟨rfl, rfl⟩ rfl (okB2_spec rfl) trivial rfl rfl)
    | exact absurd h1 (by rw [show isConeF a b c d e f g h i = true by assumption, show isSpF x y z = true by assumption]; decide)
    | (refine StoreK.mk rfl ?_; conv => whnf)
    | exact join_same
    | exact (by assumption : (_ : Bool) = (_ : Bool))
    | (refine br_true (by assumption) ?_; conv => whnf)
    | (refine br_false (by assumption) ?_; conv => whnf)
    | (refine br_not ?_; conv => whnf)
    | (refine br_code ?_; conv => whnf)
    | (with_reducible refine br_and ?_; conv => whnf)
    | (with_reducible refine br_or ?_; conv => whnf)
    | (refine br_eq2 ?_; conv => whnf)
    | (refine c_impl_IsCone.call ?_; conv => whnf)
    | (refine c_impl_IsCone.quiet ?_; conv => whnf)
    | (refine c_impl_IsSpot.call ?_; conv => whnf)
    | (refine c_impl_IsSpot.quiet ?_; conv => whnf)
    | (refine c_impl_Cone_coordinates.call ?_; conv => whnf)
    | (refine c_impl_Cone_coordinates.quiet ?_; conv => whnf)
    | (refine draw_auto (by decide +kernel) ?_; conv => whnf)
    | (refine draw_asg (by decide +kernel) ?_; conv => whnf)
    | (refine draw_st (by decide +kernel) ?_; conv => whnf)
    | (refine draw_call (by decide +kernel) ?_; conv => whnf)
    | (refine enter_same (loop_n 12 ?_); conv => whnf)
    | (refine next_same ?_; conv => whnf)
    | (refine mapK_row (by assumption) ?_; conv => whnf)
    | (refine mapK_plain (Plain.of rfl) ?_; conv => whnf)
    | (refine mapK_lit ?_; conv => whnf)
    | (refine br_split (fun _ => ?_) (fun _ => ?_) <;> conv => whnf)
    | exact (rfl : (_ : Value) = _)
    | (simp only [*]; exact (rfl : (_ : Value) = _))
    | (simp [*]; done))

theorem c_impl_CoordinatesIn_no {a b c d e f g h i x y z : Int} (h1 : (isConeF a b c d e f g h i && isSpF x y z) = false) : CallOK Try.prog n_impl_CoordinatesIn [v9 a b c d e f g h i, v3 x y z] [] (fun v m_ => v = t2 (.slice none 0 0) (ii 1) ∧ m_ = []) := by
  refine callOK_ofF good fn_impl_CoordinatesIn ?_
  conv => whnf
  all_goals (repeat' first
    | exact out_forget [_] ⟨rfl, rfl⟩ rfl (okB2_spec rfl) ⟨⟨⟨_, rfl, .plain rfl rfl (by first | exact Plain.of rfl | exact Row.all (by assumption))⟩⟩, trivial⟩ rfl rfl
    | exact out_forget [] ⟨rfl, rfl⟩ rfl (okB2_spec rfl) trivial rfl rfl
    | (rw [h1]; exact out_forget [] ⟨rfl, rfl⟩ rfl (okB2_spec rfl) trivial rfl rfl)
    | exact absurd h1 (by rw [show isConeF a b c d e f g h i = true by assumption, show isSpF x y z = true by assumption]; decide)
    | (refine StoreK.mk rfl ?_; conv => whnf)
    | exact join_same
    | exact (by assumption : (_ : Bool) = (_ : Bool))
    | (refine br_true (by assumption) ?_; conv => whnf)
    | (refine br_false (by assumption) ?_; conv => whnf)
    | (refine br_not ?_; conv => whnf)
    | (refine br_code ?_; conv => whnf)
    | (with_reducible refine br_and ?_; conv => whnf)
    | (with_reducible refine br_or ?_; conv => whnf)
    | (refine br_eq2 ?_; conv => whnf)
    | (refine c_impl_IsCone.call ?_; conv => whnf)
    | (refine c_impl_IsCone.quiet ?_; conv => whnf)
    | (refine c_impl_IsSpot.call ?_; conv => whnf)
    | (refine c_impl_IsSpot.quiet ?_; conv => whnf)
    | (refine c_impl_Cone_coordinates.call ?_; conv => whnf)
    | (refine c_impl_Cone_coordinates.quiet ?_; conv => whnf)
    | (refine draw_auto (by decide +kernel) ?_; conv => whnf)
    | (refine draw_asg (by decide +kernel) ?_; conv => whnf)
    | (refine draw_st (by decide +kernel) ?_; conv => whnf)
    | (refine draw_call (by decide +kernel) ?_; conv => whnf)
    | (refine enter_same (loop_n 12 ?_); conv => whnf)
    | (refine next_same ?_; conv => whnf)
    | (refine mapK_row (by assumption) ?_; conv => whnf)
    | (refine mapK_plain (Plain.of rfl) ?_; conv => whnf)
    | (refine mapK_lit ?_; conv => whnf)
    | (refine br_split (fun _ => ?_) (fun _ => ?_) <;> conv => whnf)
    | exact (rfl : (_ : Value) = _)
    | (simp only [*]; exact (rfl : (_ : Value) = _))
    | (simp [*]; done))

theorem c_spec_CoordinatesIn_ok {a b c d e f g h i x y z : Int} (h1 : (isConeF a b c d e f g h i && isSpF x y z) = true) : CallOK Try.prog n_spec_CoordinatesIn [v9 a b c d e f g h i, v3 x y z] [] (fun v m_ => v = t2 (.slice (some ⟨0, 0, none⟩) 3 3) (ii 0) ∧ m_ = [(il [co0 a b c d e f g h i x y z, co1 a b c d e f g h i x y z, co2 a b c d e f g h i x y z] ++ [], some 2)]) := by
  have h2 := (cone_ok h1).1; have h3 := (cone_ok h1).2; refine callOK_ofF good fn_spec_CoordinatesIn ?_
  conv => whnf
  all_goals (repeat' first
    | exact out_forget [_] ⟨rfl, rfl⟩ rfl (okB2_spec rfl) ⟨⟨⟨_, rfl, .plain rfl rfl (by first | exact Plain.of rfl | exact Row.all (by assumption))⟩⟩, trivial⟩ rfl rfl
    | exact out_forget [] ⟨rfl, rfl⟩ rfl (okB2_spec rfl) trivial rfl rfl
    | (rw [h1]; exact out_forget [] ⟨rfl, rfl⟩ rfl (okB2_spec rfl) trivial rfl rfl)
    | exact absurd h1 (by rw [show isConeF a b c d e f g h i = true by assumption, show isSpF x y z = true by assumption]; decide)
    | (refine StoreK.mk rfl ?_; conv => whnf)
    | exact join_same
    | exact (by assumption : (_ : Bool) = (_ : Bool))
    | (refine br_true (by assumption) ?_; conv => whnf)
    | (refine br_false (by assumption) ?_; conv => whnf)
    | (refine br_not ?_; conv => whnf)
    | (refine br_code ?_; conv => whnf)
    | (with_reducible refine br_and ?_; conv => whnf)
    | (with_reducible refine br_or ?_; conv => whnf)
    | (refine br_eq2 ?_; conv => whnf)
    | (refine c_spec_l08Code.call ?_; conv => whnf)
    | (refine c_spec_l08Code.quiet ?_; conv => whnf)
    | (refine c_spec_l08Coordinates.call ?_; conv => whnf)
    | (refine c_spec_l08Coordinates.quiet ?_; conv => whnf)
    | (refine draw_auto (by decide +kernel) ?_; conv => whnf)
    | (refine draw_asg (by decide +kernel) ?_; conv => whnf)
    | (refine draw_st (by decide +kernel) ?_; conv => whnf)
    | (refine draw_call (by decide +kernel) ?_; conv => whnf)
    | (refine enter_same (loop_n 12 ?_); conv => whnf)
    | (refine next_same ?_; conv => whnf)
    | (refine mapK_row (by assumption) ?_; conv => whnf)
    | (refine mapK_plain (Plain.of rfl) ?_; conv => whnf)
    | (refine mapK_lit ?_; conv => whnf)
    | (refine br_split (fun _ => ?_) (fun _ => ?_) <;> conv => whnf)
    | exact (rfl : (_ : Value) = _)
    | (simp only [*]; exact (rfl : (_ : Value) = _))
    | (simp [*]; done))

theorem c_spec_CoordinatesIn_no {a b c d e f g h i x y z : Int} (h1 : (isConeF a b c d e f g h i && isSpF x y z) = false) : CallOK Try.prog n_spec_CoordinatesIn [v9 a b c d e f g h i, v3 x y z] [] (fun v m_ => v = t2 (.slice none 0 0) (ii 1) ∧ m_ = []) := by
  refine callOK_ofF good fn_spec_CoordinatesIn ?_
  conv => whnf
  all_goals (repeat' first
    | exact out_forget [_] ⟨rfl, rfl⟩ rfl (okB2_spec rfl) ⟨⟨⟨_, rfl, .plain rfl rfl (by first | exact Plain.of rfl | exact Row.all (by assumption))⟩⟩, trivial⟩ rfl rfl
    | exact out_forget [] ⟨rfl, rfl⟩ rfl (okB2_spec rfl) trivial rfl rfl
    | (rw [h1]; exact out_forget [] ⟨rfl, rfl⟩ rfl (okB2_spec rfl) trivial rfl rfl)
    | exact absurd h1 (by rw [show isConeF a b c d e f g h i = true by assumption, show isSpF x y z = true by assumption]; decide)
    | (refine StoreK.mk rfl ?_; conv => whnf)
    | exact join_same
    | exact (by assumption : (_ : Bool) = (_ : Bool))
    | (refine br_true (by assumption) ?_; conv => whnf)
    | (refine br_false (by assumption) ?_; conv => whnf)
    | (refine br_not ?_; conv => whnf)
    | (refine br_code ?_; conv => whnf)
    | (with_reducible refine br_and ?_; conv => whnf)
    | (with_reducible refine br_or ?_; conv => whnf)
    | (refine br_eq2 ?_; conv => whnf)
    | (refine c_spec_l08Code.call ?_; conv => whnf)
    | (refine c_spec_l08Code.quiet ?_; conv => whnf)
    | (refine c_spec_l08Coordinates.call ?_; conv => whnf)
    | (refine c_spec_l08Coordinates.quiet ?_; conv => whnf)
    | (refine draw_auto (by decide +kernel) ?_; conv => whnf)
    | (refine draw_asg (by decide +kernel) ?_; conv => whnf)
    | (refine draw_st (by decide +kernel) ?_; conv => whnf)
    | (refine draw_call (by decide +kernel) ?_; conv => whnf)
    | (refine enter_same (loop_n 12 ?_); conv => whnf)
    | (refine next_same ?_; conv => whnf)
    | (refine mapK_row (by assumption) ?_; conv => whnf)
    | (refine mapK_plain (Plain.of rfl) ?_; conv => whnf)
    | (refine mapK_lit ?_; conv => whnf)
    | (refine br_split (fun _ => ?_) (fun _ => ?_) <;> conv => whnf)
    | exact (rfl : (_ : Value) = _)
    | (simp only [*]; exact (rfl : (_ : Value) = _))
    | (simp [*]; done))

theorem c_law_CoordinatesIn_ok {a b c d e f g h i x y z : Int} (h1 : (isConeF a b c d e f g h i && isSpF x y z) = true) : Pure Try.prog n_laws_FnExactCoordinatesIn [v9 a b c d e f g h i, v3 x y z] (bb true) := by
  refine pure_of good fn_laws_FnExactCoordinatesIn rfl rfl ?_
  conv => whnf
  all_goals (repeat' first
    | (refine br_true ?_ ?_; (focus (simp; done)); conv => whnf)
    | (refine br_false ?_ ?_; (focus (simp; done)); conv => whnf)
    | (refine br_false (decide_eq_false (by omega)) ?_; conv => whnf)
    | (refine draw_call (by decide +kernel) ?_; conv => whnf)
    | (refine StoreK.mk rfl ?_; conv => whnf)
    | exact join_same
    | exact (by assumption : (_ : Bool) = (_ : Bool))
    | (refine br_true (by assumption) ?_; conv => whnf)
    | (refine br_false (by assumption) ?_; conv => whnf)
    | (refine br_not ?_; conv => whnf)
    | (refine br_code ?_; conv => whnf)
    | (with_reducible refine br_and ?_; conv => whnf)
    | (with_reducible refine br_or ?_; conv => whnf)
    | (refine br_eq2 ?_; conv => whnf)
    | (refine c_laws_toCone.call ?_; conv => whnf)
    | (refine c_laws_toCone.quiet ?_; conv => whnf)
    | (refine c_laws_toSpot.call ?_; conv => whnf)
    | (refine c_laws_toSpot.quiet ?_; conv => whnf)
    | (refine CallOK.useR (c_spec_CoordinatesIn_ok (by first | assumption | exact Row.lit rfl rfl | omega)) [] rfl rfl rfl trivial (fun v_ mem_ hR => ?_); obtain ⟨rfl, rfl⟩ := hR; refine ⟨rfl, ?_⟩; conv => whnf)
    | (refine CallOK.useR (c_spec_CoordinatesIn_no (by first | assumption | exact Row.lit rfl rfl | omega)) [] rfl rfl rfl trivial (fun v_ mem_ hR => ?_); obtain ⟨rfl, rfl⟩ := hR; refine ⟨rfl, ?_⟩; conv => whnf)
    | (refine CallOK.useR (c_impl_CoordinatesIn_ok (by first | assumption | exact Row.lit rfl rfl | omega)) [] rfl rfl rfl trivial (fun v_ mem_ hR => ?_); obtain ⟨rfl, rfl⟩ := hR; refine ⟨rfl, ?_⟩; conv => whnf)
    | (refine CallOK.useR (c_impl_CoordinatesIn_no (by first | assumption | exact Row.lit rfl rfl | omega)) [] rfl rfl rfl trivial (fun v_ mem_ hR => ?_); obtain ⟨rfl, rfl⟩ := hR; refine ⟨rfl, ?_⟩; conv => whnf)
    | (refine CallOK.useR (c_laws_eqInt64S (by first | assumption | exact Row.lit rfl rfl | omega) (by first | assumption | exact Row.lit rfl rfl | omega) (by first | assumption | exact Row.lit rfl rfl | omega)) [_, _] rfl rfl rfl ⟨⟨⟨_, rfl, .plain rfl (fun _ h_ => by first | exact h_ | cases h_) (by first | exact Plain.of rfl | exact Row.all (by assumption))⟩⟩, ⟨⟨_, rfl, .plain rfl (fun _ h_ => by first | exact h_ | cases h_) (by first | exact Plain.of rfl | exact Row.all (by assumption))⟩⟩, trivial⟩ (fun v_ mem_ hR => ?_); obtain ⟨rfl, rfl⟩ := hR; refine ⟨rfl, ?_⟩; conv => whnf)
    | (refine c_eqInt64S_nil.call ?_; conv => whnf)
    | (refine c_eqInt64S_nil.quiet ?_; conv => whnf)
    | (refine CallOK.useR (c_laws_markInt64S_Spot (by first | assumption | exact Row.lit rfl rfl | omega) (by first | assumption | exact Row.lit rfl rfl | omega) (by first | assumption | exact Row.lit rfl rfl | omega)) [_] rfl rfl rfl ⟨⟨⟨_, rfl, .plain rfl (fun _ h_ => by first | exact h_ | cases h_) (by first | exact Plain.of rfl | exact Row.all (by assumption))⟩⟩, trivial⟩ (fun v_ mem_ hR => ?_); obtain ⟨sq_, hrow_, rfl, rfl⟩ := hR; refine ⟨rfl, ?_⟩; conv => whnf)
    | (refine c_markInt64S_nil.call ?_; conv => whnf)
    | (refine c_markInt64S_nil.quiet ?_; conv => whnf)
    | (refine CallOK.useR (c_laws_heldInt64S (by first | assumption | exact Row.lit rfl rfl | omega) (by first | assumption | exact Row.lit rfl rfl | omega) (by first | assumption | exact Row.lit rfl rfl | omega)) [_] rfl rfl rfl ⟨⟨⟨_, rfl, .plain rfl (fun _ h_ => by first | exact h_ | cases h_) (by first | exact Plain.of rfl | exact Row.all (by assumption))⟩⟩, trivial⟩ (fun v_ mem_ hR => ?_); obtain ⟨rfl, rfl⟩ := hR; refine ⟨rfl, ?_⟩; conv => whnf)
    | (refine c_heldInt64S_nil.call ?_; conv => whnf)
    | (refine c_heldInt64S_nil.quiet ?_; conv => whnf)
    | (refine draw_auto (by decide +kernel) ?_; conv => whnf)
    | (refine draw_asg (by decide +kernel) ?_; conv => whnf)
    | (refine draw_st (by decide +kernel) ?_; conv => whnf)
    | (refine draw_call (by decide +kernel) ?_; conv => whnf)
    | (refine enter_same (loop_n 12 ?_); conv => whnf)
    | (refine next_same ?_; conv => whnf)
    | (refine mapK_row (by assumption) ?_; conv => whnf)
    | (refine mapK_plain (Plain.of rfl) ?_; conv => whnf)
    | (refine mapK_lit ?_; conv => whnf)
    | (refine br_split (fun _ => ?_) (fun _ => ?_) <;> conv => whnf)
    | exact (rfl : (_ : Value) = _)
    | (simp only [*]; exact (rfl : (_ : Value) = _))
    | (simp [*]; done))

theorem c_law_CoordinatesIn_no {a b c d e f g h i x y z : Int} (h1 : (isConeF a b c d e f g h i && isSpF x y z) = false) : Pure Try.prog n_laws_FnExactCoordinatesIn [v9 a b c d e f g h i, v3 x y z] (bb true) := by
  refine pure_of good fn_laws_FnExactCoordinatesIn rfl rfl ?_
  conv => whnf
  all_goals (repeat' first
    | (refine br_true ?_ ?_; (focus (simp; done)); conv => whnf)
    | (refine br_false ?_ ?_; (focus (simp; done)); conv => whnf)
    | (refine br_false (decide_eq_false (by omega)) ?_; conv => whnf)
    | (refine draw_call (by decide +kernel) ?_; conv => whnf)
    | (refine StoreK.mk rfl ?_; conv => whnf)
    | exact join_same
    | exact (by assumption : (_ : Bool) = (_ : Bool))
    | (refine br_true (by assumption) ?_; conv => whnf)
    | (refine br_false (by assumption) ?_; conv => whnf)
    | (refine br_not ?_; conv => whnf)
    | (refine br_code ?_; conv => whnf)
    | (with_reducible refine br_and ?_; conv => whnf)
    | (with_reducible refine br_or ?_; conv => whnf)
    | (refine br_eq2 ?_; conv => whnf)
    | (refine c_laws_toCone.call ?_; conv => whnf)
    | (refine c_laws_toCone.quiet ?_; conv => whnf)
    | (refine c_laws_toSpot.call ?_; conv => whnf)
    | (refine c_laws_toSpot.quiet ?_; conv => whnf)
    | (refine CallOK.useR (c_spec_CoordinatesIn_ok (by first | assumption | exact Row.lit rfl rfl | omega)) [] rfl rfl rfl trivial (fun v_ mem_ hR => ?_); obtain ⟨rfl, rfl⟩ := hR; refine ⟨rfl, ?_⟩; conv => whnf)
    | (refine CallOK.useR (c_spec_CoordinatesIn_no (by first | assumption | exact Row.lit rfl rfl | omega)) [] rfl rfl rfl trivial (fun v_ mem_ hR => ?_); obtain ⟨rfl, rfl⟩ := hR; refine ⟨rfl, ?_⟩; conv => whnf)
    | (refine CallOK.useR (c_impl_CoordinatesIn_ok (by first | assumption | exact Row.lit rfl rfl | omega)) [] rfl rfl rfl trivial (fun v_ mem_ hR => ?_); obtain ⟨rfl, rfl⟩ := hR; refine ⟨rfl, ?_⟩; conv => whnf)
    | (refine CallOK.useR (c_impl_CoordinatesIn_no (by first | assumption | exact Row.lit rfl rfl | omega)) [] rfl rfl rfl trivial (fun v_ mem_ hR => ?_); obtain ⟨rfl, rfl⟩ := hR; refine ⟨rfl, ?_⟩; conv => whnf)
    | (refine CallOK.useR (c_laws_eqInt64S (by first | assumption | exact Row.lit rfl rfl | omega) (by first | assumption | exact Row.lit rfl rfl | omega) (by first | assumption | exact Row.lit rfl rfl | omega)) [_, _] rfl rfl rfl ⟨⟨⟨_, rfl, .plain rfl (fun _ h_ => by first | exact h_ | cases h_) (by first | exact Plain.of rfl | exact Row.all (by assumption))⟩⟩, ⟨⟨_, rfl, .plain rfl (fun _ h_ => by first | exact h_ | cases h_) (by first | exact Plain.of rfl | exact Row.all (by assumption))⟩⟩, trivial⟩ (fun v_ mem_ hR => ?_); obtain ⟨rfl, rfl⟩ := hR; refine ⟨rfl, ?_⟩; conv => whnf)
    | (refine c_eqInt64S_nil.call ?_; conv => whnf)
    | (refine c_eqInt64S_nil.quiet ?_; conv => whnf)
    | (refine CallOK.useR (c_laws_markInt64S_Spot (by first | assumption | exact Row.lit rfl rfl | omega) (by first | assumption | exact Row.lit rfl rfl | omega) (by first | assumption | exact Row.lit rfl rfl | omega)) [_] rfl rfl rfl ⟨⟨⟨_, rfl, .plain rfl (fun _ h_ => by first | exact h_ | cases h_) (by first | exact Plain.of rfl | exact Row.all (by assumption))⟩⟩, trivial⟩ (fun v_ mem_ hR => ?_); obtain ⟨sq_, hrow_, rfl, rfl⟩ := hR; refine ⟨rfl, ?_⟩; conv => whnf)
    | (refine c_markInt64S_nil.call ?_; conv => whnf)
    | (refine c_markInt64S_nil.quiet ?_; conv => whnf)
    | (refine CallOK.useR (c_laws_heldInt64S (by first | assumption | exact Row.lit rfl rfl | omega) (by first | assumption | exact Row.lit rfl rfl | omega) (by first | assumption | exact Row.lit rfl rfl | omega)) [_] rfl rfl rfl ⟨⟨⟨_, rfl, .plain rfl (fun _ h_ => by first | exact h_ | cases h_) (by first | exact Plain.of rfl | exact Row.all (by assumption))⟩⟩, trivial⟩ (fun v_ mem_ hR => ?_); obtain ⟨rfl, rfl⟩ := hR; refine ⟨rfl, ?_⟩; conv => whnf)
    | (refine c_heldInt64S_nil.call ?_; conv => whnf)
    | (refine c_heldInt64S_nil.quiet ?_; conv => whnf)
    | (refine draw_auto (by decide +kernel) ?_; conv => whnf)
    | (refine draw_asg (by decide +kernel) ?_; conv => whnf)
    | (refine draw_st (by decide +kernel) ?_; conv => whnf)
    | (refine draw_call (by decide +kernel) ?_; conv => whnf)
    | (refine enter_same (loop_n 12 ?_); conv => whnf)
    | (refine next_same ?_; conv => whnf)
    | (refine mapK_row (by assumption) ?_; conv => whnf)
    | (refine mapK_plain (Plain.of rfl) ?_; conv => whnf)
    | (refine mapK_lit ?_; conv => whnf)
    | (refine br_split (fun _ => ?_) (fun _ => ?_) <;> conv => whnf)
    | exact (rfl : (_ : Value) = _)
    | (simp only [*]; exact (rfl : (_ : Value) = _))
    | (simp [*]; done))

theorem c_laws_FnExactCoordinatesIn {a b c d e f g h i x y z : Int} : Pure Try.prog n_laws_FnExactCoordinatesIn [v9 a b c d e f g h i, v3 x y z] (bb true) := by
  cases h1 : (isConeF a b c d e f g h i && isSpF x y z)
  · exact c_law_CoordinatesIn_no h1
  · exact c_law_CoordinatesIn_ok h1

end Go.Proofs.Ytndmkibdcfpddaa
