/-
  Contracts of functions of the program (printed by a program of this work; Lean checks each).
  Conditions: as each contract states.
-/
import Derived.Test.YtndmkibdcfpddaaK145
import Derived.Test.YtndmkibdcfpddaaK143
import Derived.Test.YtndmkibdcfpddaaBof
import Derived.Test.YtndmkibdcfpddaaKM3
namespace Go.Proofs.Ytndmkibdcfpddaa
open Go.Ev Go.RowKit
set_option maxRecDepth 100000
set_option linter.unusedVariables false
set_option linter.unusedSimpArgs false

attribute [local irreducible] isConeF sizeF volF boxO boxL Cn.own

theorem c_boxFault_no1 {a b c d e f g h i : Int} (h1 : isConeF a b c d e f g h i = false) : Pure Try.prog n_impl_boxFault [v9 a b c d e f g h i] (ii 1) := by
  refine pure_of good fn_impl_boxFault rfl rfl ?_
  conv => whnf
  all_goals (repeat' first
    | (refine StoreK.mk rfl ?_; conv => whnf)
    | exact join_same
    | exact (by assumption : (_ : Bool) = (_ : Bool))
    | (refine br_true (by assumption) ?_; conv => whnf)
    | (refine br_false (by assumption) ?_; conv => whnf)
    | (refine br_not ?_; conv => whnf)
    | (refine br_code ?_; conv => whnf)
    | (with_reducible refine br_and ?_; conv => whnf)
    | (with_reducible refine br_or ?_; conv => whnf)
    | (refine br_eq2 ?_; conv => whnf)
    | (refine c_impl_IsCone.call ?_; conv => whnf)
    | (refine c_impl_IsCone.quiet ?_; conv => whnf)
    | (refine c_impl_Cone_det.call ?_; conv => whnf)
    | (refine c_impl_Cone_det.quiet ?_; conv => whnf)
    | (refine c_impl_size.call ?_; conv => whnf)
    | (refine c_impl_size.quiet ?_; conv => whnf)
    | (refine draw_auto (by decide +kernel) ?_; conv => whnf)
    | (refine draw_asg (by decide +kernel) ?_; conv => whnf)
    | (refine draw_st (by decide +kernel) ?_; conv => whnf)
    | (refine draw_call (by decide +kernel) ?_; conv => whnf)
    | (refine enter_same (loop_n 12 ?_); conv => whnf)
    | (refine next_same ?_; conv => whnf)
    | (refine mapK_row (by assumption) ?_; conv => whnf)
    | (refine mapK_plain (Plain.of rfl) ?_; conv => whnf)
    | (refine mapK_lit ?_; conv => whnf)
    | (refine br_split (fun _ => ?_) (fun _ => ?_) <;> conv => whnf)
    | exact (rfl : (_ : Value) = _)
    | (simp only [*]; exact (rfl : (_ : Value) = _))
    | (simp [*]; done))

theorem c_boxFault_no3 {a b c d e f g h i : Int} (h1 : isConeF a b c d e f g h i = true) (h2 : decide (sizeF (volF a b c d e f g h i) > 400) = true) : Pure Try.prog n_impl_boxFault [v9 a b c d e f g h i] (ii 3) := by
  refine pure_of good fn_impl_boxFault rfl rfl ?_
  conv => whnf
  all_goals (repeat' first
    | (refine StoreK.mk rfl ?_; conv => whnf)
    | exact join_same
    | exact (by assumption : (_ : Bool) = (_ : Bool))
    | (refine br_true (by assumption) ?_; conv => whnf)
    | (refine br_false (by assumption) ?_; conv => whnf)
    | (refine br_not ?_; conv => whnf)
    | (refine br_code ?_; conv => whnf)
    | (with_reducible refine br_and ?_; conv => whnf)
    | (with_reducible refine br_or ?_; conv => whnf)
    | (refine br_eq2 ?_; conv => whnf)
    | (refine c_impl_IsCone.call ?_; conv => whnf)
    | (refine c_impl_IsCone.quiet ?_; conv => whnf)
    | (refine c_impl_Cone_det.call ?_; conv => whnf)
    | (refine c_impl_Cone_det.quiet ?_; conv => whnf)
    | (refine c_impl_size.call ?_; conv => whnf)
    | (refine c_impl_size.quiet ?_; conv => whnf)
    | (refine draw_auto (by decide +kernel) ?_; conv => whnf)
    | (refine draw_asg (by decide +kernel) ?_; conv => whnf)
    | (refine draw_st (by decide +kernel) ?_; conv => whnf)
    | (refine draw_call (by decide +kernel) ?_; conv => whnf)
    | (refine enter_same (loop_n 12 ?_); conv => whnf)
    | (refine next_same ?_; conv => whnf)
    | (refine mapK_row (by assumption) ?_; conv => whnf)
    | (refine mapK_plain (Plain.of rfl) ?_; conv => whnf)
    | (refine mapK_lit ?_; conv => whnf)
    | (refine br_split (fun _ => ?_) (fun _ => ?_) <;> conv => whnf)
    | exact (rfl : (_ : Value) = _)
    | (simp only [*]; exact (rfl : (_ : Value) = _))
    | (simp [*]; done))

theorem c_boxFault_ok {k : Cn} (hk : k.Ok) : Pure Try.prog n_impl_boxFault [v9 k.a k.b k.c k.d k.e k.f k.g k.h k.i] (ii 0) := by
  have h1 := Cn.cone_F hk; have h2 := Cn.lim_F hk; refine pure_of good fn_impl_boxFault rfl rfl ?_
  conv => whnf
  all_goals (repeat' first
    | (refine StoreK.mk rfl ?_; conv => whnf)
    | exact join_same
    | exact (by assumption : (_ : Bool) = (_ : Bool))
    | (refine br_true (by assumption) ?_; conv => whnf)
    | (refine br_false (by assumption) ?_; conv => whnf)
    | (refine br_not ?_; conv => whnf)
    | (refine br_code ?_; conv => whnf)
    | (with_reducible refine br_and ?_; conv => whnf)
    | (with_reducible refine br_or ?_; conv => whnf)
    | (refine br_eq2 ?_; conv => whnf)
    | (refine c_impl_IsCone.call ?_; conv => whnf)
    | (refine c_impl_IsCone.quiet ?_; conv => whnf)
    | (refine c_impl_Cone_det.call ?_; conv => whnf)
    | (refine c_impl_Cone_det.quiet ?_; conv => whnf)
    | (refine c_impl_size.call ?_; conv => whnf)
    | (refine c_impl_size.quiet ?_; conv => whnf)
    | (refine draw_auto (by decide +kernel) ?_; conv => whnf)
    | (refine draw_asg (by decide +kernel) ?_; conv => whnf)
    | (refine draw_st (by decide +kernel) ?_; conv => whnf)
    | (refine draw_call (by decide +kernel) ?_; conv => whnf)
    | (refine enter_same (loop_n 12 ?_); conv => whnf)
    | (refine next_same ?_; conv => whnf)
    | (refine mapK_row (by assumption) ?_; conv => whnf)
    | (refine mapK_plain (Plain.of rfl) ?_; conv => whnf)
    | (refine mapK_lit ?_; conv => whnf)
    | (refine br_split (fun _ => ?_) (fun _ => ?_) <;> conv => whnf)
    | exact (rfl : (_ : Value) = _)
    | (simp only [*]; exact (rfl : (_ : Value) = _))
    | (simp [*]; done))

theorem c_impl_BoxOf_no1 {a b c d e f g h i : Int} (h1 : isConeF a b c d e f g h i = false) : CallOK Try.prog n_impl_BoxOf [v9 a b c d e f g h i] [] (fun v m_ => v = t2 (.slice none 0 0) (ii 1) ∧ m_ = []) := by
  refine callOK_ofF good fn_impl_BoxOf ?_
  conv => whnf
  all_goals (repeat' first
    | exact out_forget [] ⟨rfl, rfl⟩ rfl (okB2_spec rfl) trivial rfl rfl
    | (refine StoreK.mk rfl ?_; conv => whnf)
    | exact join_same
    | exact (by assumption : (_ : Bool) = (_ : Bool))
    | (refine br_true (by assumption) ?_; conv => whnf)
    | (refine br_false (by assumption) ?_; conv => whnf)
    | (refine br_not ?_; conv => whnf)
    | (refine br_code ?_; conv => whnf)
    | (with_reducible refine br_and ?_; conv => whnf)
    | (with_reducible refine br_or ?_; conv => whnf)
    | (refine br_eq2 ?_; conv => whnf)
    | (refine (c_boxFault_no1 ?_).call ?_ <;> conv => whnf)
    | (refine (c_boxFault_no1 ?_).quiet ?_ <;> conv => whnf)
    | (refine (c_boxFault_no3 ?_ ?_).call ?_ <;> conv => whnf)
    | (refine (c_boxFault_no3 ?_ ?_).quiet ?_ <;> conv => whnf)
    | (refine (c_boxFault_ok ?_).call ?_ <;> conv => whnf)
    | (refine (c_boxFault_ok ?_).quiet ?_ <;> conv => whnf)
    | (refine CallOK.useR (c_Cone_spots (by first | assumption | exact Row.lit rfl rfl | omega) (by first | assumption | exact Row.lit rfl rfl | omega) (by first | assumption | exact Row.lit rfl rfl | omega)) [_] rfl rfl rfl ⟨⟨⟨_, rfl, .plain rfl (fun _ h_ => by first | exact h_ | cases h_) (by first | exact Plain.of rfl | exact Row.all (by assumption))⟩⟩, trivial⟩ (fun v_ mem_ hR => ?_); obtain ⟨n2_, c2_, s2_, L2_, hp_, hs_, hrow2_, rfl, rfl⟩ := hR; refine ⟨rfl, ?_⟩; conv => whnf)
    | (refine draw_auto (by decide +kernel) ?_; conv => whnf)
    | (refine draw_asg (by decide +kernel) ?_; conv => whnf)
    | (refine draw_st (by decide +kernel) ?_; conv => whnf)
    | (refine draw_call (by decide +kernel) ?_; conv => whnf)
    | (refine enter_same (loop_n 12 ?_); conv => whnf)
    | (refine next_same ?_; conv => whnf)
    | (refine mapK_row (by assumption) ?_; conv => whnf)
    | (refine mapK_plain (Plain.of rfl) ?_; conv => whnf)
    | (refine mapK_lit ?_; conv => whnf)
    | (refine br_split (fun _ => ?_) (fun _ => ?_) <;> conv => whnf)
    | exact (rfl : (_ : Value) = _)
    | (simp only [*]; exact (rfl : (_ : Value) = _))
    | (simp [*]; done))

theorem c_impl_BoxOf_no3 {a b c d e f g h i : Int} (h1 : isConeF a b c d e f g h i = true) (h2 : decide (sizeF (volF a b c d e f g h i) > 400) = true) : CallOK Try.prog n_impl_BoxOf [v9 a b c d e f g h i] [] (fun v m_ => v = t2 (.slice none 0 0) (ii 3) ∧ m_ = []) := by
  refine callOK_ofF good fn_impl_BoxOf ?_
  conv => whnf
  all_goals (repeat' first
    | exact out_forget [] ⟨rfl, rfl⟩ rfl (okB2_spec rfl) trivial rfl rfl
    | (refine StoreK.mk rfl ?_; conv => whnf)
    | exact join_same
    | exact (by assumption : (_ : Bool) = (_ : Bool))
    | (refine br_true (by assumption) ?_; conv => whnf)
    | (refine br_false (by assumption) ?_; conv => whnf)
    | (refine br_not ?_; conv => whnf)
    | (refine br_code ?_; conv => whnf)
    | (with_reducible refine br_and ?_; conv => whnf)
    | (with_reducible refine br_or ?_; conv => whnf)
    | (refine br_eq2 ?_; conv => whnf)
    | (refine (c_boxFault_no3 ?_ ?_).call ?_ <;> conv => whnf)
    | (refine (c_boxFault_no3 ?_ ?_).quiet ?_ <;> conv => whnf)
    | (refine CallOK.useR (c_Cone_spots (by first | assumption | exact Row.lit rfl rfl | omega) (by first | assumption | exact Row.lit rfl rfl | omega) (by first | assumption | exact Row.lit rfl rfl | omega)) [_] rfl rfl rfl ⟨⟨⟨_, rfl, .plain rfl (fun _ h_ => by first | exact h_ | cases h_) (by first | exact Plain.of rfl | exact Row.all (by assumption))⟩⟩, trivial⟩ (fun v_ mem_ hR => ?_); obtain ⟨n2_, c2_, s2_, L2_, hp_, hs_, hrow2_, rfl, rfl⟩ := hR; refine ⟨rfl, ?_⟩; conv => whnf)
    | (refine draw_auto (by decide +kernel) ?_; conv => whnf)
    | (refine draw_asg (by decide +kernel) ?_; conv => whnf)
    | (refine draw_st (by decide +kernel) ?_; conv => whnf)
    | (refine draw_call (by decide +kernel) ?_; conv => whnf)
    | (refine enter_same (loop_n 12 ?_); conv => whnf)
    | (refine next_same ?_; conv => whnf)
    | (refine mapK_row (by assumption) ?_; conv => whnf)
    | (refine mapK_plain (Plain.of rfl) ?_; conv => whnf)
    | (refine mapK_lit ?_; conv => whnf)
    | (refine br_split (fun _ => ?_) (fun _ => ?_) <;> conv => whnf)
    | exact (rfl : (_ : Value) = _)
    | (simp only [*]; exact (rfl : (_ : Value) = _))
    | (simp [*]; done))

theorem c_spec_BoxOf_no1 {a b c d e f g h i : Int} (h1 : isConeF a b c d e f g h i = false) : CallOK Try.prog n_spec_BoxOf [v9 a b c d e f g h i] [] (fun v m_ => v = t2 (.slice none 0 0) (ii 1) ∧ m_ = []) := by
  refine callOK_ofF good fn_spec_BoxOf ?_
  conv => whnf
  all_goals (repeat' first
    | exact out_forget [] ⟨rfl, rfl⟩ rfl (okB2_spec rfl) trivial rfl rfl
    | (refine StoreK.mk rfl ?_; conv => whnf)
    | exact join_same
    | exact (by assumption : (_ : Bool) = (_ : Bool))
    | (refine br_true (by assumption) ?_; conv => whnf)
    | (refine br_false (by assumption) ?_; conv => whnf)
    | (refine br_not ?_; conv => whnf)
    | (refine br_code ?_; conv => whnf)
    | (with_reducible refine br_and ?_; conv => whnf)
    | (with_reducible refine br_or ?_; conv => whnf)
    | (refine br_eq2 ?_; conv => whnf)
    | (refine c_spec_l08Is.call ?_; conv => whnf)
    | (refine c_spec_l08Is.quiet ?_; conv => whnf)
    | (refine c_spec_l08Size.call ?_; conv => whnf)
    | (refine c_spec_l08Size.quiet ?_; conv => whnf)
    | (refine CallOK.useR (c_l08Box (by first | assumption | exact Row.lit rfl rfl | omega)) [] rfl rfl rfl trivial (fun v_ mem_ hR => ?_); obtain ⟨n_, c_, sp_, hrow_, hn_, rfl, rfl⟩ := hR; refine ⟨rfl, ?_⟩; conv => whnf)
    | (refine draw_auto (by decide +kernel) ?_; conv => whnf)
    | (refine draw_asg (by decide +kernel) ?_; conv => whnf)
    | (refine draw_st (by decide +kernel) ?_; conv => whnf)
    | (refine draw_call (by decide +kernel) ?_; conv => whnf)
    | (refine enter_same (loop_n 12 ?_); conv => whnf)
    | (refine next_same ?_; conv => whnf)
    | (refine mapK_row (by assumption) ?_; conv => whnf)
    | (refine mapK_plain (Plain.of rfl) ?_; conv => whnf)
    | (refine mapK_lit ?_; conv => whnf)
    | (refine br_split (fun _ => ?_) (fun _ => ?_) <;> conv => whnf)
    | exact (rfl : (_ : Value) = _)
    | (simp only [*]; exact (rfl : (_ : Value) = _))
    | (simp [*]; done))

theorem c_spec_BoxOf_no3 {a b c d e f g h i : Int} (h1 : isConeF a b c d e f g h i = true) (h2 : decide (sizeF (volF a b c d e f g h i) > 400) = true) : CallOK Try.prog n_spec_BoxOf [v9 a b c d e f g h i] [] (fun v m_ => v = t2 (.slice none 0 0) (ii 3) ∧ m_ = []) := by
  refine callOK_ofF good fn_spec_BoxOf ?_
  conv => whnf
  all_goals (repeat' first
    | exact out_forget [] ⟨rfl, rfl⟩ rfl (okB2_spec rfl) trivial rfl rfl
    | (refine StoreK.mk rfl ?_; conv => whnf)
    | exact join_same
    | exact (by assumption : (_ : Bool) = (_ : Bool))
    | (refine br_true (by assumption) ?_; conv => whnf)
    | (refine br_false (by assumption) ?_; conv => whnf)
    | (refine br_not ?_; conv => whnf)
    | (refine br_code ?_; conv => whnf)
    | (with_reducible refine br_and ?_; conv => whnf)
    | (with_reducible refine br_or ?_; conv => whnf)
    | (refine br_eq2 ?_; conv => whnf)
    | (refine c_spec_l08Is.call ?_; conv => whnf)
    | (refine c_spec_l08Is.quiet ?_; conv => whnf)
    | (refine c_spec_l08Size.call ?_; conv => whnf)
    | (refine c_spec_l08Size.quiet ?_; conv => whnf)
    | (refine CallOK.useR (c_l08Box (by first | assumption | exact Row.lit rfl rfl | omega)) [] rfl rfl rfl trivial (fun v_ mem_ hR => ?_); obtain ⟨n_, c_, sp_, hrow_, hn_, rfl, rfl⟩ := hR; refine ⟨rfl, ?_⟩; conv => whnf)
    | (refine draw_auto (by decide +kernel) ?_; conv => whnf)
    | (refine draw_asg (by decide +kernel) ?_; conv => whnf)
    | (refine draw_st (by decide +kernel) ?_; conv => whnf)
    | (refine draw_call (by decide +kernel) ?_; conv => whnf)
    | (refine enter_same (loop_n 12 ?_); conv => whnf)
    | (refine next_same ?_; conv => whnf)
    | (refine mapK_row (by assumption) ?_; conv => whnf)
    | (refine mapK_plain (Plain.of rfl) ?_; conv => whnf)
    | (refine mapK_lit ?_; conv => whnf)
    | (refine br_split (fun _ => ?_) (fun _ => ?_) <;> conv => whnf)
    | exact (rfl : (_ : Value) = _)
    | (simp only [*]; exact (rfl : (_ : Value) = _))
    | (simp [*]; done))

theorem c_impl_BoxOf_ok {k : Cn} (hk : k.Ok) : CallOK Try.prog n_impl_BoxOf [v9 k.a k.b k.c k.d k.e k.f k.g k.h k.i] [] (fun v m_ => ∃ n c sp, Row (sl (boxO k)) sp n c 3 ∧ n ≤ 64000000 ∧ v = t2 (.slice (some ⟨0, 0, none⟩) n c) (ii 0) ∧ m_ = [(sl (boxO k) ++ sp, some t_impl_Spot)]) := by
  have h1 := Cn.cone_F hk; have h2 := Cn.lim_F hk; refine callOK_ofF good fn_impl_BoxOf ?_
  conv => whnf
  all_goals (repeat' first
    | (refine draw_pt (.duo 0 (.solo 1 (.solo 2 (.solo 3 (.solo 4 (.solo 5 .done))))) 1 (.duo 0 (.solo 2 (.solo 3 (.solo 4 (.solo 5 .done)))) 2 (.solo 0 (.solo 3 (.solo 4 (.solo 5 .done)))))) (by decide +kernel) ?_; conv => whnf)
    | (refine And.intro ?_ ?_ <;> conv => whnf)
    | (refine CallOK.useR (c_Cone_box hk) [] rfl rfl rfl trivial (fun v_ mem_ hR => ?_); obtain ⟨n1_, c1_, s1_, hr1_, rfl, rfl⟩ := hR; refine ⟨rfl, ?_⟩; conv => whnf)
    | (refine CallOK.useR (c_Cone_spots hk ((boxL_ok hk).spl hk) hr1_) [_] rfl rfl rfl ⟨⟨⟨_, rfl, .plain rfl (fun _ h_ => by first | exact h_ | cases h_) (Row.all hr1_)⟩⟩, trivial⟩ (fun v_ mem_ hR => ?_); obtain ⟨n2_, c2_, s2_, L2_, hp_, hs_, hr2_, rfl, rfl⟩ := hR; obtain rfl := box_eq hk hp_ hs_; refine ⟨rfl, ?_⟩; conv => whnf)
    | (exact out_forget [_] ⟨_, _, _, hr2_, (by have h5_ := row_sl hr2_; have h6_ := boxO_len hk; omega), rfl, rfl⟩ rfl (okB2_spec rfl) ⟨⟨⟨_, rfl, .plain rfl rfl (Row.all hr2_)⟩⟩, trivial⟩ rfl rfl)
    | (refine StoreK.mk rfl ?_; conv => whnf)
    | exact join_same
    | exact (by assumption : (_ : Bool) = (_ : Bool))
    | (refine br_true (by assumption) ?_; conv => whnf)
    | (refine br_false (by assumption) ?_; conv => whnf)
    | (refine br_not ?_; conv => whnf)
    | (refine br_code ?_; conv => whnf)
    | (with_reducible refine br_and ?_; conv => whnf)
    | (with_reducible refine br_or ?_; conv => whnf)
    | (refine br_eq2 ?_; conv => whnf)
    | (refine (c_boxFault_ok ?_).call ?_ <;> conv => whnf)
    | (refine (c_boxFault_ok ?_).quiet ?_ <;> conv => whnf)
    | (refine CallOK.useR (c_Cone_spots (by first | assumption | exact Row.lit rfl rfl | omega) (by first | assumption | exact Row.lit rfl rfl | omega) (by first | assumption | exact Row.lit rfl rfl | omega)) [_] rfl rfl rfl ⟨⟨⟨_, rfl, .plain rfl (fun _ h_ => by first | exact h_ | cases h_) (by first | exact Plain.of rfl | exact Row.all (by assumption))⟩⟩, trivial⟩ (fun v_ mem_ hR => ?_); obtain ⟨n2_, c2_, s2_, L2_, hp_, hs_, hrow2_, rfl, rfl⟩ := hR; refine ⟨rfl, ?_⟩; conv => whnf)
    | (refine draw_auto (by decide +kernel) ?_; conv => whnf)
    | (refine draw_asg (by decide +kernel) ?_; conv => whnf)
    | (refine draw_st (by decide +kernel) ?_; conv => whnf)
    | (refine draw_call (by decide +kernel) ?_; conv => whnf)
    | (refine enter_same (loop_n 12 ?_); conv => whnf)
    | (refine next_same ?_; conv => whnf)
    | (refine mapK_row (by assumption) ?_; conv => whnf)
    | (refine mapK_plain (Plain.of rfl) ?_; conv => whnf)
    | (refine mapK_lit ?_; conv => whnf)
    | (refine br_split (fun _ => ?_) (fun _ => ?_) <;> conv => whnf)
    | exact (rfl : (_ : Value) = _)
    | (simp only [*]; exact (rfl : (_ : Value) = _))
    | (simp [*]; done))

theorem c_spec_BoxOf_ok {k : Cn} (hk : k.Ok) : CallOK Try.prog n_spec_BoxOf [v9 k.a k.b k.c k.d k.e k.f k.g k.h k.i] [] (fun v m_ => ∃ n c sp, Row (sl (boxO k)) sp n c 3 ∧ n ≤ 64000000 ∧ v = t2 (.slice (some ⟨0, 0, none⟩) n c) (ii 0) ∧ m_ = [(sl (boxO k) ++ sp, some t_impl_Spot)]) := by
  have h1 := Cn.cone_F hk; have h2 := Cn.lim_F hk; refine callOK_ofF good fn_spec_BoxOf ?_
  conv => whnf
  all_goals (repeat' first
    | (refine CallOK.useR (c_l08Box hk) [] rfl rfl rfl trivial (fun v_ mem_ hR => ?_); obtain ⟨n2_, c2_, s2_, hr2_, hn_, rfl, rfl⟩ := hR; refine ⟨rfl, ?_⟩; conv => whnf)
    | (exact out_forget [_] ⟨_, _, _, hr2_, hn_, rfl, rfl⟩ rfl (okB2_spec rfl) ⟨⟨⟨_, rfl, .plain rfl rfl (Row.all hr2_)⟩⟩, trivial⟩ rfl rfl)
    | (refine StoreK.mk rfl ?_; conv => whnf)
    | exact join_same
    | exact (by assumption : (_ : Bool) = (_ : Bool))
    | (refine br_true (by assumption) ?_; conv => whnf)
    | (refine br_false (by assumption) ?_; conv => whnf)
    | (refine br_not ?_; conv => whnf)
    | (refine br_code ?_; conv => whnf)
    | (with_reducible refine br_and ?_; conv => whnf)
    | (with_reducible refine br_or ?_; conv => whnf)
    | (refine br_eq2 ?_; conv => whnf)
    | (refine c_spec_l08Is.call ?_; conv => whnf)
    | (refine c_spec_l08Is.quiet ?_; conv => whnf)
    | (refine c_spec_l08Size.call ?_; conv => whnf)
    | (refine c_spec_l08Size.quiet ?_; conv => whnf)
    | (refine CallOK.useR (c_l08Box (by first | assumption | exact Row.lit rfl rfl | omega)) [] rfl rfl rfl trivial (fun v_ mem_ hR => ?_); obtain ⟨n_, c_, sp_, hrow_, hn_, rfl, rfl⟩ := hR; refine ⟨rfl, ?_⟩; conv => whnf)
    | (refine draw_auto (by decide +kernel) ?_; conv => whnf)
    | (refine draw_asg (by decide +kernel) ?_; conv => whnf)
    | (refine draw_st (by decide +kernel) ?_; conv => whnf)
    | (refine draw_call (by decide +kernel) ?_; conv => whnf)
    | (refine enter_same (loop_n 12 ?_); conv => whnf)
    | (refine next_same ?_; conv => whnf)
    | (refine mapK_row (by assumption) ?_; conv => whnf)
    | (refine mapK_plain (Plain.of rfl) ?_; conv => whnf)
    | (refine mapK_lit ?_; conv => whnf)
    | (refine br_split (fun _ => ?_) (fun _ => ?_) <;> conv => whnf)
    | exact (rfl : (_ : Value) = _)
    | (simp only [*]; exact (rfl : (_ : Value) = _))
    | (simp [*]; done))

theorem c_law_BoxOf_no1 {a b c d e f g h i : Int} (h1 : isConeF a b c d e f g h i = false) : Pure Try.prog n_laws_FnExactBoxOf [v9 a b c d e f g h i] (bb true) := by
  refine pure_of good fn_laws_FnExactBoxOf rfl rfl ?_
  conv => whnf
  all_goals (repeat' first
    | (refine br_true ?_ ?_; (focus (simp; done)); conv => whnf)
    | (refine br_false ?_ ?_; (focus (simp; done)); conv => whnf)
    | (refine br_false (decide_eq_false (by omega)) ?_; conv => whnf)
    | (refine draw_call (by decide +kernel) ?_; conv => whnf)
    | (refine StoreK.mk rfl ?_; conv => whnf)
    | exact join_same
    | exact (by assumption : (_ : Bool) = (_ : Bool))
    | (refine br_true (by assumption) ?_; conv => whnf)
    | (refine br_false (by assumption) ?_; conv => whnf)
    | (refine br_not ?_; conv => whnf)
    | (refine br_code ?_; conv => whnf)
    | (with_reducible refine br_and ?_; conv => whnf)
    | (with_reducible refine br_or ?_; conv => whnf)
    | (refine br_eq2 ?_; conv => whnf)
    | (refine c_laws_toCone.call ?_; conv => whnf)
    | (refine c_laws_toCone.quiet ?_; conv => whnf)
    | (refine CallOK.useR (c_spec_BoxOf_no1 (by first | assumption | exact Row.lit rfl rfl | omega)) [] rfl rfl rfl trivial (fun v_ mem_ hR => ?_); obtain ⟨rfl, rfl⟩ := hR; refine ⟨rfl, ?_⟩; conv => whnf)
    | (refine CallOK.useR (c_spec_BoxOf_no3 (by first | assumption | exact Row.lit rfl rfl | omega) (by first | assumption | exact Row.lit rfl rfl | omega)) [] rfl rfl rfl trivial (fun v_ mem_ hR => ?_); obtain ⟨rfl, rfl⟩ := hR; refine ⟨rfl, ?_⟩; conv => whnf)
    | (refine CallOK.useR (c_spec_BoxOf_ok (by first | assumption | exact Row.lit rfl rfl | omega)) [] rfl rfl rfl trivial (fun v_ mem_ hR => ?_); obtain ⟨n_, c_, sp_, hrow_, hn_, rfl, rfl⟩ := hR; refine ⟨rfl, ?_⟩; conv => whnf)
    | (refine CallOK.useR (c_impl_BoxOf_no1 (by first | assumption | exact Row.lit rfl rfl | omega)) [] rfl rfl rfl trivial (fun v_ mem_ hR => ?_); obtain ⟨rfl, rfl⟩ := hR; refine ⟨rfl, ?_⟩; conv => whnf)
    | (refine CallOK.useR (c_impl_BoxOf_no3 (by first | assumption | exact Row.lit rfl rfl | omega) (by first | assumption | exact Row.lit rfl rfl | omega)) [] rfl rfl rfl trivial (fun v_ mem_ hR => ?_); obtain ⟨rfl, rfl⟩ := hR; refine ⟨rfl, ?_⟩; conv => whnf)
    | (refine CallOK.useR (c_impl_BoxOf_ok (by first | assumption | exact Row.lit rfl rfl | omega)) [] rfl rfl rfl trivial (fun v_ mem_ hR => ?_); obtain ⟨n_, c_, sp_, hrow_, hn_, rfl, rfl⟩ := hR; refine ⟨rfl, ?_⟩; conv => whnf)
    | (refine CallOK.useR (c_laws_eqSpotS (by first | assumption | exact Row.lit rfl rfl | omega) (by first | assumption | exact Row.lit rfl rfl | omega) (by first | assumption | exact Row.lit rfl rfl | omega)) [_, _] rfl rfl rfl ⟨⟨⟨_, rfl, .plain rfl (fun _ h_ => by first | exact h_ | cases h_) (by first | exact Plain.of rfl | exact Row.all (by assumption))⟩⟩, ⟨⟨_, rfl, .plain rfl (fun _ h_ => by first | exact h_ | cases h_) (by first | exact Plain.of rfl | exact Row.all (by assumption))⟩⟩, trivial⟩ (fun v_ mem_ hR => ?_); obtain ⟨rfl, rfl⟩ := hR; refine ⟨rfl, ?_⟩; conv => whnf)
    | (refine c_eqSpotS_nil.call ?_; conv => whnf)
    | (refine c_eqSpotS_nil.quiet ?_; conv => whnf)
    | (refine CallOK.useR (c_laws_markSpotS (by first | assumption | exact Row.lit rfl rfl | omega) (by first | assumption | exact Row.lit rfl rfl | omega) (by first | assumption | exact Row.lit rfl rfl | omega)) [_] rfl rfl rfl ⟨⟨⟨_, rfl, .plain rfl (fun _ h_ => by first | exact h_ | cases h_) (by first | exact Plain.of rfl | exact Row.all (by assumption))⟩⟩, trivial⟩ (fun v_ mem_ hR => ?_); obtain ⟨sq_, hrow_, rfl, rfl⟩ := hR; refine ⟨rfl, ?_⟩; conv => whnf)
    | (refine c_markSpotS_nil.call ?_; conv => whnf)
    | (refine c_markSpotS_nil.quiet ?_; conv => whnf)
    | (refine CallOK.useR (c_laws_heldSpotS (by first | assumption | exact Row.lit rfl rfl | omega) (by first | assumption | exact Row.lit rfl rfl | omega) (by first | assumption | exact Row.lit rfl rfl | omega)) [_] rfl rfl rfl ⟨⟨⟨_, rfl, .plain rfl (fun _ h_ => by first | exact h_ | cases h_) (by first | exact Plain.of rfl | exact Row.all (by assumption))⟩⟩, trivial⟩ (fun v_ mem_ hR => ?_); obtain ⟨rfl, rfl⟩ := hR; refine ⟨rfl, ?_⟩; conv => whnf)
    | (refine c_heldSpotS_nil.call ?_; conv => whnf)
    | (refine c_heldSpotS_nil.quiet ?_; conv => whnf)
    | (refine draw_auto (by decide +kernel) ?_; conv => whnf)
    | (refine draw_asg (by decide +kernel) ?_; conv => whnf)
    | (refine draw_st (by decide +kernel) ?_; conv => whnf)
    | (refine draw_call (by decide +kernel) ?_; conv => whnf)
    | (refine enter_same (loop_n 12 ?_); conv => whnf)
    | (refine next_same ?_; conv => whnf)
    | (refine mapK_row (by assumption) ?_; conv => whnf)
    | (refine mapK_plain (Plain.of rfl) ?_; conv => whnf)
    | (refine mapK_lit ?_; conv => whnf)
    | (refine br_split (fun _ => ?_) (fun _ => ?_) <;> conv => whnf)
    | exact (rfl : (_ : Value) = _)
    | (simp only [*]; exact (rfl : (_ : Value) = _))
    | (simp [*]; done))

theorem c_law_BoxOf_no3 {a b c d e f g h i : Int} (h1 : isConeF a b c d e f g h i = true) (h2 : decide (sizeF (volF a b c d e f g h i) > 400) = true) : Pure Try.prog n_laws_FnExactBoxOf [v9 a b c d e f g h i] (bb true) := by
  refine pure_of good fn_laws_FnExactBoxOf rfl rfl ?_
  conv => whnf
  all_goals (repeat' first
    | (refine br_true ?_ ?_; (focus (simp; done)); conv => whnf)
    | (refine br_false ?_ ?_; (focus (simp; done)); conv => whnf)
    | (refine br_false (decide_eq_false (by omega)) ?_; conv => whnf)
    | (refine draw_call (by decide +kernel) ?_; conv => whnf)
    | (refine StoreK.mk rfl ?_; conv => whnf)
    | exact join_same
    | exact (by assumption : (_ : Bool) = (_ : Bool))
    | (refine br_true (by assumption) ?_; conv => whnf)
    | (refine br_false (by assumption) ?_; conv => whnf)
    | (refine br_not ?_; conv => whnf)
    | (refine br_code ?_; conv => whnf)
    | (with_reducible refine br_and ?_; conv => whnf)
    | (with_reducible refine br_or ?_; conv => whnf)
    | (refine br_eq2 ?_; conv => whnf)
    | (refine c_laws_toCone.call ?_; conv => whnf)
    | (refine c_laws_toCone.quiet ?_; conv => whnf)
    | (refine CallOK.useR (c_spec_BoxOf_no1 (by first | assumption | exact Row.lit rfl rfl | omega)) [] rfl rfl rfl trivial (fun v_ mem_ hR => ?_); obtain ⟨rfl, rfl⟩ := hR; refine ⟨rfl, ?_⟩; conv => whnf)
    | (refine CallOK.useR (c_spec_BoxOf_no3 (by first | assumption | exact Row.lit rfl rfl | omega) (by first | assumption | exact Row.lit rfl rfl | omega)) [] rfl rfl rfl trivial (fun v_ mem_ hR => ?_); obtain ⟨rfl, rfl⟩ := hR; refine ⟨rfl, ?_⟩; conv => whnf)
    | (refine CallOK.useR (c_spec_BoxOf_ok (by first | assumption | exact Row.lit rfl rfl | omega)) [] rfl rfl rfl trivial (fun v_ mem_ hR => ?_); obtain ⟨n_, c_, sp_, hrow_, hn_, rfl, rfl⟩ := hR; refine ⟨rfl, ?_⟩; conv => whnf)
    | (refine CallOK.useR (c_impl_BoxOf_no1 (by first | assumption | exact Row.lit rfl rfl | omega)) [] rfl rfl rfl trivial (fun v_ mem_ hR => ?_); obtain ⟨rfl, rfl⟩ := hR; refine ⟨rfl, ?_⟩; conv => whnf)
    | (refine CallOK.useR (c_impl_BoxOf_no3 (by first | assumption | exact Row.lit rfl rfl | omega) (by first | assumption | exact Row.lit rfl rfl | omega)) [] rfl rfl rfl trivial (fun v_ mem_ hR => ?_); obtain ⟨rfl, rfl⟩ := hR; refine ⟨rfl, ?_⟩; conv => whnf)
    | (refine CallOK.useR (c_impl_BoxOf_ok (by first | assumption | exact Row.lit rfl rfl | omega)) [] rfl rfl rfl trivial (fun v_ mem_ hR => ?_); obtain ⟨n_, c_, sp_, hrow_, hn_, rfl, rfl⟩ := hR; refine ⟨rfl, ?_⟩; conv => whnf)
    | (refine CallOK.useR (c_laws_eqSpotS (by first | assumption | exact Row.lit rfl rfl | omega) (by first | assumption | exact Row.lit rfl rfl | omega) (by first | assumption | exact Row.lit rfl rfl | omega)) [_, _] rfl rfl rfl ⟨⟨⟨_, rfl, .plain rfl (fun _ h_ => by first | exact h_ | cases h_) (by first | exact Plain.of rfl | exact Row.all (by assumption))⟩⟩, ⟨⟨_, rfl, .plain rfl (fun _ h_ => by first | exact h_ | cases h_) (by first | exact Plain.of rfl | exact Row.all (by assumption))⟩⟩, trivial⟩ (fun v_ mem_ hR => ?_); obtain ⟨rfl, rfl⟩ := hR; refine ⟨rfl, ?_⟩; conv => whnf)
    | (refine c_eqSpotS_nil.call ?_; conv => whnf)
    | (refine c_eqSpotS_nil.quiet ?_; conv => whnf)
    | (refine CallOK.useR (c_laws_markSpotS (by first | assumption | exact Row.lit rfl rfl | omega) (by first | assumption | exact Row.lit rfl rfl | omega) (by first | assumption | exact Row.lit rfl rfl | omega)) [_] rfl rfl rfl ⟨⟨⟨_, rfl, .plain rfl (fun _ h_ => by first | exact h_ | cases h_) (by first | exact Plain.of rfl | exact Row.all (by assumption))⟩⟩, trivial⟩ (fun v_ mem_ hR => ?_); obtain ⟨sq_, hrow_, rfl, rfl⟩ := hR; refine ⟨rfl, ?_⟩; conv => whnf)
    | (refine c_markSpotS_nil.call ?_; conv => whnf)
    | (refine c_markSpotS_nil.quiet ?_; conv => whnf)
    | (refine CallOK.useR (c_laws_heldSpotS (by first | assumption | exact Row.lit rfl rfl | omega) (by first | assumption | exact Row.lit rfl rfl | omega) (by first | assumption | exact Row.lit rfl rfl | omega)) [_] rfl rfl rfl ⟨⟨⟨_, rfl, .plain rfl (fun _ h_ => by first | exact h_ | cases h_) (by first | exact Plain.of rfl | exact Row.all (by assumption))⟩⟩, trivial⟩ (fun v_ mem_ hR => ?_); obtain ⟨rfl, rfl⟩ := hR; refine ⟨rfl, ?_⟩; conv => whnf)
    | (refine c_heldSpotS_nil.call ?_; conv => whnf)
    | (refine c_heldSpotS_nil.quiet ?_; conv => whnf)
    | (refine draw_auto (by decide +kernel) ?_; conv => whnf)
    | (refine draw_asg (by decide +kernel) ?_; conv => whnf)
    | (refine draw_st (by decide +kernel) ?_; conv => whnf)
    | (refine draw_call (by decide +kernel) ?_; conv => whnf)
    | (refine enter_same (loop_n 12 ?_); conv => whnf)
    | (refine next_same ?_; conv => whnf)
    | (refine mapK_row (by assumption) ?_; conv => whnf)
    | (refine mapK_plain (Plain.of rfl) ?_; conv => whnf)
    | (refine mapK_lit ?_; conv => whnf)
    | (refine br_split (fun _ => ?_) (fun _ => ?_) <;> conv => whnf)
    | exact (rfl : (_ : Value) = _)
    | (simp only [*]; exact (rfl : (_ : Value) = _))
    | (simp [*]; done))

theorem c_law_BoxOf_ok {k : Cn} (hk : k.Ok) : Pure Try.prog n_laws_FnExactBoxOf [v9 k.a k.b k.c k.d k.e k.f k.g k.h k.i] (bb true) := by
  refine pure_of good fn_laws_FnExactBoxOf rfl rfl ?_
  conv => whnf
  all_goals (repeat' first
    | (refine br_true ?_ ?_; (focus (simp; done)); conv => whnf)
    | (refine br_false ?_ ?_; (focus (simp; done)); conv => whnf)
    | (refine br_false (decide_eq_false (by omega)) ?_; conv => whnf)
    | (refine draw_call (by decide +kernel) ?_; conv => whnf)
    | (refine StoreK.mk rfl ?_; conv => whnf)
    | exact join_same
    | exact (by assumption : (_ : Bool) = (_ : Bool))
    | (refine br_true (by assumption) ?_; conv => whnf)
    | (refine br_false (by assumption) ?_; conv => whnf)
    | (refine br_not ?_; conv => whnf)
    | (refine br_code ?_; conv => whnf)
    | (with_reducible refine br_and ?_; conv => whnf)
    | (with_reducible refine br_or ?_; conv => whnf)
    | (refine br_eq2 ?_; conv => whnf)
    | (refine c_laws_toCone.call ?_; conv => whnf)
    | (refine c_laws_toCone.quiet ?_; conv => whnf)
    | (refine CallOK.useR (c_spec_BoxOf_no1 (by first | assumption | exact Row.lit rfl rfl | omega)) [] rfl rfl rfl trivial (fun v_ mem_ hR => ?_); obtain ⟨rfl, rfl⟩ := hR; refine ⟨rfl, ?_⟩; conv => whnf)
    | (refine CallOK.useR (c_spec_BoxOf_no3 (by first | assumption | exact Row.lit rfl rfl | omega) (by first | assumption | exact Row.lit rfl rfl | omega)) [] rfl rfl rfl trivial (fun v_ mem_ hR => ?_); obtain ⟨rfl, rfl⟩ := hR; refine ⟨rfl, ?_⟩; conv => whnf)
    | (refine CallOK.useR (c_spec_BoxOf_ok (by first | assumption | exact Row.lit rfl rfl | omega)) [] rfl rfl rfl trivial (fun v_ mem_ hR => ?_); obtain ⟨n_, c_, sp_, hrow_, hn_, rfl, rfl⟩ := hR; refine ⟨rfl, ?_⟩; conv => whnf)
    | (refine CallOK.useR (c_impl_BoxOf_no1 (by first | assumption | exact Row.lit rfl rfl | omega)) [] rfl rfl rfl trivial (fun v_ mem_ hR => ?_); obtain ⟨rfl, rfl⟩ := hR; refine ⟨rfl, ?_⟩; conv => whnf)
    | (refine CallOK.useR (c_impl_BoxOf_no3 (by first | assumption | exact Row.lit rfl rfl | omega) (by first | assumption | exact Row.lit rfl rfl | omega)) [] rfl rfl rfl trivial (fun v_ mem_ hR => ?_); obtain ⟨rfl, rfl⟩ := hR; refine ⟨rfl, ?_⟩; conv => whnf)
    | (refine CallOK.useR (c_impl_BoxOf_ok (by first | assumption | exact Row.lit rfl rfl | omega)) [] rfl rfl rfl trivial (fun v_ mem_ hR => ?_); obtain ⟨n_, c_, sp_, hrow_, hn_, rfl, rfl⟩ := hR; refine ⟨rfl, ?_⟩; conv => whnf)
    | (refine CallOK.useR (c_laws_eqSpotS (by first | assumption | exact Row.lit rfl rfl | omega) (by first | assumption | exact Row.lit rfl rfl | omega) (by first | assumption | exact Row.lit rfl rfl | omega)) [_, _] rfl rfl rfl ⟨⟨⟨_, rfl, .plain rfl (fun _ h_ => by first | exact h_ | cases h_) (by first | exact Plain.of rfl | exact Row.all (by assumption))⟩⟩, ⟨⟨_, rfl, .plain rfl (fun _ h_ => by first | exact h_ | cases h_) (by first | exact Plain.of rfl | exact Row.all (by assumption))⟩⟩, trivial⟩ (fun v_ mem_ hR => ?_); obtain ⟨rfl, rfl⟩ := hR; refine ⟨rfl, ?_⟩; conv => whnf)
    | (refine c_eqSpotS_nil.call ?_; conv => whnf)
    | (refine c_eqSpotS_nil.quiet ?_; conv => whnf)
    | (refine CallOK.useR (c_laws_markSpotS (by first | assumption | exact Row.lit rfl rfl | omega) (by first | assumption | exact Row.lit rfl rfl | omega) (by first | assumption | exact Row.lit rfl rfl | omega)) [_] rfl rfl rfl ⟨⟨⟨_, rfl, .plain rfl (fun _ h_ => by first | exact h_ | cases h_) (by first | exact Plain.of rfl | exact Row.all (by assumption))⟩⟩, trivial⟩ (fun v_ mem_ hR => ?_); obtain ⟨sq_, hrow_, rfl, rfl⟩ := hR; refine ⟨rfl, ?_⟩; conv => whnf)
    | (refine c_markSpotS_nil.call ?_; conv => whnf)
    | (refine c_markSpotS_nil.quiet ?_; conv => whnf)
    | (refine CallOK.useR (c_laws_heldSpotS (by first | assumption | exact Row.lit rfl rfl | omega) (by first | assumption | exact Row.lit rfl rfl | omega) (by first | assumption | exact Row.lit rfl rfl | omega)) [_] rfl rfl rfl ⟨⟨⟨_, rfl, .plain rfl (fun _ h_ => by first | exact h_ | cases h_) (by first | exact Plain.of rfl | exact Row.all (by assumption))⟩⟩, trivial⟩ (fun v_ mem_ hR => ?_); obtain ⟨rfl, rfl⟩ := hR; refine ⟨rfl, ?_⟩; conv => whnf)
    | (refine c_heldSpotS_nil.call ?_; conv => whnf)
    | (refine c_heldSpotS_nil.quiet ?_; conv => whnf)
    | (refine draw_auto (by decide +kernel) ?_; conv => whnf)
    | (refine draw_asg (by decide +kernel) ?_; conv => whnf)
    | (refine draw_st (by decide +kernel) ?_; conv => whnf)
    | (refine draw_call (by decide +kernel) ?_; conv => whnf)
    | (refine enter_same (loop_n 12 ?_); conv => whnf)
    | (refine next_same ?_; conv => whnf)
    | (refine mapK_row (by assumption) ?_; conv => whnf)
    | (refine mapK_plain (Plain.of rfl) ?_; conv => whnf)
    | (refine mapK_lit ?_; conv => whnf)
    | (refine br_split (fun _ => ?_) (fun _ => ?_) <;> conv => whnf)
    | exact (rfl : (_ : Value) = _)
    | (simp only [*]; exact (rfl : (_ : Value) = _))
    | (simp [*]; done))

theorem c_laws_FnExactBoxOf {a b c d e f g h i : Int} : Pure Try.prog n_laws_FnExactBoxOf [v9 a b c d e f g h i] (bb true) := by
  cases h1 : isConeF a b c d e f g h i
  · exact c_law_BoxOf_no1 h1
  · cases h2 : decide (sizeF (volF a b c d e f g h i) > 400)
    · exact c_law_BoxOf_ok (k := ⟨a, b, c, d, e, f, g, h, i⟩) (Cn.ok_of h1 h2)
    · exact c_law_BoxOf_no3 h1 h2

end Go.Proofs.Ytndmkibdcfpddaa
