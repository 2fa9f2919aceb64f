/-
  Contracts of functions of the program (printed by a program of this work; Lean checks each).
  Conditions: as each contract states.
-/
import Derived.Test.YtlkbfpklhncfbaaK62
namespace Go.Proofs.Ytlkbfpklhncfbaa
open Go.Ev Go.RowKit
set_option maxRecDepth 100000
set_option linter.unusedVariables false
set_option linter.unusedSimpArgs false

attribute [local irreducible] inF specB convB

theorem c_impl_IsPolygon_in {P : List (Int × Int)} {sp : List Value} {n c : Nat} (h1 : Row (pl P) sp n c 2) (hn : n ≤ 1048576) (h3 : 3 ≤ n) (h12 : n ≤ 12) : CallOK Try.prog n_impl_IsPolygon [.slice (some ⟨0, 0, none⟩) n c] [(pl P ++ sp, none)] (fun v m_ => v = bb (specB P) ∧ m_ = [(pl P ++ sp, none)]) := by
  obtain rfl := row_pl h1; refine callOK_ofF good fn_impl_IsPolygon ?_
  conv => whnf
  all_goals (repeat' first
    | (refine br_true (in_mid h3 h12) ?_; conv => whnf)
    | (exact out_forget [] ⟨congrArg Value.bool (poly_some h3 h12 (by assumption)), rfl⟩ rfl (okB2_spec rfl) ⟨⟨⟨_, rfl, .plain rfl rfl (Row.all h1)⟩⟩, trivial⟩ rfl rfl)
    | (exact out_forget [] ⟨congrArg Value.bool (poly_all h3 h12 (by assumption)), rfl⟩ rfl (okB2_spec rfl) ⟨⟨⟨_, rfl, .plain rfl rfl (Row.all h1)⟩⟩, trivial⟩ rfl rfl)
    | (refine StoreK.mk rfl ?_; conv => whnf)
    | exact join_same
    | exact (by assumption : (_ : Bool) = (_ : Bool))
    | (refine br_true (by assumption) ?_; conv => whnf)
    | (refine br_false (by assumption) ?_; conv => whnf)
    | (refine br_not ?_; conv => whnf)
    | (refine br_code ?_; conv => whnf)
    | (with_reducible refine br_and ?_; conv => whnf)
    | (with_reducible refine br_or ?_; conv => whnf)
    | (refine br_eq2 ?_; conv => whnf)
    | (refine c_impl_in.call ?_; conv => whnf)
    | (refine c_impl_in.quiet ?_; conv => whnf)
    | (refine CallOK.useR (c_contains_poly (by first | assumption | exact Row.lit rfl rfl | omega) (by first | assumption | exact Row.lit rfl rfl | omega)) [_] rfl rfl rfl ⟨⟨⟨_, rfl, .plain rfl (fun _ h_ => by first | exact h_ | cases h_) (by first | exact Plain.of rfl | exact Row.all (by assumption))⟩⟩, trivial⟩ (fun v_ mem_ hR => ?_); obtain ⟨rfl, rfl⟩ := hR; refine ⟨rfl, ?_⟩; conv => whnf)
    | (refine c_impl_IsPolygon_1.call ?_; conv => whnf)
    | (refine c_impl_IsPolygon_1.quiet ?_; conv => whnf)
    | (refine CallOK.useR (c_convex (by first | assumption | exact Row.lit rfl rfl | omega) (by first | assumption | exact Row.lit rfl rfl | omega)) [_] rfl rfl rfl ⟨⟨⟨_, rfl, .plain rfl (fun _ h_ => by first | exact h_ | cases h_) (by first | exact Plain.of rfl | exact Row.all (by assumption))⟩⟩, trivial⟩ (fun v_ mem_ hR => ?_); obtain ⟨rfl, rfl⟩ := hR; refine ⟨rfl, ?_⟩; conv => whnf)
    | (refine draw_auto (by decide +kernel) ?_; conv => whnf)
    | (refine draw_asg (by decide +kernel) ?_; conv => whnf)
    | (refine draw_st (by decide +kernel) ?_; conv => whnf)
    | (refine draw_call (by decide +kernel) ?_; conv => whnf)
    | (refine enter_same (loop_n 12 ?_); conv => whnf)
    | (refine next_same ?_; conv => whnf)
    | (refine mapK_row (by assumption) ?_; conv => whnf)
    | (refine mapK_plain (Plain.of rfl) ?_; conv => whnf)
    | (refine mapK_lit ?_; conv => whnf)
    | (refine br_split (fun _ => ?_) (fun _ => ?_) <;> conv => whnf)
    | exact (rfl : (_ : Value) = _)
    | (simp only [*]; exact (rfl : (_ : Value) = _))
    | (simp [*]; done))

theorem c_spec_IsPolygon_in {P : List (Int × Int)} {sp : List Value} {n c : Nat} (h1 : Row (pl P) sp n c 2) (hn : n ≤ 1048576) (h3 : 3 ≤ n) (h12 : n ≤ 12) : CallOK Try.prog n_spec_IsPolygon [.slice (some ⟨0, 0, none⟩) n c] [(pl P ++ sp, none)] (fun v m_ => v = bb (specB P) ∧ m_ = [(pl P ++ sp, none)]) := by
  refine callOK_ofF good fn_spec_IsPolygon ?_
  conv => whnf
  all_goals (repeat' first
    | (exact out_forget [] ⟨congrArg Value.bool rfl, rfl⟩ rfl (okB2_spec rfl) ⟨⟨⟨_, rfl, .plain rfl rfl (Row.all h1)⟩⟩, trivial⟩ rfl rfl)
    | (refine StoreK.mk rfl ?_; conv => whnf)
    | exact join_same
    | exact (by assumption : (_ : Bool) = (_ : Bool))
    | (refine br_true (by assumption) ?_; conv => whnf)
    | (refine br_false (by assumption) ?_; conv => whnf)
    | (refine br_not ?_; conv => whnf)
    | (refine br_code ?_; conv => whnf)
    | (with_reducible refine br_and ?_; conv => whnf)
    | (with_reducible refine br_or ?_; conv => whnf)
    | (refine br_eq2 ?_; conv => whnf)
    | (refine CallOK.useR (c_l09Is_in (by first | assumption | exact Row.lit rfl rfl | omega) (by first | assumption | exact Row.lit rfl rfl | omega) (by first | assumption | exact Row.lit rfl rfl | omega)) [_] rfl rfl rfl ⟨⟨⟨_, rfl, .plain rfl (fun _ h_ => by first | exact h_ | cases h_) (by first | exact Plain.of rfl | exact Row.all (by assumption))⟩⟩, trivial⟩ (fun v_ mem_ hR => ?_); obtain ⟨rfl, rfl⟩ := hR; refine ⟨rfl, ?_⟩; conv => whnf)
    | (refine draw_auto (by decide +kernel) ?_; conv => whnf)
    | (refine draw_asg (by decide +kernel) ?_; conv => whnf)
    | (refine draw_st (by decide +kernel) ?_; conv => whnf)
    | (refine draw_call (by decide +kernel) ?_; conv => whnf)
    | (refine enter_same (loop_n 12 ?_); conv => whnf)
    | (refine next_same ?_; conv => whnf)
    | (refine mapK_row (by assumption) ?_; conv => whnf)
    | (refine mapK_plain (Plain.of rfl) ?_; conv => whnf)
    | (refine mapK_lit ?_; conv => whnf)
    | (refine br_split (fun _ => ?_) (fun _ => ?_) <;> conv => whnf)
    | exact (rfl : (_ : Value) = _)
    | (simp only [*]; exact (rfl : (_ : Value) = _))
    | (simp [*]; done))

theorem c_impl_IsPolygon_lo {P : List (Int × Int)} {sp : List Value} {n c : Nat} (h1 : Row (pl P) sp n c 2) (hn : n ≤ 1048576) (hlo : n < 3) : CallOK Try.prog n_impl_IsPolygon [.slice (some ⟨0, 0, none⟩) n c] [(pl P ++ sp, none)] (fun v m_ => v = bb (false) ∧ m_ = [(pl P ++ sp, none)]) := by
  obtain rfl := row_pl h1; refine callOK_ofF good fn_impl_IsPolygon ?_
  conv => whnf
  all_goals (repeat' first
    | (refine br_false (in_low hlo) ?_; conv => whnf)
    | (exact out_forget [] ⟨congrArg Value.bool rfl, rfl⟩ rfl (okB2_spec rfl) ⟨⟨⟨_, rfl, .plain rfl rfl (Row.all h1)⟩⟩, trivial⟩ rfl rfl)
    | (refine StoreK.mk rfl ?_; conv => whnf)
    | exact join_same
    | exact (by assumption : (_ : Bool) = (_ : Bool))
    | (refine br_true (by assumption) ?_; conv => whnf)
    | (refine br_false (by assumption) ?_; conv => whnf)
    | (refine br_not ?_; conv => whnf)
    | (refine br_code ?_; conv => whnf)
    | (with_reducible refine br_and ?_; conv => whnf)
    | (with_reducible refine br_or ?_; conv => whnf)
    | (refine br_eq2 ?_; conv => whnf)
    | (refine c_impl_in.call ?_; conv => whnf)
    | (refine c_impl_in.quiet ?_; conv => whnf)
    | (refine CallOK.useR (c_contains_poly (by first | assumption | exact Row.lit rfl rfl | omega) (by first | assumption | exact Row.lit rfl rfl | omega)) [_] rfl rfl rfl ⟨⟨⟨_, rfl, .plain rfl (fun _ h_ => by first | exact h_ | cases h_) (by first | exact Plain.of rfl | exact Row.all (by assumption))⟩⟩, trivial⟩ (fun v_ mem_ hR => ?_); obtain ⟨rfl, rfl⟩ := hR; refine ⟨rfl, ?_⟩; conv => whnf)
    | (refine c_impl_IsPolygon_1.call ?_; conv => whnf)
    | (refine c_impl_IsPolygon_1.quiet ?_; conv => whnf)
    | (refine CallOK.useR (c_convex (by first | assumption | exact Row.lit rfl rfl | omega) (by first | assumption | exact Row.lit rfl rfl | omega)) [_] rfl rfl rfl ⟨⟨⟨_, rfl, .plain rfl (fun _ h_ => by first | exact h_ | cases h_) (by first | exact Plain.of rfl | exact Row.all (by assumption))⟩⟩, trivial⟩ (fun v_ mem_ hR => ?_); obtain ⟨rfl, rfl⟩ := hR; refine ⟨rfl, ?_⟩; conv => whnf)
    | (refine draw_auto (by decide +kernel) ?_; conv => whnf)
    | (refine draw_asg (by decide +kernel) ?_; conv => whnf)
    | (refine draw_st (by decide +kernel) ?_; conv => whnf)
    | (refine draw_call (by decide +kernel) ?_; conv => whnf)
    | (refine enter_same (loop_n 12 ?_); conv => whnf)
    | (refine next_same ?_; conv => whnf)
    | (refine mapK_row (by assumption) ?_; conv => whnf)
    | (refine mapK_plain (Plain.of rfl) ?_; conv => whnf)
    | (refine mapK_lit ?_; conv => whnf)
    | (refine br_split (fun _ => ?_) (fun _ => ?_) <;> conv => whnf)
    | exact (rfl : (_ : Value) = _)
    | (simp only [*]; exact (rfl : (_ : Value) = _))
    | (simp [*]; done))

theorem c_l09Is_lo {P : List (Int × Int)} {sp : List Value} {n c : Nat} (h1 : Row (pl P) sp n c 2) (hn : n ≤ 1048576) (hlo : n < 3) : CallOK Try.prog n_spec_l09Is [.slice (some ⟨0, 0, none⟩) n c] [(pl P ++ sp, none)] (fun v m_ => v = bb false ∧ m_ = [(pl P ++ sp, none)]) := by
  obtain rfl := row_pl h1; refine callOK_ofF good fn_spec_l09Is ?_
  conv => whnf
  all_goals (repeat' first
    | (refine br_true (b := decide ((P.length : Int) < 3)) (decide_eq_true ?_) ?_; (focus omega); conv => whnf)
    | (refine br_true (b := decide ((P.length : Int) > 12)) (decide_eq_true ?_) ?_; (focus omega); conv => whnf)
    | (exact out_forget [] ⟨congrArg Value.bool rfl, rfl⟩ rfl (okB2_spec rfl) ⟨⟨⟨_, rfl, .plain rfl rfl (Row.all h1)⟩⟩, trivial⟩ rfl rfl)
    | (refine StoreK.mk rfl ?_; conv => whnf)
    | exact join_same
    | exact (by assumption : (_ : Bool) = (_ : Bool))
    | (refine br_true (by assumption) ?_; conv => whnf)
    | (refine br_false (by assumption) ?_; conv => whnf)
    | (refine br_not ?_; conv => whnf)
    | (refine br_code ?_; conv => whnf)
    | (with_reducible refine br_and ?_; conv => whnf)
    | (with_reducible refine br_or ?_; conv => whnf)
    | (refine br_eq2 ?_; conv => whnf)
    | (refine c_spec_l01In.call ?_; conv => whnf)
    | (refine c_spec_l01In.quiet ?_; conv => whnf)
    | (refine c_spec_l01Is.call ?_; conv => whnf)
    | (refine c_spec_l01Is.quiet ?_; conv => whnf)
    | (refine c_spec_l09Side.call ?_; conv => whnf)
    | (refine c_spec_l09Side.quiet ?_; conv => whnf)
    | (refine c_spec_l01Plus.call ?_; conv => whnf)
    | (refine c_spec_l01Plus.quiet ?_; conv => whnf)
    | (refine c_spec_l09Half.call ?_; conv => whnf)
    | (refine c_spec_l09Half.quiet ?_; conv => whnf)
    | (refine draw_auto (by decide +kernel) ?_; conv => whnf)
    | (refine draw_asg (by decide +kernel) ?_; conv => whnf)
    | (refine draw_st (by decide +kernel) ?_; conv => whnf)
    | (refine draw_call (by decide +kernel) ?_; conv => whnf)
    | (refine enter_same (loop_n 12 ?_); conv => whnf)
    | (refine next_same ?_; conv => whnf)
    | (refine mapK_row (by assumption) ?_; conv => whnf)
    | (refine mapK_plain (Plain.of rfl) ?_; conv => whnf)
    | (refine mapK_lit ?_; conv => whnf)
    | (refine br_split (fun _ => ?_) (fun _ => ?_) <;> conv => whnf)
    | exact (rfl : (_ : Value) = _)
    | (simp only [*]; exact (rfl : (_ : Value) = _))
    | (simp [*]; done))

theorem c_spec_IsPolygon_lo {P : List (Int × Int)} {sp : List Value} {n c : Nat} (h1 : Row (pl P) sp n c 2) (hn : n ≤ 1048576) (hlo : n < 3) : CallOK Try.prog n_spec_IsPolygon [.slice (some ⟨0, 0, none⟩) n c] [(pl P ++ sp, none)] (fun v m_ => v = bb (false) ∧ m_ = [(pl P ++ sp, none)]) := by
  refine callOK_ofF good fn_spec_IsPolygon ?_
  conv => whnf
  all_goals (repeat' first
    | (exact out_forget [] ⟨congrArg Value.bool rfl, rfl⟩ rfl (okB2_spec rfl) ⟨⟨⟨_, rfl, .plain rfl rfl (Row.all h1)⟩⟩, trivial⟩ rfl rfl)
    | (refine StoreK.mk rfl ?_; conv => whnf)
    | exact join_same
    | exact (by assumption : (_ : Bool) = (_ : Bool))
    | (refine br_true (by assumption) ?_; conv => whnf)
    | (refine br_false (by assumption) ?_; conv => whnf)
    | (refine br_not ?_; conv => whnf)
    | (refine br_code ?_; conv => whnf)
    | (with_reducible refine br_and ?_; conv => whnf)
    | (with_reducible refine br_or ?_; conv => whnf)
    | (refine br_eq2 ?_; conv => whnf)
    | (refine CallOK.useR (c_l09Is_lo (by first | assumption | exact Row.lit rfl rfl | omega) (by first | assumption | exact Row.lit rfl rfl | omega) (by first | assumption | exact Row.lit rfl rfl | omega)) [_] rfl rfl rfl ⟨⟨⟨_, rfl, .plain rfl (fun _ h_ => by first | exact h_ | cases h_) (by first | exact Plain.of rfl | exact Row.all (by assumption))⟩⟩, trivial⟩ (fun v_ mem_ hR => ?_); obtain ⟨rfl, rfl⟩ := hR; refine ⟨rfl, ?_⟩; conv => whnf)
    | (refine draw_auto (by decide +kernel) ?_; conv => whnf)
    | (refine draw_asg (by decide +kernel) ?_; conv => whnf)
    | (refine draw_st (by decide +kernel) ?_; conv => whnf)
    | (refine draw_call (by decide +kernel) ?_; conv => whnf)
    | (refine enter_same (loop_n 12 ?_); conv => whnf)
    | (refine next_same ?_; conv => whnf)
    | (refine mapK_row (by assumption) ?_; conv => whnf)
    | (refine mapK_plain (Plain.of rfl) ?_; conv => whnf)
    | (refine mapK_lit ?_; conv => whnf)
    | (refine br_split (fun _ => ?_) (fun _ => ?_) <;> conv => whnf)
    | exact (rfl : (_ : Value) = _)
    | (simp only [*]; exact (rfl : (_ : Value) = _))
    | (simp [*]; done))

theorem c_impl_IsPolygon_hi {P : List (Int × Int)} {sp : List Value} {n c : Nat} (h1 : Row (pl P) sp n c 2) (hn : n ≤ 1048576) (hhi : 12 < n) : CallOK Try.prog n_impl_IsPolygon [.slice (some ⟨0, 0, none⟩) n c] [(pl P ++ sp, none)] (fun v m_ => v = bb (false) ∧ m_ = [(pl P ++ sp, none)]) := by
  obtain rfl := row_pl h1; refine callOK_ofF good fn_impl_IsPolygon ?_
  conv => whnf
  all_goals (repeat' first
    | (refine br_false (in_high hhi) ?_; conv => whnf)
    | (exact out_forget [] ⟨congrArg Value.bool rfl, rfl⟩ rfl (okB2_spec rfl) ⟨⟨⟨_, rfl, .plain rfl rfl (Row.all h1)⟩⟩, trivial⟩ rfl rfl)
    | (refine StoreK.mk rfl ?_; conv => whnf)
    | exact join_same
    | exact (by assumption : (_ : Bool) = (_ : Bool))
    | (refine br_true (by assumption) ?_; conv => whnf)
    | (refine br_false (by assumption) ?_; conv => whnf)
    | (refine br_not ?_; conv => whnf)
    | (refine br_code ?_; conv => whnf)
    | (with_reducible refine br_and ?_; conv => whnf)
    | (with_reducible refine br_or ?_; conv => whnf)
    | (refine br_eq2 ?_; conv => whnf)
    | (refine c_impl_in.call ?_; conv => whnf)
    | (refine c_impl_in.quiet ?_; conv => whnf)
    | (refine CallOK.useR (c_contains_poly (by first | assumption | exact Row.lit rfl rfl | omega) (by first | assumption | exact Row.lit rfl rfl | omega)) [_] rfl rfl rfl ⟨⟨⟨_, rfl, .plain rfl (fun _ h_ => by first | exact h_ | cases h_) (by first | exact Plain.of rfl | exact Row.all (by assumption))⟩⟩, trivial⟩ (fun v_ mem_ hR => ?_); obtain ⟨rfl, rfl⟩ := hR; refine ⟨rfl, ?_⟩; conv => whnf)
    | (refine c_impl_IsPolygon_1.call ?_; conv => whnf)
    | (refine c_impl_IsPolygon_1.quiet ?_; conv => whnf)
    | (refine CallOK.useR (c_convex (by first | assumption | exact Row.lit rfl rfl | omega) (by first | assumption | exact Row.lit rfl rfl | omega)) [_] rfl rfl rfl ⟨⟨⟨_, rfl, .plain rfl (fun _ h_ => by first | exact h_ | cases h_) (by first | exact Plain.of rfl | exact Row.all (by assumption))⟩⟩, trivial⟩ (fun v_ mem_ hR => ?_); obtain ⟨rfl, rfl⟩ := hR; refine ⟨rfl, ?_⟩; conv => whnf)
    | (refine draw_auto (by decide +kernel) ?_; conv => whnf)
    | (refine draw_asg (by decide +kernel) ?_; conv => whnf)
    | (refine draw_st (by decide +kernel) ?_; conv => whnf)
    | (refine draw_call (by decide +kernel) ?_; conv => whnf)
    | (refine enter_same (loop_n 12 ?_); conv => whnf)
    | (refine next_same ?_; conv => whnf)
    | (refine mapK_row (by assumption) ?_; conv => whnf)
    | (refine mapK_plain (Plain.of rfl) ?_; conv => whnf)
    | (refine mapK_lit ?_; conv => whnf)
    | (refine br_split (fun _ => ?_) (fun _ => ?_) <;> conv => whnf)
    | exact (rfl : (_ : Value) = _)
    | (simp only [*]; exact (rfl : (_ : Value) = _))
    | (simp [*]; done))

theorem c_l09Is_hi {P : List (Int × Int)} {sp : List Value} {n c : Nat} (h1 : Row (pl P) sp n c 2) (hn : n ≤ 1048576) (hhi : 12 < n) : CallOK Try.prog n_spec_l09Is [.slice (some ⟨0, 0, none⟩) n c] [(pl P ++ sp, none)] (fun v m_ => v = bb false ∧ m_ = [(pl P ++ sp, none)]) := by
  obtain rfl := row_pl h1; refine callOK_ofF good fn_spec_l09Is ?_
  conv => whnf
  all_goals (repeat' first
    | (refine br_false (b := decide ((P.length : Int) < 3)) (decide_eq_false ?_) ?_; (focus omega); conv => whnf)
    | (refine br_true (b := decide ((P.length : Int) > 12)) (decide_eq_true ?_) ?_; (focus omega); conv => whnf)
    | (exact out_forget [] ⟨congrArg Value.bool rfl, rfl⟩ rfl (okB2_spec rfl) ⟨⟨⟨_, rfl, .plain rfl rfl (Row.all h1)⟩⟩, trivial⟩ rfl rfl)
    | (refine StoreK.mk rfl ?_; conv => whnf)
    | exact join_same
    | exact (by assumption : (_ : Bool) = (_ : Bool))
    | (refine br_true (by assumption) ?_; conv => whnf)
    | (refine br_false (by assumption) ?_; conv => whnf)
    | (refine br_not ?_; conv => whnf)
    | (refine br_code ?_; conv => whnf)
    | (with_reducible refine br_and ?_; conv => whnf)
    | (with_reducible refine br_or ?_; conv => whnf)
    | (refine br_eq2 ?_; conv => whnf)
    | (refine c_spec_l01In.call ?_; conv => whnf)
    | (refine c_spec_l01In.quiet ?_; conv => whnf)
    | (refine c_spec_l01Is.call ?_; conv => whnf)
    | (refine c_spec_l01Is.quiet ?_; conv => whnf)
    | (refine c_spec_l09Side.call ?_; conv => whnf)
    | (refine c_spec_l09Side.quiet ?_; conv => whnf)
    | (refine c_spec_l01Plus.call ?_; conv => whnf)
    | (refine c_spec_l01Plus.quiet ?_; conv => whnf)
    | (refine c_spec_l09Half.call ?_; conv => whnf)
    | (refine c_spec_l09Half.quiet ?_; conv => whnf)
    | (refine draw_auto (by decide +kernel) ?_; conv => whnf)
    | (refine draw_asg (by decide +kernel) ?_; conv => whnf)
    | (refine draw_st (by decide +kernel) ?_; conv => whnf)
    | (refine draw_call (by decide +kernel) ?_; conv => whnf)
    | (refine enter_same (loop_n 12 ?_); conv => whnf)
    | (refine next_same ?_; conv => whnf)
    | (refine mapK_row (by assumption) ?_; conv => whnf)
    | (refine mapK_plain (Plain.of rfl) ?_; conv => whnf)
    | (refine mapK_lit ?_; conv => whnf)
    | (refine br_split (fun _ => ?_) (fun _ => ?_) <;> conv => whnf)
    | exact (rfl : (_ : Value) = _)
    | (simp only [*]; exact (rfl : (_ : Value) = _))
    | (simp [*]; done))

theorem c_spec_IsPolygon_hi {P : List (Int × Int)} {sp : List Value} {n c : Nat} (h1 : Row (pl P) sp n c 2) (hn : n ≤ 1048576) (hhi : 12 < n) : CallOK Try.prog n_spec_IsPolygon [.slice (some ⟨0, 0, none⟩) n c] [(pl P ++ sp, none)] (fun v m_ => v = bb (false) ∧ m_ = [(pl P ++ sp, none)]) := by
  refine callOK_ofF good fn_spec_IsPolygon ?_
  conv => whnf
  all_goals (repeat' first
    | (exact out_forget [] ⟨congrArg Value.bool rfl, rfl⟩ rfl (okB2_spec rfl) ⟨⟨⟨_, rfl, .plain rfl rfl (Row.all h1)⟩⟩, trivial⟩ rfl rfl)
    | (refine StoreK.mk rfl ?_; conv => whnf)
    | exact join_same
    | exact (by assumption : (_ : Bool) = (_ : Bool))
    | (refine br_true (by assumption) ?_; conv => whnf)
    | (refine br_false (by assumption) ?_; conv => whnf)
    | (refine br_not ?_; conv => whnf)
    | (refine br_code ?_; conv => whnf)
    | (with_reducible refine br_and ?_; conv => whnf)
    | (with_reducible refine br_or ?_; conv => whnf)
    | (refine br_eq2 ?_; conv => whnf)
    | (refine CallOK.useR (c_l09Is_hi (by first | assumption | exact Row.lit rfl rfl | omega) (by first | assumption | exact Row.lit rfl rfl | omega) (by first | assumption | exact Row.lit rfl rfl | omega)) [_] rfl rfl rfl ⟨⟨⟨_, rfl, .plain rfl (fun _ h_ => by first | exact h_ | cases h_) (by first | exact Plain.of rfl | exact Row.all (by assumption))⟩⟩, trivial⟩ (fun v_ mem_ hR => ?_); obtain ⟨rfl, rfl⟩ := hR; refine ⟨rfl, ?_⟩; conv => whnf)
    | (refine draw_auto (by decide +kernel) ?_; conv => whnf)
    | (refine draw_asg (by decide +kernel) ?_; conv => whnf)
    | (refine draw_st (by decide +kernel) ?_; conv => whnf)
    | (refine draw_call (by decide +kernel) ?_; conv => whnf)
    | (refine enter_same (loop_n 12 ?_); conv => whnf)
    | (refine next_same ?_; conv => whnf)
    | (refine mapK_row (by assumption) ?_; conv => whnf)
    | (refine mapK_plain (Plain.of rfl) ?_; conv => whnf)
    | (refine mapK_lit ?_; conv => whnf)
    | (refine br_split (fun _ => ?_) (fun _ => ?_) <;> conv => whnf)
    | exact (rfl : (_ : Value) = _)
    | (simp only [*]; exact (rfl : (_ : Value) = _))
    | (simp [*]; done))

theorem c_laws_szPointS {L : List Value} {n c off : Nat} {k : Int} (hpl : Plain L) : CallOK Try.prog n_laws_szPointS [.slice (some ⟨0, off, none⟩) n c, ii k] [(away off L, none)] (fun v m_ => v = ii (selF (decide (w64 (k - n) < 0)) (-1) (w64 (k - n))) ∧ m_ = [(away off L, none)]) := by
  refine callOK_ofF good fn_laws_szPointS ?_
  conv => whnf
  all_goals (repeat' first
    | (rw [(show decide (w64 (k - n) < 0) = true by assumption)]; exact out_forget [] ⟨rfl, rfl⟩ rfl (okB2_spec rfl) ⟨⟨⟨_, rfl, .lit (away_conc hpl _).symm rfl (away_ok hpl _)⟩⟩, trivial⟩ rfl rfl)
    | (rw [(show decide (w64 (k - n) < 0) = false by assumption)]; exact out_forget [] ⟨rfl, rfl⟩ rfl (okB2_spec rfl) ⟨⟨⟨_, rfl, .lit (away_conc hpl _).symm rfl (away_ok hpl _)⟩⟩, trivial⟩ rfl rfl)
    | (refine StoreK.mk rfl ?_; conv => whnf)
    | exact join_same
    | exact (by assumption : (_ : Bool) = (_ : Bool))
    | (refine br_true (by assumption) ?_; conv => whnf)
    | (refine br_false (by assumption) ?_; conv => whnf)
    | (refine br_not ?_; conv => whnf)
    | (refine br_code ?_; conv => whnf)
    | (with_reducible refine br_and ?_; conv => whnf)
    | (with_reducible refine br_or ?_; conv => whnf)
    | (refine br_eq2 ?_; conv => whnf)
    | (refine draw_auto (by decide +kernel) ?_; conv => whnf)
    | (refine draw_asg (by decide +kernel) ?_; conv => whnf)
    | (refine draw_st (by decide +kernel) ?_; conv => whnf)
    | (refine draw_call (by decide +kernel) ?_; conv => whnf)
    | (refine enter_same (loop_n 12 ?_); conv => whnf)
    | (refine next_same ?_; conv => whnf)
    | (refine mapK_row (by assumption) ?_; conv => whnf)
    | (refine mapK_plain (Plain.of rfl) ?_; conv => whnf)
    | (refine mapK_lit ?_; conv => whnf)
    | (refine br_split (fun _ => ?_) (fun _ => ?_) <;> conv => whnf)
    | exact (rfl : (_ : Value) = _)
    | (simp only [*]; exact (rfl : (_ : Value) = _))
    | (simp [*]; done))

theorem c_szPointS_nil   : Pure Try.prog n_laws_szPointS [.slice none 0 0, ii 1048576] (ii 1048576) := by
  refine pure_of good fn_laws_szPointS rfl rfl ?_
  conv => whnf
  all_goals (repeat' first
    | (refine br_false (b := decide (w64 (1048576 - ((0 : Nat) : Int)) < 0)) (by decide +kernel) ?_; conv => whnf)
    | exact congrArg (Value.int IntKind.i64) (by decide +kernel : w64 (1048576 - ((0 : Nat) : Int)) = 1048576)
    | (refine StoreK.mk rfl ?_; conv => whnf)
    | exact join_same
    | exact (by assumption : (_ : Bool) = (_ : Bool))
    | (refine br_true (by assumption) ?_; conv => whnf)
    | (refine br_false (by assumption) ?_; conv => whnf)
    | (refine br_not ?_; conv => whnf)
    | (refine br_code ?_; conv => whnf)
    | (with_reducible refine br_and ?_; conv => whnf)
    | (with_reducible refine br_or ?_; conv => whnf)
    | (refine br_eq2 ?_; conv => whnf)
    | (refine draw_auto (by decide +kernel) ?_; conv => whnf)
    | (refine draw_asg (by decide +kernel) ?_; conv => whnf)
    | (refine draw_st (by decide +kernel) ?_; conv => whnf)
    | (refine draw_call (by decide +kernel) ?_; conv => whnf)
    | (refine enter_same (loop_n 12 ?_); conv => whnf)
    | (refine next_same ?_; conv => whnf)
    | (refine mapK_row (by assumption) ?_; conv => whnf)
    | (refine mapK_plain (Plain.of rfl) ?_; conv => whnf)
    | (refine mapK_lit ?_; conv => whnf)
    | (refine br_split (fun _ => ?_) (fun _ => ?_) <;> conv => whnf)
    | exact (rfl : (_ : Value) = _)
    | (simp only [*]; exact (rfl : (_ : Value) = _))
    | (simp [*]; done))

set_option maxHeartbeats 1000000 in
theorem c_laws_toPointS {P : List (Int × Int)} {sp : List Value} {n c off : Nat} (h1 : Row (pl P) sp n c 2) (hn : n ≤ 1048576) : CallOK Try.prog n_laws_toPointS [.slice (some ⟨0, off, none⟩) n c] [(away off (pl P ++ sp), none)] (fun v m_ => v = .slice (some ⟨1, 0, none⟩) n n ∧ m_ = [(away off (pl P ++ sp), none), (pl P ++ [], some t_impl_Point)]) := by
  obtain rfl := row_pl h1; have hpl := Row.all h1; refine callOK_ofF good fn_laws_toPointS ?_
  conv => whnf
  all_goals (repeat' first
    | (refine MadeK.mk (by omega) (Int.le_refl _) ?_ ?_ ?_; (focus (show (16 : Int) * ((P.length : Nat) : Int) ≤ _; omega)); (focus omega); (rw [show zeros ((P.length : Nat) : Int).toNat ti39.zero = pl (List.replicate P.length (0, 0)) ++ [] from (zeros_pl _).trans (List.append_nil _).symm]; conv => whnf))
    | (refine enter_forget [1] (loop_rec (fun (s : Int × (List (Int × Int))) => match s with | (i, C) => [.slice (some ⟨0, off, none⟩) P.length c, wild, wild, .slice (some ⟨1, 0, none⟩) P.length P.length, ii i, wild, wild, wild, wild, wild, wild, wild, wild, wild, wild, wild, wild, wild, wild, wild, wild, wild, wild]) (fun (s : Int × (List (Int × Int))) => match s with | (i, C) => [(away off (pl P ++ sp), none), (pl C ++ [], some t_impl_Point)]) (fun (s : Int × (List (Int × Int))) => match s with | (i, C) => ((P.length : Int) - i).toNat) (fun (s : Int × (List (Int × Int))) => match s with | (i, C) => CpyQ P i C) (0, List.replicate P.length (0, 0)) (CpyQ.start P) ?_) (tmR_rfl rfl rfl) ⟨⟨⟨_, rfl, .lit (away_conc hpl _).symm rfl (away_ok hpl _)⟩⟩, ⟨⟨_, rfl, .plain rfl rfl ((pl_plain _).app Plain.nil)⟩⟩, trivial⟩ rfl rfl; rintro fuel_ ⟨i, C⟩ hI IH; replace hI : CpyQ P i C := hI; conv => whnf)
    | exact next_forget [_] (IH (w64 (i + 1), _) (by exact hI.next (of_decide_eq_true (show decide (i < (P.length : Int)) = true by assumption)) hn rfl rfl) (by exact idx_mu ⟨hI.lo, hI.hi⟩ (by assumption) (by omega))) (tmR_rfl rfl rfl) ⟨⟨⟨_, rfl, .lit (away_conc hpl _).symm rfl (away_ok hpl _)⟩⟩, ⟨⟨_, rfl, .plain rfl rfl ((pl_plain _).app Plain.nil)⟩⟩, trivial⟩ rfl rfl
    | (refine br_in (n := P.length) hI.lo (of_decide_eq_true (show decide (i < (P.length : Int)) = true by assumption)) ?_; conv => whnf)
    | (refine force_eq (take_away_pl (ps := P) (i := i.toNat) rfl ?_) ?_; (focus (have := hI.lo; have := (of_decide_eq_true (show decide (i < (P.length : Int)) = true by assumption)); omega)); conv => whnf)
    | (refine StoreK.mk ?_ ?_; (focus (have := hI.lo; have := hI.len; have := (of_decide_eq_true (show decide (i < (P.length : Int)) = true by assumption)); have hl_ : (pl C ++ []).length = C.length * 2 := (by rw [List.append_nil, pl_len]); exact Nat.ble_eq_true_of_le (show 0 + i.toNat * 2 + 2 ≤ (pl C ++ []).length by omega))); conv => whnf)
    | (refine set_pl (ps := C) (i := i.toNat) (Nat.zero_add _) ?_ rfl ?_; (focus (have := hI.lo; have := hI.len; have := (of_decide_eq_true (show decide (i < (P.length : Int)) = true by assumption)); omega)); conv => whnf)
    | (obtain rfl := hI.fin (of_decide_eq_false (by assumption)); exact out_forget [_] ⟨rfl, rfl⟩ rfl (okB2_spec rfl) ⟨⟨⟨_, rfl, .lit (away_conc hpl _).symm rfl (away_ok hpl _)⟩⟩, ⟨⟨_, rfl, .plain rfl rfl ((pl_plain _).app Plain.nil)⟩⟩, trivial⟩ rfl rfl)
    | (refine StoreK.mk rfl ?_; conv => whnf)
    | exact join_same
    | exact (by assumption : (_ : Bool) = (_ : Bool))
    | (refine br_true (by assumption) ?_; conv => whnf)
    | (refine br_false (by assumption) ?_; conv => whnf)
    | (refine br_not ?_; conv => whnf)
    | (refine br_code ?_; conv => whnf)
    | (with_reducible refine br_and ?_; conv => whnf)
    | (with_reducible refine br_or ?_; conv => whnf)
    | (refine br_eq2 ?_; conv => whnf)
    | (refine c_laws_toPoint.call ?_; conv => whnf)
    | (refine c_laws_toPoint.quiet ?_; conv => whnf)
    | (refine draw_auto (by decide +kernel) ?_; conv => whnf)
    | (refine draw_asg (by decide +kernel) ?_; conv => whnf)
    | (refine draw_st (by decide +kernel) ?_; conv => whnf)
    | (refine draw_call (by decide +kernel) ?_; conv => whnf)
    | (refine enter_same (loop_n 12 ?_); conv => whnf)
    | (refine next_same ?_; conv => whnf)
    | (refine mapK_row (by assumption) ?_; conv => whnf)
    | (refine mapK_plain (Plain.of rfl) ?_; conv => whnf)
    | (refine mapK_lit ?_; conv => whnf)
    | (refine br_split (fun _ => ?_) (fun _ => ?_) <;> conv => whnf)
    | exact (rfl : (_ : Value) = _)
    | (simp only [*]; exact (rfl : (_ : Value) = _))
    | (simp [*]; done))

theorem c_toPointS_nil   : CallOK Try.prog n_laws_toPointS [.slice none 0 0] [] (fun v m_ => v = .slice (some ⟨0, 0, none⟩) 0 0 ∧ m_ = [([], some t_impl_Point)]) := by
  refine callOK_ofF good fn_laws_toPointS ?_
  conv => whnf
  all_goals (repeat' first
    | (refine MadeK.mk (by omega) (Int.le_refl _) (by decide) (by decide) ?_; conv => whnf)
    | exact out_forget [_] ⟨rfl, rfl⟩ rfl (okB2_spec rfl) ⟨⟨⟨_, rfl, .plain rfl rfl (by first | exact Plain.of rfl | exact Row.all (by assumption))⟩⟩, trivial⟩ rfl rfl
    | (refine StoreK.mk rfl ?_; conv => whnf)
    | exact join_same
    | exact (by assumption : (_ : Bool) = (_ : Bool))
    | (refine br_true (by assumption) ?_; conv => whnf)
    | (refine br_false (by assumption) ?_; conv => whnf)
    | (refine br_not ?_; conv => whnf)
    | (refine br_code ?_; conv => whnf)
    | (with_reducible refine br_and ?_; conv => whnf)
    | (with_reducible refine br_or ?_; conv => whnf)
    | (refine br_eq2 ?_; conv => whnf)
    | (refine c_laws_toPoint.call ?_; conv => whnf)
    | (refine c_laws_toPoint.quiet ?_; conv => whnf)
    | (refine draw_auto (by decide +kernel) ?_; conv => whnf)
    | (refine draw_asg (by decide +kernel) ?_; conv => whnf)
    | (refine draw_st (by decide +kernel) ?_; conv => whnf)
    | (refine draw_call (by decide +kernel) ?_; conv => whnf)
    | (refine enter_same (loop_n 12 ?_); conv => whnf)
    | (refine next_same ?_; conv => whnf)
    | (refine mapK_row (by assumption) ?_; conv => whnf)
    | (refine mapK_plain (Plain.of rfl) ?_; conv => whnf)
    | (refine mapK_lit ?_; conv => whnf)
    | (refine br_split (fun _ => ?_) (fun _ => ?_) <;> conv => whnf)
    | exact (rfl : (_ : Value) = _)
    | (simp only [*]; exact (rfl : (_ : Value) = _))
    | (simp [*]; done))

theorem c_eqPointS_empty   : CallOK Try.prog n_laws_eqPointS [.slice (some ⟨0, 0, none⟩) 0 0, .slice (some ⟨1, 0, none⟩) 0 0] [([], none), ([], none)] (fun v m_ => v = bb true ∧ m_ = [([], none), ([], none)]) := by
  refine callOK_ofF good fn_laws_eqPointS ?_
  conv => whnf
  all_goals (repeat' first
    | exact out_forget [] ⟨rfl, rfl⟩ rfl (okB2_spec rfl) ⟨⟨⟨_, rfl, .plain rfl rfl (by first | exact Plain.of rfl | exact Row.all (by assumption))⟩⟩, ⟨⟨_, rfl, .plain rfl rfl (by first | exact Plain.of rfl | exact Row.all (by assumption))⟩⟩, trivial⟩ rfl rfl
    | (refine StoreK.mk rfl ?_; conv => whnf)
    | exact join_same
    | exact (by assumption : (_ : Bool) = (_ : Bool))
    | (refine br_true (by assumption) ?_; conv => whnf)
    | (refine br_false (by assumption) ?_; conv => whnf)
    | (refine br_not ?_; conv => whnf)
    | (refine br_code ?_; conv => whnf)
    | (with_reducible refine br_and ?_; conv => whnf)
    | (with_reducible refine br_or ?_; conv => whnf)
    | (refine br_eq2 ?_; conv => whnf)
    | (refine c_laws_eqPoint.call ?_; conv => whnf)
    | (refine c_laws_eqPoint.quiet ?_; conv => whnf)
    | (refine draw_auto (by decide +kernel) ?_; conv => whnf)
    | (refine draw_asg (by decide +kernel) ?_; conv => whnf)
    | (refine draw_st (by decide +kernel) ?_; conv => whnf)
    | (refine draw_call (by decide +kernel) ?_; conv => whnf)
    | (refine enter_same (loop_n 12 ?_); conv => whnf)
    | (refine next_same ?_; conv => whnf)
    | (refine mapK_row (by assumption) ?_; conv => whnf)
    | (refine mapK_plain (Plain.of rfl) ?_; conv => whnf)
    | (refine mapK_lit ?_; conv => whnf)
    | (refine br_split (fun _ => ?_) (fun _ => ?_) <;> conv => whnf)
    | exact (rfl : (_ : Value) = _)
    | (simp only [*]; exact (rfl : (_ : Value) = _))
    | (simp [*]; done))

theorem c_impl_IsPolygon_nil : CallOK Try.prog n_impl_IsPolygon [.slice (some ⟨0, 0, none⟩) 0 0] [([], none)] (fun v m_ => v = bb false ∧ m_ = [([], none)]) :=
  c_impl_IsPolygon_lo (P := []) (sp := []) (n := 0) (c := 0) Row.empty (by omega) (by omega)

theorem c_spec_IsPolygon_nil : CallOK Try.prog n_spec_IsPolygon [.slice (some ⟨0, 0, none⟩) 0 0] [([], none)] (fun v m_ => v = bb false ∧ m_ = [([], none)]) :=
  c_spec_IsPolygon_lo (P := []) (sp := []) (n := 0) (c := 0) Row.empty (by omega) (by omega)

end Go.Proofs.Ytlkbfpklhncfbaa
