/-
  Contracts of functions of the program (printed by a program of this work; Lean checks each).
  Conditions: as each contract states.
-/
import Derived.Test.YtlkbfpklhncfbaaK11
namespace Go.Proofs.Ytlkbfpklhncfbaa
open Go.Ev Go.RowKit
set_option maxRecDepth 100000
set_option linter.unusedVariables false
set_option linter.unusedSimpArgs false

def ratF (p q : Int) : Bool := isCoordF p && inF q 1 1000000

theorem c_impl_ratioOk {a b : Int}  : Pure Try.prog n_impl_ratioOk [ii a, ii b] (bb (ratF a b)) := by
  refine pure_of good fn_impl_ratioOk rfl rfl ?_
  conv => whnf
  all_goals (repeat' first
    | (refine StoreK.mk rfl ?_; conv => whnf)
    | exact join_same
    | exact (by assumption : (_ : Bool) = (_ : Bool))
    | (refine br_true (by assumption) ?_; conv => whnf)
    | (refine br_false (by assumption) ?_; conv => whnf)
    | (refine br_not ?_; conv => whnf)
    | (refine br_code ?_; conv => whnf)
    | (with_reducible refine br_and ?_; conv => whnf)
    | (with_reducible refine br_or ?_; conv => whnf)
    | (refine br_eq2 ?_; conv => whnf)
    | (refine c_impl_isCoord.call ?_; conv => whnf)
    | (refine c_impl_isCoord.quiet ?_; conv => whnf)
    | (refine c_impl_in.call ?_; conv => whnf)
    | (refine c_impl_in.quiet ?_; conv => whnf)
    | (refine draw_auto (by decide +kernel) ?_; conv => whnf)
    | (refine draw_asg (by decide +kernel) ?_; conv => whnf)
    | (refine draw_st (by decide +kernel) ?_; conv => whnf)
    | (refine draw_call (by decide +kernel) ?_; conv => whnf)
    | (refine enter_same (loop_n 12 ?_); conv => whnf)
    | (refine next_same ?_; conv => whnf)
    | (refine mapK_row (by assumption) ?_; conv => whnf)
    | (refine mapK_plain (Plain.of rfl) ?_; conv => whnf)
    | (refine mapK_lit ?_; conv => whnf)
    | (refine br_split (fun _ => ?_) (fun _ => ?_) <;> conv => whnf)
    | exact (rfl : (_ : Value) = _)
    | (simp only [*]; exact (rfl : (_ : Value) = _))
    | (simp [ratF, *]; done))

theorem ratF_ok {a b : Int} (h : ratF a b = true) : ExpOk a b := by
  simp only [ratF, isCoordF, inF, Bool.and_eq_true, decide_eq_true_eq] at h
  exact ⟨by omega, by omega, by omega, by omega⟩

theorem c_impl_ConvergentsOf_ok {a b : Int} (h : ratF a b = true) : CallOK Try.prog n_impl_ConvergentsOf [ii a, ii b] [] (fun v m_ => ∃ n c sp, Row (pl (convs (expL a b))) sp n c 2 ∧ n ≤ 1000001 ∧ v = t2 (.slice (some ⟨0, 0, none⟩) n c) (ii 0) ∧ m_ = [(pl (convs (expL a b)) ++ sp, some t_impl_Point)]) := by
  have hx_ := ratF_ok h; refine callOK_ofF good fn_impl_ConvergentsOf ?_
  conv => whnf
  all_goals (repeat' first
    | exact out_forget [_] ⟨_, _, _, hrow_, hn_, rfl, rfl⟩ rfl (okB2_spec rfl) ⟨⟨_, rfl, .plain rfl rfl (Row.all hrow_)⟩, trivial⟩ rfl rfl
    | (refine StoreK.mk rfl ?_; conv => whnf)
    | exact join_same
    | exact (by assumption : (_ : Bool) = (_ : Bool))
    | (refine br_true (by assumption) ?_; conv => whnf)
    | (refine br_false (by assumption) ?_; conv => whnf)
    | (refine br_not ?_; conv => whnf)
    | (refine br_code ?_; conv => whnf)
    | (with_reducible refine br_and ?_; conv => whnf)
    | (with_reducible refine br_or ?_; conv => whnf)
    | (refine br_eq2 ?_; conv => whnf)
    | (refine c_impl_ratioOk.call ?_; conv => whnf)
    | (refine c_impl_ratioOk.quiet ?_; conv => whnf)
    | (refine CallOK.useR (c_impl_convergents (by first | assumption | exact Row.lit rfl rfl | omega)) [] rfl rfl rfl trivial (fun v_ mem_ hR => ?_); obtain ⟨n_, c_, sp_, hrow_, hn_, rfl, rfl⟩ := hR; refine ⟨rfl, ?_⟩; conv => whnf)
    | (refine draw_auto (by decide +kernel) ?_; conv => whnf)
    | (refine draw_asg (by decide +kernel) ?_; conv => whnf)
    | (refine draw_st (by decide +kernel) ?_; conv => whnf)
    | (refine draw_call (by decide +kernel) ?_; conv => whnf)
    | (refine enter_same (loop_n 12 ?_); conv => whnf)
    | (refine next_same ?_; conv => whnf)
    | (refine mapK_row (by assumption) ?_; conv => whnf)
    | (refine mapK_plain (Plain.of rfl) ?_; conv => whnf)
    | (refine mapK_lit ?_; conv => whnf)
    | (refine br_split (fun _ => ?_) (fun _ => ?_) <;> conv => whnf)
    | exact (rfl : (_ : Value) = _)
    | (simp only [*]; exact (rfl : (_ : Value) = _))
    | (simp [*]; done))

theorem c_impl_ConvergentsOf_no {a b : Int} (h : ratF a b = false) : CallOK Try.prog n_impl_ConvergentsOf [ii a, ii b] [] (fun v m_ => v = t2 (.slice none 0 0) (ii 2) ∧ m_ = []) := by
  refine callOK_ofF good fn_impl_ConvergentsOf ?_
  conv => whnf
  all_goals (repeat' first
    | exact out_forget [] ⟨rfl, rfl⟩ rfl (okB2_spec rfl) trivial rfl rfl
    | (refine StoreK.mk rfl ?_; conv => whnf)
    | exact join_same
    | exact (by assumption : (_ : Bool) = (_ : Bool))
    | (refine br_true (by assumption) ?_; conv => whnf)
    | (refine br_false (by assumption) ?_; conv => whnf)
    | (refine br_not ?_; conv => whnf)
    | (refine br_code ?_; conv => whnf)
    | (with_reducible refine br_and ?_; conv => whnf)
    | (with_reducible refine br_or ?_; conv => whnf)
    | (refine br_eq2 ?_; conv => whnf)
    | (refine c_impl_ratioOk.call ?_; conv => whnf)
    | (refine c_impl_ratioOk.quiet ?_; conv => whnf)
    | (refine CallOK.useR (c_impl_convergents (by first | assumption | exact Row.lit rfl rfl | omega)) [] rfl rfl rfl trivial (fun v_ mem_ hR => ?_); obtain ⟨n_, c_, sp_, hrow_, hn_, rfl, rfl⟩ := hR; refine ⟨rfl, ?_⟩; conv => whnf)
    | (refine draw_auto (by decide +kernel) ?_; conv => whnf)
    | (refine draw_asg (by decide +kernel) ?_; conv => whnf)
    | (refine draw_st (by decide +kernel) ?_; conv => whnf)
    | (refine draw_call (by decide +kernel) ?_; conv => whnf)
    | (refine enter_same (loop_n 12 ?_); conv => whnf)
    | (refine next_same ?_; conv => whnf)
    | (refine mapK_row (by assumption) ?_; conv => whnf)
    | (refine mapK_plain (Plain.of rfl) ?_; conv => whnf)
    | (refine mapK_lit ?_; conv => whnf)
    | (refine br_split (fun _ => ?_) (fun _ => ?_) <;> conv => whnf)
    | exact (rfl : (_ : Value) = _)
    | (simp only [*]; exact (rfl : (_ : Value) = _))
    | (simp [*]; done))

theorem c_spec_ConvergentsOf_no1 {a b : Int} (h : isCoordF a = false) : CallOK Try.prog n_spec_ConvergentsOf [ii a, ii b] [] (fun v m_ => v = t2 (.slice none 0 0) (ii 2) ∧ m_ = []) := by
  refine callOK_ofF good fn_spec_ConvergentsOf ?_
  conv => whnf
  all_goals (repeat' first
    | exact out_forget [] ⟨rfl, rfl⟩ rfl (okB2_spec rfl) trivial rfl rfl
    | (refine StoreK.mk rfl ?_; conv => whnf)
    | exact join_same
    | exact (by assumption : (_ : Bool) = (_ : Bool))
    | (refine br_true (by assumption) ?_; conv => whnf)
    | (refine br_false (by assumption) ?_; conv => whnf)
    | (refine br_not ?_; conv => whnf)
    | (refine br_code ?_; conv => whnf)
    | (with_reducible refine br_and ?_; conv => whnf)
    | (with_reducible refine br_or ?_; conv => whnf)
    | (refine br_eq2 ?_; conv => whnf)
    | (refine c_spec_l01Fits.call ?_; conv => whnf)
    | (refine c_spec_l01Fits.quiet ?_; conv => whnf)
    | (refine c_spec_l01In.call ?_; conv => whnf)
    | (refine c_spec_l01In.quiet ?_; conv => whnf)
    | (refine CallOK.useR (c_spec_l01Expand (by first | assumption | exact Row.lit rfl rfl | omega)) [] rfl rfl rfl trivial (fun v_ mem_ hR => ?_); obtain ⟨n_, c_, sp_, hrow_, hn_, rfl, rfl⟩ := hR; refine ⟨rfl, ?_⟩; conv => whnf)
    | (refine CallOK.useR (c_spec_l01Fold (by first | assumption | exact Row.lit rfl rfl | omega) (by first | assumption | exact Row.lit rfl rfl | omega) (by first | assumption | exact Row.lit rfl rfl | omega) (by first | assumption | exact Row.lit rfl rfl | omega) (by first | assumption | exact Row.lit rfl rfl | omega)) [_] rfl rfl rfl ⟨⟨⟨_, rfl, .plain rfl (fun _ h_ => by first | exact h_ | cases h_) (by first | exact Plain.of rfl | exact Row.all (by assumption))⟩⟩, trivial⟩ (fun v_ mem_ hR => ?_); obtain ⟨rfl, rfl⟩ := hR; refine ⟨rfl, ?_⟩; conv => whnf)
    | (refine draw_auto (by decide +kernel) ?_; conv => whnf)
    | (refine draw_asg (by decide +kernel) ?_; conv => whnf)
    | (refine draw_st (by decide +kernel) ?_; conv => whnf)
    | (refine draw_call (by decide +kernel) ?_; conv => whnf)
    | (refine enter_same (loop_n 12 ?_); conv => whnf)
    | (refine next_same ?_; conv => whnf)
    | (refine mapK_row (by assumption) ?_; conv => whnf)
    | (refine mapK_plain (Plain.of rfl) ?_; conv => whnf)
    | (refine mapK_lit ?_; conv => whnf)
    | (refine br_split (fun _ => ?_) (fun _ => ?_) <;> conv => whnf)
    | exact (rfl : (_ : Value) = _)
    | (simp only [*]; exact (rfl : (_ : Value) = _))
    | (simp [*]; done))

theorem c_spec_ConvergentsOf_no2 {a b : Int} (h : isCoordF a = true) (h2 : inF b 1 1000000 = false) : CallOK Try.prog n_spec_ConvergentsOf [ii a, ii b] [] (fun v m_ => v = t2 (.slice none 0 0) (ii 2) ∧ m_ = []) := by
  refine callOK_ofF good fn_spec_ConvergentsOf ?_
  conv => whnf
  all_goals (repeat' first
    | exact out_forget [] ⟨rfl, rfl⟩ rfl (okB2_spec rfl) trivial rfl rfl
    | (refine StoreK.mk rfl ?_; conv => whnf)
    | exact join_same
    | exact (by assumption : (_ : Bool) = (_ : Bool))
    | (refine br_true (by assumption) ?_; conv => whnf)
    | (refine br_false (by assumption) ?_; conv => whnf)
    | (refine br_not ?_; conv => whnf)
    | (refine br_code ?_; conv => whnf)
    | (with_reducible refine br_and ?_; conv => whnf)
    | (with_reducible refine br_or ?_; conv => whnf)
    | (refine br_eq2 ?_; conv => whnf)
    | (refine c_spec_l01Fits.call ?_; conv => whnf)
    | (refine c_spec_l01Fits.quiet ?_; conv => whnf)
    | (refine c_spec_l01In.call ?_; conv => whnf)
    | (refine c_spec_l01In.quiet ?_; conv => whnf)
    | (refine CallOK.useR (c_spec_l01Expand (by first | assumption | exact Row.lit rfl rfl | omega)) [] rfl rfl rfl trivial (fun v_ mem_ hR => ?_); obtain ⟨n_, c_, sp_, hrow_, hn_, rfl, rfl⟩ := hR; refine ⟨rfl, ?_⟩; conv => whnf)
    | (refine CallOK.useR (c_spec_l01Fold (by first | assumption | exact Row.lit rfl rfl | omega) (by first | assumption | exact Row.lit rfl rfl | omega) (by first | assumption | exact Row.lit rfl rfl | omega) (by first | assumption | exact Row.lit rfl rfl | omega) (by first | assumption | exact Row.lit rfl rfl | omega)) [_] rfl rfl rfl ⟨⟨⟨_, rfl, .plain rfl (fun _ h_ => by first | exact h_ | cases h_) (by first | exact Plain.of rfl | exact Row.all (by assumption))⟩⟩, trivial⟩ (fun v_ mem_ hR => ?_); obtain ⟨rfl, rfl⟩ := hR; refine ⟨rfl, ?_⟩; conv => whnf)
    | (refine draw_auto (by decide +kernel) ?_; conv => whnf)
    | (refine draw_asg (by decide +kernel) ?_; conv => whnf)
    | (refine draw_st (by decide +kernel) ?_; conv => whnf)
    | (refine draw_call (by decide +kernel) ?_; conv => whnf)
    | (refine enter_same (loop_n 12 ?_); conv => whnf)
    | (refine next_same ?_; conv => whnf)
    | (refine mapK_row (by assumption) ?_; conv => whnf)
    | (refine mapK_plain (Plain.of rfl) ?_; conv => whnf)
    | (refine mapK_lit ?_; conv => whnf)
    | (refine br_split (fun _ => ?_) (fun _ => ?_) <;> conv => whnf)
    | exact (rfl : (_ : Value) = _)
    | (simp only [*]; exact (rfl : (_ : Value) = _))
    | (simp [*]; done))

theorem c_spec_ConvergentsOf_ok {a b : Int} (h : ratF a b = true) (h1 : isCoordF a = true) (h2 : inF b 1 1000000 = true) : CallOK Try.prog n_spec_ConvergentsOf [ii a, ii b] [] (fun v m_ => ∃ n c sp, Row (pl (convs (expL a b))) sp n c 2 ∧ n ≤ 1000001 ∧ v = t2 (.slice (some ⟨0, 0, none⟩) n c) (ii 0) ∧ m_ = [(pl (convs (expL a b)) ++ sp, some t_impl_Point)]) := by
  have hx_ := ratF_ok h; refine callOK_ofF good fn_spec_ConvergentsOf ?_
  conv => whnf
  all_goals (repeat' first
    | (refine enter_forget [0, 1] (loop_rec (fun (s : Int × (List Value) × (List Value) × Nat × Nat) => match s with | (i, L, sp, n, c) => [wild, wild, wild, wild, wild, wild, .slice (some ⟨0, 0, none⟩) n_ c_, .slice (some ⟨1, 0, none⟩) n c, ii i, wild, wild, wild, wild, wild, wild, wild, wild, wild, wild, wild, wild, wild, wild, wild, wild, wild, wild, wild, wild, wild, wild, wild, wild, wild, wild, wild, wild, wild, wild, wild, wild, wild, wild, wild, wild]) (fun (s : Int × (List Value) × (List Value) × Nat × Nat) => match s with | (i, L, sp, n, c) => [(il (expL a b) ++ sp_, some 2), (L ++ sp, some t_impl_Point)]) (fun (s : Int × (List Value) × (List Value) × Nat × Nat) => match s with | (i, L, sp, n, c) => (((expL a b).length : Int) + 1 - i).toNat) (fun (s : Int × (List Value) × (List Value) × Nat × Nat) => match s with | (i, L, sp, n, c) => BegI (expL a b) i L sp n c) (1, [], [], 0, 0) (BegI.start _) ?_) (tmR_rfl rfl rfl) ⟨⟨⟨_, rfl, .plain rfl rfl (by first | exact Plain.of rfl | exact Row.all (by assumption))⟩⟩, ⟨⟨_, rfl, .plain rfl rfl (by first | exact Plain.of rfl | exact Row.all (by assumption))⟩⟩, trivial⟩ rfl rfl; rintro fuel_ ⟨i, L, sp, n, c⟩ hI IH; replace hI : BegI (expL a b) i L sp n c := hI; conv => whnf)
    | exact next_forget [0, _] (IH (w64 (i + 1), _, _, _, _) (by exact hI.next (by have hl_ := row_il hrow_; have := of_decide_eq_true (by assumption); (try clear IH); omega) (by have := row_il hrow_; omega) rfl ra_) (by exact hI.mu (by have hl_ := row_il hrow_; have := of_decide_eq_true (by assumption); (try clear IH); omega) (by have := row_il hrow_; omega))) (tmR_rfl rfl rfl) ⟨⟨⟨_, rfl, .plain rfl rfl (Row.all hrow_)⟩⟩, ⟨⟨_, rfl, .plain rfl rfl (Row.all ra_)⟩⟩, trivial⟩ rfl rfl
    | (refine br_true (decide_eq_true (by have := hI.lo; have := hI.hi; have := hrow_.le (by decide); have hl_ := row_il hrow_; have := of_decide_eq_true (by assumption); clear IH; omega)) ?_; conv => whnf)
    | (refine CallOK.useR (c_spec_l01Fold (xs := expL a b) (sp := sp_) (m := i.toNat) (c := c_) (by have := hI.lo; omega) (by have hl_ := row_il hrow_; have := of_decide_eq_true (by assumption); (try clear IH); have := hI.lo; omega) (by have := row_il hrow_; omega) (fun j => fits hx_ j _) (Row.all hrow_)) [_] rfl rfl rfl ⟨⟨⟨_, rfl, .plain rfl (fun _ h_ => by cases h_) (Row.all hrow_)⟩⟩, trivial⟩ (fun v_ mem_ hR => ?_); obtain ⟨rfl, rfl⟩ := hR; refine ⟨rfl, ?_⟩; conv => whnf)
    | (show AppK _ _ _ 2 _ _ _ _ _; refine app_lit hI.row rfl rfl rfl (Plain.of rfl) rfl rfl (by decide) (by have := hI.lo; have := hI.hi; have := hI.num; have hl_ := row_il hrow_; clear IH; have : n_ ≤ 1000001 := hn_; show (_ + 1) * 16 ≤ _; omega) (by have := hI.lo; have := hI.hi; have := hI.num; have hl_ := row_il hrow_; clear IH; have : n_ ≤ 1000001 := hn_; omega) (fun hle_ spa_ ra_ => ?_) (fun hle_ ca_ spa_ ra_ => ?_) <;> conv => whnf)
    | (obtain ⟨rfl, hrow2_, hn2_⟩ := hI.fin (by have hl_ := row_il hrow_; have := of_decide_eq_false (by assumption); clear IH; omega); exact out_forget [_] ⟨_, _, _, hrow2_, by have hl_ := row_il hrow_; omega, rfl, rfl⟩ rfl (okB2_spec rfl) ⟨⟨_, rfl, .plain rfl rfl (Row.all hrow2_)⟩, trivial⟩ rfl rfl)
    | (refine StoreK.mk rfl ?_; conv => whnf)
    | exact join_same
    | exact (by assumption : (_ : Bool) = (_ : Bool))
    | (refine br_true (by assumption) ?_; conv => whnf)
    | (refine br_false (by assumption) ?_; conv => whnf)
    | (refine br_not ?_; conv => whnf)
    | (refine br_code ?_; conv => whnf)
    | (with_reducible refine br_and ?_; conv => whnf)
    | (with_reducible refine br_or ?_; conv => whnf)
    | (refine br_eq2 ?_; conv => whnf)
    | (refine c_spec_l01Fits.call ?_; conv => whnf)
    | (refine c_spec_l01Fits.quiet ?_; conv => whnf)
    | (refine c_spec_l01In.call ?_; conv => whnf)
    | (refine c_spec_l01In.quiet ?_; conv => whnf)
    | (refine CallOK.useR (c_spec_l01Expand (by first | assumption | exact Row.lit rfl rfl | omega)) [] rfl rfl rfl trivial (fun v_ mem_ hR => ?_); obtain ⟨n_, c_, sp_, hrow_, hn_, rfl, rfl⟩ := hR; refine ⟨rfl, ?_⟩; conv => whnf)
    | (refine CallOK.useR (c_spec_l01Fold (by first | assumption | exact Row.lit rfl rfl | omega) (by first | assumption | exact Row.lit rfl rfl | omega) (by first | assumption | exact Row.lit rfl rfl | omega) (by first | assumption | exact Row.lit rfl rfl | omega) (by first | assumption | exact Row.lit rfl rfl | omega)) [_] rfl rfl rfl ⟨⟨⟨_, rfl, .plain rfl (fun _ h_ => by first | exact h_ | cases h_) (by first | exact Plain.of rfl | exact Row.all (by assumption))⟩⟩, trivial⟩ (fun v_ mem_ hR => ?_); obtain ⟨rfl, rfl⟩ := hR; refine ⟨rfl, ?_⟩; conv => whnf)
    | (refine draw_auto (by decide +kernel) ?_; conv => whnf)
    | (refine draw_asg (by decide +kernel) ?_; conv => whnf)
    | (refine draw_st (by decide +kernel) ?_; conv => whnf)
    | (refine draw_call (by decide +kernel) ?_; conv => whnf)
    | (refine enter_same (loop_n 12 ?_); conv => whnf)
    | (refine next_same ?_; conv => whnf)
    | (refine mapK_row (by assumption) ?_; conv => whnf)
    | (refine mapK_plain (Plain.of rfl) ?_; conv => whnf)
    | (refine mapK_lit ?_; conv => whnf)
    | (refine br_split (fun _ => ?_) (fun _ => ?_) <;> conv => whnf)
    | exact (rfl : (_ : Value) = _)
    | (simp only [*]; exact (rfl : (_ : Value) = _))
    | (simp [*]; done))

theorem c_law_conv_ok {a b : Int} (h : ratF a b = true) (h1 : isCoordF a = true) (h2 : inF b 1 1000000 = true) : Pure Try.prog n_laws_FnExactConvergentsOf [ii a, ii b] (bb true) := by
  refine pure_of good fn_laws_FnExactConvergentsOf rfl rfl ?_
  conv => whnf
  all_goals (repeat' first
    | (refine br_true ?_ ?_; (focus (simp; done)); conv => whnf)
    | (refine br_false ?_ ?_; (focus (simp; done)); conv => whnf)
    | (refine br_false (decide_eq_false (by omega)) ?_; conv => whnf)
    | (refine draw_call (by decide +kernel) ?_; conv => whnf)
    | (refine StoreK.mk rfl ?_; conv => whnf)
    | exact join_same
    | exact (by assumption : (_ : Bool) = (_ : Bool))
    | (refine br_true (by assumption) ?_; conv => whnf)
    | (refine br_false (by assumption) ?_; conv => whnf)
    | (refine br_not ?_; conv => whnf)
    | (refine br_code ?_; conv => whnf)
    | (with_reducible refine br_and ?_; conv => whnf)
    | (with_reducible refine br_or ?_; conv => whnf)
    | (refine br_eq2 ?_; conv => whnf)
    | (refine CallOK.useR (c_spec_ConvergentsOf_no1 (by first | assumption | exact Row.lit rfl rfl | omega)) [] rfl rfl rfl trivial (fun v_ mem_ hR => ?_); obtain ⟨rfl, rfl⟩ := hR; refine ⟨rfl, ?_⟩; conv => whnf)
    | (refine CallOK.useR (c_spec_ConvergentsOf_no2 (by first | assumption | exact Row.lit rfl rfl | omega) (by first | assumption | exact Row.lit rfl rfl | omega)) [] rfl rfl rfl trivial (fun v_ mem_ hR => ?_); obtain ⟨rfl, rfl⟩ := hR; refine ⟨rfl, ?_⟩; conv => whnf)
    | (refine CallOK.useR (c_spec_ConvergentsOf_ok (by first | assumption | exact Row.lit rfl rfl | omega) (by first | assumption | exact Row.lit rfl rfl | omega) (by first | assumption | exact Row.lit rfl rfl | omega)) [] rfl rfl rfl trivial (fun v_ mem_ hR => ?_); obtain ⟨n_, c_, sp_, hrow_, hn_, rfl, rfl⟩ := hR; refine ⟨rfl, ?_⟩; conv => whnf)
    | (refine CallOK.useR (c_impl_ConvergentsOf_ok (by first | assumption | exact Row.lit rfl rfl | omega)) [] rfl rfl rfl trivial (fun v_ mem_ hR => ?_); obtain ⟨n_, c_, sp_, hrow_, hn_, rfl, rfl⟩ := hR; refine ⟨rfl, ?_⟩; conv => whnf)
    | (refine CallOK.useR (c_impl_ConvergentsOf_no (by first | assumption | exact Row.lit rfl rfl | omega)) [] rfl rfl rfl trivial (fun v_ mem_ hR => ?_); obtain ⟨rfl, rfl⟩ := hR; refine ⟨rfl, ?_⟩; conv => whnf)
    | (refine CallOK.useR (c_laws_eqPointS (by first | assumption | exact Row.lit rfl rfl | omega) (by first | assumption | exact Row.lit rfl rfl | omega) (by first | assumption | exact Row.lit rfl rfl | omega)) [_, _] rfl rfl rfl ⟨⟨⟨_, rfl, .plain rfl (fun _ h_ => by first | exact h_ | cases h_) (by first | exact Plain.of rfl | exact Row.all (by assumption))⟩⟩, ⟨⟨_, rfl, .plain rfl (fun _ h_ => by first | exact h_ | cases h_) (by first | exact Plain.of rfl | exact Row.all (by assumption))⟩⟩, trivial⟩ (fun v_ mem_ hR => ?_); obtain ⟨rfl, rfl⟩ := hR; refine ⟨rfl, ?_⟩; conv => whnf)
    | (refine c_eqPointS_nil.call ?_; conv => whnf)
    | (refine c_eqPointS_nil.quiet ?_; conv => whnf)
    | (refine CallOK.useR (c_laws_markPointS (by first | assumption | exact Row.lit rfl rfl | omega) (by first | assumption | exact Row.lit rfl rfl | omega) (by first | assumption | exact Row.lit rfl rfl | omega)) [_] rfl rfl rfl ⟨⟨⟨_, rfl, .plain rfl (fun _ h_ => by first | exact h_ | cases h_) (by first | exact Plain.of rfl | exact Row.all (by assumption))⟩⟩, trivial⟩ (fun v_ mem_ hR => ?_); obtain ⟨sq_, hrow_, rfl, rfl⟩ := hR; refine ⟨rfl, ?_⟩; conv => whnf)
    | (refine c_markPointS_nil.call ?_; conv => whnf)
    | (refine c_markPointS_nil.quiet ?_; conv => whnf)
    | (refine CallOK.useR (c_laws_heldPointS (by first | assumption | exact Row.lit rfl rfl | omega) (by first | assumption | exact Row.lit rfl rfl | omega) (by first | assumption | exact Row.lit rfl rfl | omega)) [_] rfl rfl rfl ⟨⟨⟨_, rfl, .plain rfl (fun _ h_ => by first | exact h_ | cases h_) (by first | exact Plain.of rfl | exact Row.all (by assumption))⟩⟩, trivial⟩ (fun v_ mem_ hR => ?_); obtain ⟨rfl, rfl⟩ := hR; refine ⟨rfl, ?_⟩; conv => whnf)
    | (refine c_heldPointS_nil.call ?_; conv => whnf)
    | (refine c_heldPointS_nil.quiet ?_; conv => whnf)
    | (refine draw_auto (by decide +kernel) ?_; conv => whnf)
    | (refine draw_asg (by decide +kernel) ?_; conv => whnf)
    | (refine draw_st (by decide +kernel) ?_; conv => whnf)
    | (refine draw_call (by decide +kernel) ?_; conv => whnf)
    | (refine enter_same (loop_n 12 ?_); conv => whnf)
    | (refine next_same ?_; conv => whnf)
    | (refine mapK_row (by assumption) ?_; conv => whnf)
    | (refine mapK_plain (Plain.of rfl) ?_; conv => whnf)
    | (refine mapK_lit ?_; conv => whnf)
    | (refine br_split (fun _ => ?_) (fun _ => ?_) <;> conv => whnf)
    | exact (rfl : (_ : Value) = _)
    | (simp only [*]; exact (rfl : (_ : Value) = _))
    | (simp [*]; done))

theorem c_law_conv_no1 {a b : Int} (h : ratF a b = false) (h1 : isCoordF a = false) : Pure Try.prog n_laws_FnExactConvergentsOf [ii a, ii b] (bb true) := by
  refine pure_of good fn_laws_FnExactConvergentsOf rfl rfl ?_
  conv => whnf
  all_goals (repeat' first
    | (refine br_true ?_ ?_; (focus (simp; done)); conv => whnf)
    | (refine br_false ?_ ?_; (focus (simp; done)); conv => whnf)
    | (refine br_false (decide_eq_false (by omega)) ?_; conv => whnf)
    | (refine draw_call (by decide +kernel) ?_; conv => whnf)
    | (refine StoreK.mk rfl ?_; conv => whnf)
    | exact join_same
    | exact (by assumption : (_ : Bool) = (_ : Bool))
    | (refine br_true (by assumption) ?_; conv => whnf)
    | (refine br_false (by assumption) ?_; conv => whnf)
    | (refine br_not ?_; conv => whnf)
    | (refine br_code ?_; conv => whnf)
    | (with_reducible refine br_and ?_; conv => whnf)
    | (with_reducible refine br_or ?_; conv => whnf)
    | (refine br_eq2 ?_; conv => whnf)
    | (refine CallOK.useR (c_spec_ConvergentsOf_no1 (by first | assumption | exact Row.lit rfl rfl | omega)) [] rfl rfl rfl trivial (fun v_ mem_ hR => ?_); obtain ⟨rfl, rfl⟩ := hR; refine ⟨rfl, ?_⟩; conv => whnf)
    | (refine CallOK.useR (c_spec_ConvergentsOf_no2 (by first | assumption | exact Row.lit rfl rfl | omega) (by first | assumption | exact Row.lit rfl rfl | omega)) [] rfl rfl rfl trivial (fun v_ mem_ hR => ?_); obtain ⟨rfl, rfl⟩ := hR; refine ⟨rfl, ?_⟩; conv => whnf)
    | (refine CallOK.useR (c_spec_ConvergentsOf_ok (by first | assumption | exact Row.lit rfl rfl | omega) (by first | assumption | exact Row.lit rfl rfl | omega) (by first | assumption | exact Row.lit rfl rfl | omega)) [] rfl rfl rfl trivial (fun v_ mem_ hR => ?_); obtain ⟨n_, c_, sp_, hrow_, hn_, rfl, rfl⟩ := hR; refine ⟨rfl, ?_⟩; conv => whnf)
    | (refine CallOK.useR (c_impl_ConvergentsOf_ok (by first | assumption | exact Row.lit rfl rfl | omega)) [] rfl rfl rfl trivial (fun v_ mem_ hR => ?_); obtain ⟨n_, c_, sp_, hrow_, hn_, rfl, rfl⟩ := hR; refine ⟨rfl, ?_⟩; conv => whnf)
    | (refine CallOK.useR (c_impl_ConvergentsOf_no (by first | assumption | exact Row.lit rfl rfl | omega)) [] rfl rfl rfl trivial (fun v_ mem_ hR => ?_); obtain ⟨rfl, rfl⟩ := hR; refine ⟨rfl, ?_⟩; conv => whnf)
    | (refine CallOK.useR (c_laws_eqPointS (by first | assumption | exact Row.lit rfl rfl | omega) (by first | assumption | exact Row.lit rfl rfl | omega) (by first | assumption | exact Row.lit rfl rfl | omega)) [_, _] rfl rfl rfl ⟨⟨⟨_, rfl, .plain rfl (fun _ h_ => by first | exact h_ | cases h_) (by first | exact Plain.of rfl | exact Row.all (by assumption))⟩⟩, ⟨⟨_, rfl, .plain rfl (fun _ h_ => by first | exact h_ | cases h_) (by first | exact Plain.of rfl | exact Row.all (by assumption))⟩⟩, trivial⟩ (fun v_ mem_ hR => ?_); obtain ⟨rfl, rfl⟩ := hR; refine ⟨rfl, ?_⟩; conv => whnf)
    | (refine c_eqPointS_nil.call ?_; conv => whnf)
    | (refine c_eqPointS_nil.quiet ?_; conv => whnf)
    | (refine CallOK.useR (c_laws_markPointS (by first | assumption | exact Row.lit rfl rfl | omega) (by first | assumption | exact Row.lit rfl rfl | omega) (by first | assumption | exact Row.lit rfl rfl | omega)) [_] rfl rfl rfl ⟨⟨⟨_, rfl, .plain rfl (fun _ h_ => by first | exact h_ | cases h_) (by first | exact Plain.of rfl | exact Row.all (by assumption))⟩⟩, trivial⟩ (fun v_ mem_ hR => ?_); obtain ⟨sq_, hrow_, rfl, rfl⟩ := hR; refine ⟨rfl, ?_⟩; conv => whnf)
    | (refine c_markPointS_nil.call ?_; conv => whnf)
    | (refine c_markPointS_nil.quiet ?_; conv => whnf)
    | (refine CallOK.useR (c_laws_heldPointS (by first | assumption | exact Row.lit rfl rfl | omega) (by first | assumption | exact Row.lit rfl rfl | omega) (by first | assumption | exact Row.lit rfl rfl | omega)) [_] rfl rfl rfl ⟨⟨⟨_, rfl, .plain rfl (fun _ h_ => by first | exact h_ | cases h_) (by first | exact Plain.of rfl | exact Row.all (by assumption))⟩⟩, trivial⟩ (fun v_ mem_ hR => ?_); obtain ⟨rfl, rfl⟩ := hR; refine ⟨rfl, ?_⟩; conv => whnf)
    | (refine c_heldPointS_nil.call ?_; conv => whnf)
    | (refine c_heldPointS_nil.quiet ?_; conv => whnf)
    | (refine draw_auto (by decide +kernel) ?_; conv => whnf)
    | (refine draw_asg (by decide +kernel) ?_; conv => whnf)
    | (refine draw_st (by decide +kernel) ?_; conv => whnf)
    | (refine draw_call (by decide +kernel) ?_; conv => whnf)
    | (refine enter_same (loop_n 12 ?_); conv => whnf)
    | (refine next_same ?_; conv => whnf)
    | (refine mapK_row (by assumption) ?_; conv => whnf)
    | (refine mapK_plain (Plain.of rfl) ?_; conv => whnf)
    | (refine mapK_lit ?_; conv => whnf)
    | (refine br_split (fun _ => ?_) (fun _ => ?_) <;> conv => whnf)
    | exact (rfl : (_ : Value) = _)
    | (simp only [*]; exact (rfl : (_ : Value) = _))
    | (simp [*]; done))

theorem c_law_conv_no2 {a b : Int} (h : ratF a b = false) (h1 : isCoordF a = true) (h2 : inF b 1 1000000 = false) : Pure Try.prog n_laws_FnExactConvergentsOf [ii a, ii b] (bb true) := by
  refine pure_of good fn_laws_FnExactConvergentsOf rfl rfl ?_
  conv => whnf
  all_goals (repeat' first
    | (refine br_true ?_ ?_; (focus (simp; done)); conv => whnf)
    | (refine br_false ?_ ?_; (focus (simp; done)); conv => whnf)
    | (refine br_false (decide_eq_false (by omega)) ?_; conv => whnf)
    | (refine draw_call (by decide +kernel) ?_; conv => whnf)
    | (refine StoreK.mk rfl ?_; conv => whnf)
    | exact join_same
    | exact (by assumption : (_ : Bool) = (_ : Bool))
    | (refine br_true (by assumption) ?_; conv => whnf)
    | (refine br_false (by assumption) ?_; conv => whnf)
    | (refine br_not ?_; conv => whnf)
    | (refine br_code ?_; conv => whnf)
    | (with_reducible refine br_and ?_; conv => whnf)
    | (with_reducible refine br_or ?_; conv => whnf)
    | (refine br_eq2 ?_; conv => whnf)
    | (refine CallOK.useR (c_spec_ConvergentsOf_no1 (by first | assumption | exact Row.lit rfl rfl | omega)) [] rfl rfl rfl trivial (fun v_ mem_ hR => ?_); obtain ⟨rfl, rfl⟩ := hR; refine ⟨rfl, ?_⟩; conv => whnf)
    | (refine CallOK.useR (c_spec_ConvergentsOf_no2 (by first | assumption | exact Row.lit rfl rfl | omega) (by first | assumption | exact Row.lit rfl rfl | omega)) [] rfl rfl rfl trivial (fun v_ mem_ hR => ?_); obtain ⟨rfl, rfl⟩ := hR; refine ⟨rfl, ?_⟩; conv => whnf)
    | (refine CallOK.useR (c_spec_ConvergentsOf_ok (by first | assumption | exact Row.lit rfl rfl | omega) (by first | assumption | exact Row.lit rfl rfl | omega) (by first | assumption | exact Row.lit rfl rfl | omega)) [] rfl rfl rfl trivial (fun v_ mem_ hR => ?_); obtain ⟨n_, c_, sp_, hrow_, hn_, rfl, rfl⟩ := hR; refine ⟨rfl, ?_⟩; conv => whnf)
    | (refine CallOK.useR (c_impl_ConvergentsOf_ok (by first | assumption | exact Row.lit rfl rfl | omega)) [] rfl rfl rfl trivial (fun v_ mem_ hR => ?_); obtain ⟨n_, c_, sp_, hrow_, hn_, rfl, rfl⟩ := hR; refine ⟨rfl, ?_⟩; conv => whnf)
    | (refine CallOK.useR (c_impl_ConvergentsOf_no (by first | assumption | exact Row.lit rfl rfl | omega)) [] rfl rfl rfl trivial (fun v_ mem_ hR => ?_); obtain ⟨rfl, rfl⟩ := hR; refine ⟨rfl, ?_⟩; conv => whnf)
    | (refine CallOK.useR (c_laws_eqPointS (by first | assumption | exact Row.lit rfl rfl | omega) (by first | assumption | exact Row.lit rfl rfl | omega) (by first | assumption | exact Row.lit rfl rfl | omega)) [_, _] rfl rfl rfl ⟨⟨⟨_, rfl, .plain rfl (fun _ h_ => by first | exact h_ | cases h_) (by first | exact Plain.of rfl | exact Row.all (by assumption))⟩⟩, ⟨⟨_, rfl, .plain rfl (fun _ h_ => by first | exact h_ | cases h_) (by first | exact Plain.of rfl | exact Row.all (by assumption))⟩⟩, trivial⟩ (fun v_ mem_ hR => ?_); obtain ⟨rfl, rfl⟩ := hR; refine ⟨rfl, ?_⟩; conv => whnf)
    | (refine c_eqPointS_nil.call ?_; conv => whnf)
    | (refine c_eqPointS_nil.quiet ?_; conv => whnf)
    | (refine CallOK.useR (c_laws_markPointS (by first | assumption | exact Row.lit rfl rfl | omega) (by first | assumption | exact Row.lit rfl rfl | omega) (by first | assumption | exact Row.lit rfl rfl | omega)) [_] rfl rfl rfl ⟨⟨⟨_, rfl, .plain rfl (fun _ h_ => by first | exact h_ | cases h_) (by first | exact Plain.of rfl | exact Row.all (by assumption))⟩⟩, trivial⟩ (fun v_ mem_ hR => ?_); obtain ⟨sq_, hrow_, rfl, rfl⟩ := hR; refine ⟨rfl, ?_⟩; conv => whnf)
    | (refine c_markPointS_nil.call ?_; conv => whnf)
    | (refine c_markPointS_nil.quiet ?_; conv => whnf)
    | (refine CallOK.useR (c_laws_heldPointS (by first | assumption | exact Row.lit rfl rfl | omega) (by first | assumption | exact Row.lit rfl rfl | omega) (by first | assumption | exact Row.lit rfl rfl | omega)) [_] rfl rfl rfl ⟨⟨⟨_, rfl, .plain rfl (fun _ h_ => by first | exact h_ | cases h_) (by first | exact Plain.of rfl | exact Row.all (by assumption))⟩⟩, trivial⟩ (fun v_ mem_ hR => ?_); obtain ⟨rfl, rfl⟩ := hR; refine ⟨rfl, ?_⟩; conv => whnf)
    | (refine c_heldPointS_nil.call ?_; conv => whnf)
    | (refine c_heldPointS_nil.quiet ?_; conv => whnf)
    | (refine draw_auto (by decide +kernel) ?_; conv => whnf)
    | (refine draw_asg (by decide +kernel) ?_; conv => whnf)
    | (refine draw_st (by decide +kernel) ?_; conv => whnf)
    | (refine draw_call (by decide +kernel) ?_; conv => whnf)
    | (refine enter_same (loop_n 12 ?_); conv => whnf)
    | (refine next_same ?_; conv => whnf)
    | (refine mapK_row (by assumption) ?_; conv => whnf)
    | (refine mapK_plain (Plain.of rfl) ?_; conv => whnf)
    | (refine mapK_lit ?_; conv => whnf)
    | (refine br_split (fun _ => ?_) (fun _ => ?_) <;> conv => whnf)
    | exact (rfl : (_ : Value) = _)
    | (simp only [*]; exact (rfl : (_ : Value) = _))
    | (simp [*]; done))

theorem c_laws_FnExactConvergentsOf {a b : Int} : Pure Try.prog n_laws_FnExactConvergentsOf [ii a, ii b] (bb true) := by
  cases h1 : isCoordF a
  · exact c_law_conv_no1 (by simp [ratF, h1]) h1
  · cases h2 : inF b 1 1000000
    · exact c_law_conv_no2 (by simp [ratF, h2]) h1 h2
    · exact c_law_conv_ok (by simp [ratF, h1, h2]) h1 h2

end Go.Proofs.Ytlkbfpklhncfbaa
