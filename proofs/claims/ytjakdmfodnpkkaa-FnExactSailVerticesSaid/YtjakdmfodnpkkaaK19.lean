/-
  Contracts of functions of the program (printed by a program of this work; Lean checks each).
  Conditions: as each contract states.
-/
import Derived.Test.YtjakdmfodnpkkaaK18
namespace Go.Proofs.Ytjakdmfodnpkkaa
open Go.Ev Go.RowKit
set_option maxRecDepth 100000
set_option linter.unusedVariables false
set_option linter.unusedSimpArgs false

theorem c_spec_SailVertices_no2 {a b c d : Int} (h : AngOk a b c d) (ht : sailT a b c d 2 = none) : CallOK Try.prog n_spec_SailVertices [pt a b, pt c d] [] (fun v m_ => v = t2 (.slice none 0 0) (ii 3) ∧ m_ = []) := by
  have ha_ := ang_no h; refine callOK_ofF good fn_spec_SailVertices ?_
  conv => whnf
  all_goals (repeat' first
    | exact out_forget [] ⟨rfl, rfl⟩ rfl (okB2_spec rfl) trivial rfl rfl
    | (refine StoreK.mk rfl ?_; conv => whnf)
    | exact join_same
    | exact (by assumption : (_ : Bool) = (_ : Bool))
    | (refine br_true (by assumption) ?_; conv => whnf)
    | (refine br_false (by assumption) ?_; conv => whnf)
    | (refine br_not ?_; conv => whnf)
    | (refine br_code ?_; conv => whnf)
    | (with_reducible refine br_and ?_; conv => whnf)
    | (with_reducible refine br_or ?_; conv => whnf)
    | (refine br_eq2 ?_; conv => whnf)
    | (refine CallOK.useR (c_l03Code_ok (by first | assumption | exact Row.lit rfl rfl | omega) (by first | assumption | exact Row.lit rfl rfl | omega)) [] rfl rfl rfl trivial (fun v_ mem_ hR => ?_); obtain ⟨n_, c_, j_, k_, sp_, sq_, hrow_, hrow2_, hn_, rfl, rfl⟩ := hR; refine ⟨rfl, ?_⟩; conv => whnf)
    | (refine CallOK.useR (c_l03Code_no2 (by first | assumption | exact Row.lit rfl rfl | omega) (by first | assumption | exact Row.lit rfl rfl | omega)) [] rfl rfl rfl trivial (fun v_ mem_ hR => ?_); obtain ⟨rfl, rfl⟩ := hR; refine ⟨rfl, ?_⟩; conv => whnf)
    | (refine CallOK.useR (c_l03Code_no1 (by first | assumption | exact Row.lit rfl rfl | omega)) [] rfl rfl rfl trivial (fun v_ mem_ hR => ?_); obtain ⟨rfl, rfl⟩ := hR; refine ⟨rfl, ?_⟩; conv => whnf)
    | (refine draw_auto (by decide +kernel) ?_; conv => whnf)
    | (refine draw_asg (by decide +kernel) ?_; conv => whnf)
    | (refine draw_st (by decide +kernel) ?_; conv => whnf)
    | (refine draw_call (by decide +kernel) ?_; conv => whnf)
    | (refine enter_same (loop_n 12 ?_); conv => whnf)
    | (refine next_same ?_; conv => whnf)
    | (refine mapK_row (by assumption) ?_; conv => whnf)
    | (refine mapK_plain (Plain.of rfl) ?_; conv => whnf)
    | (refine mapK_lit ?_; conv => whnf)
    | (refine br_split (fun _ => ?_) (fun _ => ?_) <;> conv => whnf)
    | exact (rfl : (_ : Value) = _)
    | (simp only [*]; exact (rfl : (_ : Value) = _))
    | (simp [*]; done))

theorem c_spec_SailVertices_no1 {a b c d : Int} (h : isAngF a b c d = false) : CallOK Try.prog n_spec_SailVertices [pt a b, pt c d] [] (fun v m_ => v = t2 (.slice none 0 0) (ii 1) ∧ m_ = []) := by
  refine callOK_ofF good fn_spec_SailVertices ?_
  conv => whnf
  all_goals (repeat' first
    | exact out_forget [] ⟨rfl, rfl⟩ rfl (okB2_spec rfl) trivial rfl rfl
    | (refine StoreK.mk rfl ?_; conv => whnf)
    | exact join_same
    | exact (by assumption : (_ : Bool) = (_ : Bool))
    | (refine br_true (by assumption) ?_; conv => whnf)
    | (refine br_false (by assumption) ?_; conv => whnf)
    | (refine br_not ?_; conv => whnf)
    | (refine br_code ?_; conv => whnf)
    | (with_reducible refine br_and ?_; conv => whnf)
    | (with_reducible refine br_or ?_; conv => whnf)
    | (refine br_eq2 ?_; conv => whnf)
    | (refine CallOK.useR (c_l03Code_ok (by first | assumption | exact Row.lit rfl rfl | omega) (by first | assumption | exact Row.lit rfl rfl | omega)) [] rfl rfl rfl trivial (fun v_ mem_ hR => ?_); obtain ⟨n_, c_, j_, k_, sp_, sq_, hrow_, hrow2_, hn_, rfl, rfl⟩ := hR; refine ⟨rfl, ?_⟩; conv => whnf)
    | (refine CallOK.useR (c_l03Code_no2 (by first | assumption | exact Row.lit rfl rfl | omega) (by first | assumption | exact Row.lit rfl rfl | omega)) [] rfl rfl rfl trivial (fun v_ mem_ hR => ?_); obtain ⟨rfl, rfl⟩ := hR; refine ⟨rfl, ?_⟩; conv => whnf)
    | (refine CallOK.useR (c_l03Code_no1 (by first | assumption | exact Row.lit rfl rfl | omega)) [] rfl rfl rfl trivial (fun v_ mem_ hR => ?_); obtain ⟨rfl, rfl⟩ := hR; refine ⟨rfl, ?_⟩; conv => whnf)
    | (refine draw_auto (by decide +kernel) ?_; conv => whnf)
    | (refine draw_asg (by decide +kernel) ?_; conv => whnf)
    | (refine draw_st (by decide +kernel) ?_; conv => whnf)
    | (refine draw_call (by decide +kernel) ?_; conv => whnf)
    | (refine enter_same (loop_n 12 ?_); conv => whnf)
    | (refine next_same ?_; conv => whnf)
    | (refine mapK_row (by assumption) ?_; conv => whnf)
    | (refine mapK_plain (Plain.of rfl) ?_; conv => whnf)
    | (refine mapK_lit ?_; conv => whnf)
    | (refine br_split (fun _ => ?_) (fun _ => ?_) <;> conv => whnf)
    | exact (rfl : (_ : Value) = _)
    | (simp only [*]; exact (rfl : (_ : Value) = _))
    | (simp [*]; done))

set_option maxHeartbeats 1000000 in
theorem c_spec_SailVertices_ok {a b c d : Int} {P : List (Int × Int)} {T : List Int} (h : AngOk a b c d) (ht : sailT a b c d 2 = some (P, T)) : CallOK Try.prog n_spec_SailVertices [pt a b, pt c d] [] (fun v m_ => ∃ n c sp, Row (pl (vertsP P (T ++ [2]))) sp n c 2 ∧ n ≤ 1000001 ∧ v = t2 (.slice (some ⟨0, 0, none⟩) n c) (ii 0) ∧ m_ = [(pl (vertsP P (T ++ [2])) ++ sp, some t_impl_Point)]) := by
  have ha_ := ang_no h; refine callOK_ofF good fn_spec_SailVertices ?_
  conv => whnf
  all_goals (repeat' first
    | (refine enter_forget [2, 3, 4] (loop_rec (fun (s : Int × (List Value) × (List Value) × Nat × Nat) => match s with | (i, L, s3, n3, c3) => [wild, wild, wild, wild, wild, wild, .slice (some ⟨0, 0, none⟩) n_ c_, .slice (some ⟨1, 0, none⟩) j_ k_, wild, .slice (some ⟨2, 0, none⟩) n3 c3, ii i, wild, wild, wild, wild, wild, wild, wild, wild, wild, wild, wild, wild, wild, wild, wild, wild, wild, wild, wild, wild, wild, wild, wild, wild, wild, wild, wild, wild, wild, wild, wild, wild, wild, wild, wild, wild, wild, wild, wild, wild, wild]) (fun (s : Int × (List Value) × (List Value) × Nat × Nat) => match s with | (i, L, s3, n3, c3) => [(pl P ++ sp_, some t_impl_Point), (il (T ++ [2]) ++ sq_, some 2), (L ++ s3, some t_impl_Point)]) (fun (s : Int × (List Value) × (List Value) × Nat × Nat) => match s with | (i, L, s3, n3, c3) => ((n_ : Int) - i).toNat) (fun (s : Int × (List Value) × (List Value) × Nat × Nat) => match s with | (i, L, s3, n3, c3) => PtvI P (T ++ [2]) n_ i L s3 n3 c3) (0, [], [], 0, 0) (PtvI.start _ _ _) ?_) (tmR_rfl rfl rfl) ⟨⟨⟨_, rfl, .plain rfl rfl (Row.all hrow_)⟩⟩, ⟨⟨_, rfl, .plain rfl rfl (Row.all hrow2_)⟩⟩, ⟨⟨_, rfl, .plain rfl rfl (by first | exact Plain.of rfl | exact Row.all (by assumption))⟩⟩, trivial⟩ rfl rfl; rintro fuel_ ⟨i, L, s3, n3, c3⟩ hI IH; replace hI : PtvI P (T ++ [2]) n_ i L s3 n3 c3 := hI; conv => whnf)
    | exact next_forget [0, 1, _] (IH (w64 (i + 1), _, _, _, _) (by exact hI.add (by have q1_ := row_il hrow2_; have q2_ := row_pl hrow_; have q3_ := sailT_len ht; rw [List.length_append, List.length_singleton]; omega : n_ = (T ++ [2]).length) (of_decide_eq_true (show decide (i < (n_ : Int)) = true by assumption)) hn_ (by first | exact .inl (of_decide_eq_true (by assumption)) | exact .inr (.inl (of_decide_eq_true (by assumption))) | exact .inr (.inr (of_decide_eq_true (by assumption)))) ra_) (by exact idx_mu ⟨hI.lo, hI.hi⟩ (by assumption) (by omega))) (tmR_rfl rfl rfl) ⟨⟨⟨_, rfl, .plain rfl rfl (Row.all hrow_)⟩⟩, ⟨⟨_, rfl, .plain rfl rfl (Row.all hrow2_)⟩⟩, ⟨⟨_, rfl, .plain rfl rfl (Row.all ra_)⟩⟩, trivial⟩ rfl rfl
    | exact next_forget [0, 1, _] (IH (w64 (i + 1), _, _, _, _) (by exact hI.skip (by have q1_ := row_il hrow2_; have q2_ := row_pl hrow_; have q3_ := sailT_len ht; rw [List.length_append, List.length_singleton]; omega : n_ = (T ++ [2]).length) (of_decide_eq_true (show decide (i < (n_ : Int)) = true by assumption)) hn_ (fun hh => hh.elim (of_decide_eq_false (by assumption)) (fun hh => hh.elim (of_decide_eq_false (by assumption)) (of_decide_eq_false (by assumption))))) (by exact idx_mu ⟨hI.lo, hI.hi⟩ (by assumption) (by omega))) (tmR_rfl rfl rfl) ⟨⟨⟨_, rfl, .plain rfl rfl (Row.all hrow_)⟩⟩, ⟨⟨_, rfl, .plain rfl rfl (Row.all hrow2_)⟩⟩, ⟨⟨_, rfl, .plain rfl rfl (Row.all hI.row)⟩⟩, trivial⟩ rfl rfl
    | (refine br_in hI.lo (of_decide_eq_true (show decide (i < (n_ : Int)) = true by assumption)) ?_; conv => whnf)
    | (refine br_in hI.lo (by have := (of_decide_eq_true (show decide (i < (n_ : Int)) = true by assumption)); have q1_ := row_il hrow2_; have q9_ := (by have q1_ := row_il hrow2_; have q2_ := row_pl hrow_; have q3_ := sailT_len ht; rw [List.length_append, List.length_singleton]; omega : n_ = (T ++ [2]).length); omega) ?_; conv => whnf)
    | (refine force_eq (take_il (i := i.toNat) (by simp only [Nat.mul_one, Nat.zero_add]) (by have := hI.lo; have := (of_decide_eq_true (show decide (i < (n_ : Int)) = true by assumption)); have q9_ := (by have q1_ := row_il hrow2_; have q2_ := row_pl hrow_; have q3_ := sailT_len ht; rw [List.length_append, List.length_singleton]; omega : n_ = (T ++ [2]).length); omega)) ?_; conv => whnf)
    | (refine force_eq (take_pt (i := i.toNat) (by simp only [Nat.zero_add]) (by have := hI.lo; have := (of_decide_eq_true (show decide (i < (n_ : Int)) = true by assumption)); have := row_pl hrow_; omega)) ?_; conv => whnf)
    | (show AppK _ _ _ 2 _ _ _ _ _; refine app_lit hI.row rfl rfl rfl (Plain.of rfl) rfl rfl (by decide) (by have := hI.num; have := hI.hi; show (_ + 1) * 16 ≤ _; omega) (by have := hI.num; have := hI.hi; omega) (fun hle_ spa_ ra_ => ?_) (fun hle_ ca_ spa_ ra_ => ?_) <;> conv => whnf)
    | (obtain rfl := hI.fin (by have q1_ := row_il hrow2_; have q2_ := row_pl hrow_; have q3_ := sailT_len ht; rw [List.length_append, List.length_singleton]; omega : n_ = (T ++ [2]).length) (of_decide_eq_false (show decide (i < (n_ : Int)) = false by assumption)); exact out_forget [_] ⟨_, _, _, hI.row, (by have := hI.num; have := hI.hi; omega), rfl, rfl⟩ rfl (okB2_spec rfl) ⟨⟨⟨_, rfl, .plain rfl rfl (Row.all hI.row)⟩⟩, trivial⟩ rfl rfl)
    | (refine StoreK.mk rfl ?_; conv => whnf)
    | exact join_same
    | exact (by assumption : (_ : Bool) = (_ : Bool))
    | (refine br_true (by assumption) ?_; conv => whnf)
    | (refine br_false (by assumption) ?_; conv => whnf)
    | (refine br_not ?_; conv => whnf)
    | (refine br_code ?_; conv => whnf)
    | (with_reducible refine br_and ?_; conv => whnf)
    | (with_reducible refine br_or ?_; conv => whnf)
    | (refine br_eq2 ?_; conv => whnf)
    | (refine CallOK.useR (c_l03Code_ok (by first | assumption | exact Row.lit rfl rfl | omega) (by first | assumption | exact Row.lit rfl rfl | omega)) [] rfl rfl rfl trivial (fun v_ mem_ hR => ?_); obtain ⟨n_, c_, j_, k_, sp_, sq_, hrow_, hrow2_, hn_, rfl, rfl⟩ := hR; refine ⟨rfl, ?_⟩; conv => whnf)
    | (refine CallOK.useR (c_l03Code_no2 (by first | assumption | exact Row.lit rfl rfl | omega) (by first | assumption | exact Row.lit rfl rfl | omega)) [] rfl rfl rfl trivial (fun v_ mem_ hR => ?_); obtain ⟨rfl, rfl⟩ := hR; refine ⟨rfl, ?_⟩; conv => whnf)
    | (refine CallOK.useR (c_l03Code_no1 (by first | assumption | exact Row.lit rfl rfl | omega)) [] rfl rfl rfl trivial (fun v_ mem_ hR => ?_); obtain ⟨rfl, rfl⟩ := hR; refine ⟨rfl, ?_⟩; conv => whnf)
    | (refine draw_auto (by decide +kernel) ?_; conv => whnf)
    | (refine draw_asg (by decide +kernel) ?_; conv => whnf)
    | (refine draw_st (by decide +kernel) ?_; conv => whnf)
    | (refine draw_call (by decide +kernel) ?_; conv => whnf)
    | (refine enter_same (loop_n 12 ?_); conv => whnf)
    | (refine next_same ?_; conv => whnf)
    | (refine mapK_row (by assumption) ?_; conv => whnf)
    | (refine mapK_plain (Plain.of rfl) ?_; conv => whnf)
    | (refine mapK_lit ?_; conv => whnf)
    | (refine br_split (fun _ => ?_) (fun _ => ?_) <;> conv => whnf)
    | exact (rfl : (_ : Value) = _)
    | (simp only [*]; exact (rfl : (_ : Value) = _))
    | (simp [*]; done))

end Go.Proofs.Ytjakdmfodnpkkaa
