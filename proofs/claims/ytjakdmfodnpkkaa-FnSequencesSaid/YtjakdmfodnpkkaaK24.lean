/-
  Contracts of functions of the program (printed by a program of this work; Lean checks each).
  Conditions: as each contract states.
-/
import Derived.Test.YtjakdmfodnpkkaaK23
namespace Go.Proofs.Ytjakdmfodnpkkaa
open Go.Ev Go.RowKit
set_option maxRecDepth 100000
set_option linter.unusedVariables false
set_option linter.unusedSimpArgs false

set_option maxHeartbeats 1000000 in
theorem c_spec_SequenceOf_ok {a b c d : Int} {P : List (Int × Int)} {T : List Int} (h : AngOk a b c d) (ht : sailT a b c d 2 = some (P, T)) : CallOK Try.prog n_spec_SequenceOf [pt a b, pt c d] [] (fun v m_ => ∃ n c sp, Row (il (seqL (T ++ [2]) (vts (T ++ [2])))) sp n c 1 ∧ n ≤ 1000001 ∧ v = t2 (.slice (some ⟨0, 0, none⟩) n c) (ii 0) ∧ m_ = [(il (seqL (T ++ [2]) (vts (T ++ [2]))) ++ sp, some 2)]) := by
  have ha_ := ang_no h; refine callOK_ofF good fn_spec_SequenceOf ?_
  conv => whnf
  all_goals (repeat' first
    | (refine CallOK.useR (c_spec_l03Parts (t := T ++ [2]) hrow2_ (by have q1_ := row_il hrow2_; have q2_ := row_pl hrow_; have q3_ := sailT_len ht; have q4_ := sailT_head ht; (simp only [List.length_append, List.length_singleton] at q1_); omega) (by have q1_ := row_il hrow2_; have q2_ := row_pl hrow_; have q3_ := sailT_len ht; have q4_ := sailT_head ht; (simp only [List.length_append, List.length_singleton] at q1_); obtain ⟨cs_, rfl⟩ := q4_; simp only [List.length_cons] at q1_; omega)) [_] rfl rfl rfl ⟨⟨⟨_, rfl, .plain rfl (fun _ h_ => by cases h_) (Row.all hrow2_)⟩⟩, trivial⟩ (fun v_ mem_ hR => ?_); obtain ⟨n2_, c2_, s2_, n3_, c3_, s3_, hrow3_, hrow4_, hn3_, hn4_, rfl, rfl⟩ := hR; refine ⟨rfl, ?_⟩; conv => whnf)
    | (refine enter_forget [3, 4, 5, 6] (loop_rec (fun (s : Int × (List Value) × (List Value) × Nat × Nat) => match s with | (i, L, s4, n4, c4) => [wild, wild, wild, wild, wild, wild, wild, wild, wild, .slice (some ⟨1, 0, none⟩) n2_ c2_, .slice (some ⟨2, 0, none⟩) n3_ c3_, .slice (some ⟨3, 0, none⟩) n4 c4, ii i, wild, wild, wild, wild, wild, wild, wild, wild, wild, wild, wild, wild, wild, wild, wild, wild, wild, wild, wild, wild, wild, wild, wild, wild, wild, wild, wild, wild, wild, wild, wild, wild, wild, wild, wild, wild, wild, wild, wild, wild, wild]) (fun (s : Int × (List Value) × (List Value) × Nat × Nat) => match s with | (i, L, s4, n4, c4) => [(il (T ++ [2]) ++ sq_, some 2), (il (lenL (T ++ [2]) (vts (T ++ [2]))) ++ s2_, some 2), (il (sinL (T ++ [2]) (vts (T ++ [2]))) ++ s3_, some 2), (L ++ s4, some 2)]) (fun (s : Int × (List Value) × (List Value) × Nat × Nat) => match s with | (i, L, s4, n4, c4) => ((n2_ : Int) - i).toNat) (fun (s : Int × (List Value) × (List Value) × Nat × Nat) => match s with | (i, L, s4, n4, c4) => WeavI (T ++ [2]) (vts (T ++ [2])) i L s4 n4 c4) (0, [], [], 0, 0) (WeavI.start _ (vts_two ht)) ?_) (tmR_rfl rfl rfl) ⟨⟨⟨_, rfl, .plain rfl rfl (Row.all hrow2_)⟩⟩, ⟨⟨_, rfl, .plain rfl rfl (Row.all hrow3_)⟩⟩, ⟨⟨_, rfl, .plain rfl rfl (Row.all hrow4_)⟩⟩, ⟨⟨_, rfl, .plain rfl rfl (by first | exact Plain.of rfl | exact Row.all (by assumption))⟩⟩, trivial⟩ rfl rfl; rintro fuel_ ⟨i, L, s4, n4, c4⟩ hI IH; replace hI : WeavI (T ++ [2]) (vts (T ++ [2])) i L s4 n4 c4 := hI; conv => whnf)
    | exact next_forget [0, 1, 2, _] (IH (w64 (i + 1), _, _, _, _) (by exact hI.both (by have l5_ := row_il hrow3_; have l6_ := row_il hrow4_; have := (of_decide_eq_true (show decide (i < (n2_ : Int)) = true by assumption)); omega) (by have l5_ := row_il hrow3_; have l6_ := row_il hrow4_; have := (of_decide_eq_true (show decide (i < (n2_ : Int)) = true by assumption)); have := of_decide_eq_true (show decide (i < (n3_ : Int)) = true by assumption); omega) (show (vts (T ++ [2])).length ≤ 2000 by have := vertTo_len (T ++ [2]) (T ++ [2]).length; have q1_ := row_il hrow2_; have q2_ := row_pl hrow_; have q3_ := sailT_len ht; have q4_ := sailT_head ht; (simp only [List.length_append, List.length_singleton] at q1_); unfold vts; simp only [List.length_append, List.length_singleton] at *; omega) rfl rfl rb_) (by exact idx_mu ⟨hI.lo, by have l5_ := row_il hrow3_; have l6_ := row_il hrow4_; have := (of_decide_eq_true (show decide (i < (n2_ : Int)) = true by assumption)); omega⟩ (by assumption) (by omega))) (tmR_rfl rfl rfl) ⟨⟨⟨_, rfl, .plain rfl rfl (Row.all hrow2_)⟩⟩, ⟨⟨_, rfl, .plain rfl rfl (Row.all hrow3_)⟩⟩, ⟨⟨_, rfl, .plain rfl rfl (Row.all hrow4_)⟩⟩, ⟨⟨_, rfl, .plain rfl rfl (Row.all rb_)⟩⟩, trivial⟩ rfl rfl
    | exact next_forget [0, 1, 2, _] (IH (w64 (i + 1), _, _, _, _) (by exact hI.end_ (by have l5_ := row_il hrow3_; have l6_ := row_il hrow4_; have := (of_decide_eq_true (show decide (i < (n2_ : Int)) = true by assumption)); omega) (by have l5_ := row_il hrow3_; have l6_ := row_il hrow4_; have := (of_decide_eq_true (show decide (i < (n2_ : Int)) = true by assumption)); have := of_decide_eq_false (show decide (i < (n3_ : Int)) = false by assumption); omega) (show (vts (T ++ [2])).length ≤ 2000 by have := vertTo_len (T ++ [2]) (T ++ [2]).length; have q1_ := row_il hrow2_; have q2_ := row_pl hrow_; have q3_ := sailT_len ht; have q4_ := sailT_head ht; (simp only [List.length_append, List.length_singleton] at q1_); unfold vts; simp only [List.length_append, List.length_singleton] at *; omega) rfl ra_) (by exact idx_mu ⟨hI.lo, by have l5_ := row_il hrow3_; have l6_ := row_il hrow4_; have := (of_decide_eq_true (show decide (i < (n2_ : Int)) = true by assumption)); omega⟩ (by assumption) (by omega))) (tmR_rfl rfl rfl) ⟨⟨⟨_, rfl, .plain rfl rfl (Row.all hrow2_)⟩⟩, ⟨⟨_, rfl, .plain rfl rfl (Row.all hrow3_)⟩⟩, ⟨⟨_, rfl, .plain rfl rfl (Row.all hrow4_)⟩⟩, ⟨⟨_, rfl, .plain rfl rfl (Row.all ra_)⟩⟩, trivial⟩ rfl rfl
    | (refine br_in hI.lo (of_decide_eq_true (by assumption)) ?_; conv => whnf)
    | (refine force_eq (take_il (xs := (lenL (T ++ [2]) (vts (T ++ [2])))) (i := (i).toNat) ?_ ?_) ?_; (focus (simp only [Nat.mul_one, Nat.zero_add]; done)); (focus (have l5_ := row_il hrow3_; have l6_ := row_il hrow4_; have := (of_decide_eq_true (show decide (i < (n2_ : Int)) = true by assumption)); have := hI.lo; omega; done)); conv => whnf)
    | (refine force_eq (take_il (xs := (sinL (T ++ [2]) (vts (T ++ [2])))) (i := (i).toNat) ?_ ?_) ?_; (focus (simp only [Nat.mul_one, Nat.zero_add]; done)); (focus (have l5_ := row_il hrow3_; have l6_ := row_il hrow4_; have := (of_decide_eq_true (show decide (i < (n2_ : Int)) = true by assumption)); have := of_decide_eq_true (show decide (i < (n3_ : Int)) = true by assumption); have := hI.lo; omega; done)); conv => whnf)
    | (show AppK _ _ _ 1 _ _ _ _ _; refine app_lit ra_ rfl rfl rfl (Plain.of rfl) rfl rfl (by decide) (by have := hI.num; have := hI.hi; have := (show (vts (T ++ [2])).length ≤ 2000 by have := vertTo_len (T ++ [2]) (T ++ [2]).length; have q1_ := row_il hrow2_; have q2_ := row_pl hrow_; have q3_ := sailT_len ht; have q4_ := sailT_head ht; (simp only [List.length_append, List.length_singleton] at q1_); unfold vts; simp only [List.length_append, List.length_singleton] at *; omega); show (_ + 1) * 8 ≤ _; omega) (by have := hI.num; have := hI.hi; have := (show (vts (T ++ [2])).length ≤ 2000 by have := vertTo_len (T ++ [2]) (T ++ [2]).length; have q1_ := row_il hrow2_; have q2_ := row_pl hrow_; have q3_ := sailT_len ht; have q4_ := sailT_head ht; (simp only [List.length_append, List.length_singleton] at q1_); unfold vts; simp only [List.length_append, List.length_singleton] at *; omega); omega) (fun hle_ spb_ rb_ => ?_) (fun hle_ cb_ spb_ rb_ => ?_) <;> conv => whnf)
    | (show AppK _ _ _ 1 _ _ _ _ _; refine app_lit hI.row rfl rfl rfl (Plain.of rfl) rfl rfl (by decide) (by have := hI.num; have := hI.hi; have := (show (vts (T ++ [2])).length ≤ 2000 by have := vertTo_len (T ++ [2]) (T ++ [2]).length; have q1_ := row_il hrow2_; have q2_ := row_pl hrow_; have q3_ := sailT_len ht; have q4_ := sailT_head ht; (simp only [List.length_append, List.length_singleton] at q1_); unfold vts; simp only [List.length_append, List.length_singleton] at *; omega); show (_ + 1) * 8 ≤ _; omega) (by have := hI.num; have := hI.hi; have := (show (vts (T ++ [2])).length ≤ 2000 by have := vertTo_len (T ++ [2]) (T ++ [2]).length; have q1_ := row_il hrow2_; have q2_ := row_pl hrow_; have q3_ := sailT_len ht; have q4_ := sailT_head ht; (simp only [List.length_append, List.length_singleton] at q1_); unfold vts; simp only [List.length_append, List.length_singleton] at *; omega); omega) (fun hle_ spa_ ra_ => ?_) (fun hle_ ca_ spa_ ra_ => ?_) <;> conv => whnf)
    | (obtain rfl := hI.fin (by have l5_ := row_il hrow3_; have := of_decide_eq_false (show decide (i < (n2_ : Int)) = false by assumption); omega) (vts_two ht); exact out_forget [_] ⟨_, _, _, hI.row, (by have := hI.num; have := hI.hi; have := (show (vts (T ++ [2])).length ≤ 2000 by have := vertTo_len (T ++ [2]) (T ++ [2]).length; have q1_ := row_il hrow2_; have q2_ := row_pl hrow_; have q3_ := sailT_len ht; have q4_ := sailT_head ht; (simp only [List.length_append, List.length_singleton] at q1_); unfold vts; simp only [List.length_append, List.length_singleton] at *; omega); omega), rfl, rfl⟩ rfl (okB2_spec rfl) ⟨⟨⟨_, rfl, .plain rfl rfl (Row.all hI.row)⟩⟩, trivial⟩ rfl rfl)
    | (refine StoreK.mk rfl ?_; conv => whnf)
    | exact join_same
    | exact (by assumption : (_ : Bool) = (_ : Bool))
    | (refine br_true (by assumption) ?_; conv => whnf)
    | (refine br_false (by assumption) ?_; conv => whnf)
    | (refine br_not ?_; conv => whnf)
    | (refine br_code ?_; conv => whnf)
    | (with_reducible refine br_and ?_; conv => whnf)
    | (with_reducible refine br_or ?_; conv => whnf)
    | (refine br_eq2 ?_; conv => whnf)
    | (refine CallOK.useR (c_l03Code_ok (by first | assumption | exact Row.lit rfl rfl | omega) (by first | assumption | exact Row.lit rfl rfl | omega)) [] rfl rfl rfl trivial (fun v_ mem_ hR => ?_); obtain ⟨n_, c_, j_, k_, sp_, sq_, hrow_, hrow2_, hn_, rfl, rfl⟩ := hR; refine ⟨rfl, ?_⟩; conv => whnf)
    | (refine CallOK.useR (c_l03Code_no2 (by first | assumption | exact Row.lit rfl rfl | omega) (by first | assumption | exact Row.lit rfl rfl | omega)) [] rfl rfl rfl trivial (fun v_ mem_ hR => ?_); obtain ⟨rfl, rfl⟩ := hR; refine ⟨rfl, ?_⟩; conv => whnf)
    | (refine CallOK.useR (c_l03Code_no1 (by first | assumption | exact Row.lit rfl rfl | omega)) [] rfl rfl rfl trivial (fun v_ mem_ hR => ?_); obtain ⟨rfl, rfl⟩ := hR; refine ⟨rfl, ?_⟩; conv => whnf)
    | (refine CallOK.useR (c_spec_l03Parts (by first | assumption | exact Row.lit rfl rfl | omega) (by first | assumption | exact Row.lit rfl rfl | omega) (by first | assumption | exact Row.lit rfl rfl | omega)) [_] rfl rfl rfl ⟨⟨⟨_, rfl, .plain rfl (fun _ h_ => by first | exact h_ | cases h_) (by first | exact Plain.of rfl | exact Row.all (by assumption))⟩⟩, trivial⟩ (fun v_ mem_ hR => ?_); obtain ⟨n2_, c2_, s2_, n3_, c3_, s3_, hrow3_, hrow4_, hn3_, hn4_, rfl, rfl⟩ := hR; refine ⟨rfl, ?_⟩; conv => whnf)
    | (refine draw_auto (by decide +kernel) ?_; conv => whnf)
    | (refine draw_asg (by decide +kernel) ?_; conv => whnf)
    | (refine draw_st (by decide +kernel) ?_; conv => whnf)
    | (refine draw_call (by decide +kernel) ?_; conv => whnf)
    | (refine enter_same (loop_n 12 ?_); conv => whnf)
    | (refine next_same ?_; conv => whnf)
    | (refine mapK_row (by assumption) ?_; conv => whnf)
    | (refine mapK_plain (Plain.of rfl) ?_; conv => whnf)
    | (refine mapK_lit ?_; conv => whnf)
    | (refine br_split (fun _ => ?_) (fun _ => ?_) <;> conv => whnf)
    | exact (rfl : (_ : Value) = _)
    | (simp only [*]; exact (rfl : (_ : Value) = _))
    | (simp [*]; done))

theorem c_spec_SequenceOf_no2 {a b c d : Int} (h : AngOk a b c d) (ht : sailT a b c d 2 = none) : CallOK Try.prog n_spec_SequenceOf [pt a b, pt c d] [] (fun v m_ => v = t2 (.slice none 0 0) (ii 3) ∧ m_ = []) := by
  have ha_ := ang_no h; refine callOK_ofF good fn_spec_SequenceOf ?_
  conv => whnf
  all_goals (repeat' first
    | exact out_forget [] ⟨rfl, rfl⟩ rfl (okB2_spec rfl) trivial rfl rfl
    | (refine StoreK.mk rfl ?_; conv => whnf)
    | exact join_same
    | exact (by assumption : (_ : Bool) = (_ : Bool))
    | (refine br_true (by assumption) ?_; conv => whnf)
    | (refine br_false (by assumption) ?_; conv => whnf)
    | (refine br_not ?_; conv => whnf)
    | (refine br_code ?_; conv => whnf)
    | (with_reducible refine br_and ?_; conv => whnf)
    | (with_reducible refine br_or ?_; conv => whnf)
    | (refine br_eq2 ?_; conv => whnf)
    | (refine CallOK.useR (c_l03Code_ok (by first | assumption | exact Row.lit rfl rfl | omega) (by first | assumption | exact Row.lit rfl rfl | omega)) [] rfl rfl rfl trivial (fun v_ mem_ hR => ?_); obtain ⟨n_, c_, j_, k_, sp_, sq_, hrow_, hrow2_, hn_, rfl, rfl⟩ := hR; refine ⟨rfl, ?_⟩; conv => whnf)
    | (refine CallOK.useR (c_l03Code_no2 (by first | assumption | exact Row.lit rfl rfl | omega) (by first | assumption | exact Row.lit rfl rfl | omega)) [] rfl rfl rfl trivial (fun v_ mem_ hR => ?_); obtain ⟨rfl, rfl⟩ := hR; refine ⟨rfl, ?_⟩; conv => whnf)
    | (refine CallOK.useR (c_l03Code_no1 (by first | assumption | exact Row.lit rfl rfl | omega)) [] rfl rfl rfl trivial (fun v_ mem_ hR => ?_); obtain ⟨rfl, rfl⟩ := hR; refine ⟨rfl, ?_⟩; conv => whnf)
    | (refine CallOK.useR (c_spec_l03Parts (by first | assumption | exact Row.lit rfl rfl | omega) (by first | assumption | exact Row.lit rfl rfl | omega) (by first | assumption | exact Row.lit rfl rfl | omega)) [_] rfl rfl rfl ⟨⟨⟨_, rfl, .plain rfl (fun _ h_ => by first | exact h_ | cases h_) (by first | exact Plain.of rfl | exact Row.all (by assumption))⟩⟩, trivial⟩ (fun v_ mem_ hR => ?_); obtain ⟨n2_, c2_, s2_, n3_, c3_, s3_, hrow3_, hrow4_, hn3_, hn4_, rfl, rfl⟩ := hR; refine ⟨rfl, ?_⟩; conv => whnf)
    | (refine draw_auto (by decide +kernel) ?_; conv => whnf)
    | (refine draw_asg (by decide +kernel) ?_; conv => whnf)
    | (refine draw_st (by decide +kernel) ?_; conv => whnf)
    | (refine draw_call (by decide +kernel) ?_; conv => whnf)
    | (refine enter_same (loop_n 12 ?_); conv => whnf)
    | (refine next_same ?_; conv => whnf)
    | (refine mapK_row (by assumption) ?_; conv => whnf)
    | (refine mapK_plain (Plain.of rfl) ?_; conv => whnf)
    | (refine mapK_lit ?_; conv => whnf)
    | (refine br_split (fun _ => ?_) (fun _ => ?_) <;> conv => whnf)
    | exact (rfl : (_ : Value) = _)
    | (simp only [*]; exact (rfl : (_ : Value) = _))
    | (simp [*]; done))

theorem c_spec_SequenceOf_no1 {a b c d : Int} (h : isAngF a b c d = false) : CallOK Try.prog n_spec_SequenceOf [pt a b, pt c d] [] (fun v m_ => v = t2 (.slice none 0 0) (ii 1) ∧ m_ = []) := by
  refine callOK_ofF good fn_spec_SequenceOf ?_
  conv => whnf
  all_goals (repeat' first
    | exact out_forget [] ⟨rfl, rfl⟩ rfl (okB2_spec rfl) trivial rfl rfl
    | (refine StoreK.mk rfl ?_; conv => whnf)
    | exact join_same
    | exact (by assumption : (_ : Bool) = (_ : Bool))
    | (refine br_true (by assumption) ?_; conv => whnf)
    | (refine br_false (by assumption) ?_; conv => whnf)
    | (refine br_not ?_; conv => whnf)
    | (refine br_code ?_; conv => whnf)
    | (with_reducible refine br_and ?_; conv => whnf)
    | (with_reducible refine br_or ?_; conv => whnf)
    | (refine br_eq2 ?_; conv => whnf)
    | (refine CallOK.useR (c_l03Code_ok (by first | assumption | exact Row.lit rfl rfl | omega) (by first | assumption | exact Row.lit rfl rfl | omega)) [] rfl rfl rfl trivial (fun v_ mem_ hR => ?_); obtain ⟨n_, c_, j_, k_, sp_, sq_, hrow_, hrow2_, hn_, rfl, rfl⟩ := hR; refine ⟨rfl, ?_⟩; conv => whnf)
    | (refine CallOK.useR (c_l03Code_no2 (by first | assumption | exact Row.lit rfl rfl | omega) (by first | assumption | exact Row.lit rfl rfl | omega)) [] rfl rfl rfl trivial (fun v_ mem_ hR => ?_); obtain ⟨rfl, rfl⟩ := hR; refine ⟨rfl, ?_⟩; conv => whnf)
    | (refine CallOK.useR (c_l03Code_no1 (by first | assumption | exact Row.lit rfl rfl | omega)) [] rfl rfl rfl trivial (fun v_ mem_ hR => ?_); obtain ⟨rfl, rfl⟩ := hR; refine ⟨rfl, ?_⟩; conv => whnf)
    | (refine CallOK.useR (c_spec_l03Parts (by first | assumption | exact Row.lit rfl rfl | omega) (by first | assumption | exact Row.lit rfl rfl | omega) (by first | assumption | exact Row.lit rfl rfl | omega)) [_] rfl rfl rfl ⟨⟨⟨_, rfl, .plain rfl (fun _ h_ => by first | exact h_ | cases h_) (by first | exact Plain.of rfl | exact Row.all (by assumption))⟩⟩, trivial⟩ (fun v_ mem_ hR => ?_); obtain ⟨n2_, c2_, s2_, n3_, c3_, s3_, hrow3_, hrow4_, hn3_, hn4_, rfl, rfl⟩ := hR; refine ⟨rfl, ?_⟩; conv => whnf)
    | (refine draw_auto (by decide +kernel) ?_; conv => whnf)
    | (refine draw_asg (by decide +kernel) ?_; conv => whnf)
    | (refine draw_st (by decide +kernel) ?_; conv => whnf)
    | (refine draw_call (by decide +kernel) ?_; conv => whnf)
    | (refine enter_same (loop_n 12 ?_); conv => whnf)
    | (refine next_same ?_; conv => whnf)
    | (refine mapK_row (by assumption) ?_; conv => whnf)
    | (refine mapK_plain (Plain.of rfl) ?_; conv => whnf)
    | (refine mapK_lit ?_; conv => whnf)
    | (refine br_split (fun _ => ?_) (fun _ => ?_) <;> conv => whnf)
    | exact (rfl : (_ : Value) = _)
    | (simp only [*]; exact (rfl : (_ : Value) = _))
    | (simp [*]; done))

end Go.Proofs.Ytjakdmfodnpkkaa
