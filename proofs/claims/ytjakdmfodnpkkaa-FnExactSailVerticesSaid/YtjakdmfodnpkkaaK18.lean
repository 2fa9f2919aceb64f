/-
  Contracts of functions of the program (printed by a program of this work; Lean checks each).
  Conditions: as each contract states.
-/
import Derived.Test.YtjakdmfodnpkkaaK17
namespace Go.Proofs.Ytjakdmfodnpkkaa
open Go.Ev Go.RowKit
set_option maxRecDepth 100000
set_option linter.unusedVariables false
set_option linter.unusedSimpArgs false

def vertsP (P : List (Int × Int)) (t : List Int) : List (Int × Int) := (vertTo t t.length).map fun i => P.getD i (0, 0)

theorem c_impl_SailVertices_ok {a b c d : Int} {P : List (Int × Int)} {T : List Int} (h : AngOk a b c d) (ht : sailT a b c d 0 = some (P, T)) : CallOK Try.prog n_impl_SailVertices [pt a b, pt c d] [] (fun v m_ => ∃ n c sp, Row (pl (vertsP P (T ++ [0]))) sp n c 2 ∧ n ≤ 1000001 ∧ v = t2 (.slice (some ⟨0, 0, none⟩) n c) (ii 0) ∧ m_ = [(pl (vertsP P (T ++ [0])) ++ sp, some t_impl_Point)]) := by
  have ha_ := ang_no h; refine callOK_ofF good fn_impl_SailVertices ?_
  conv => whnf
  all_goals (repeat' first
    | (refine CallOK.useR (c_vertices (t := T ++ [0]) hrow_ hrow2_ (by have q1_ := row_il hrow2_; have q2_ := row_pl hrow_; have q3_ := sailT_len ht; (simp only [List.length_append, List.length_singleton] at q1_); omega)) [2, 3, 4] rfl rfl rfl ⟨⟨⟨_, rfl, .lit rfl (fun _ h_ => by cases h_) (fun v hv => okB0_spec (allL_spec rfl v hv))⟩⟩, ⟨⟨_, rfl, .plain rfl (fun _ h_ => by cases h_) (Row.all hrow_)⟩⟩, ⟨⟨_, rfl, .plain rfl (fun _ h_ => by cases h_) (Row.all hrow2_)⟩⟩, trivial⟩ (fun v_ mem_ hR => ?_); obtain ⟨n2_, c2_, s2_, hrow3_, hn3_, rfl, rfl⟩ := hR; refine ⟨rfl, ?_⟩; conv => whnf)
    | (refine enter_forget [2, 3, 4, 6, 5] (loop_rec (fun (s : Int × (List Value) × (List Value) × Nat × Nat) => match s with | (m, L, s3, n3, c3) => [wild, wild, wild, wild, wild, wild, .pointer (some ⟨0, 0, none⟩), wild, .slice (some ⟨4, 0, none⟩) n3 c3, wild, wild, wild, wild, wild, wild, wild, wild, wild, wild, wild, wild, wild, .slice (some ⟨3, 0, none⟩) n2_ c2_, ii (n2_ : Int), ii m, wild, wild, wild, wild, wild, wild, wild, wild, wild, wild, wild, wild, wild, wild, wild]) (fun (s : Int × (List Value) × (List Value) × Nat × Nat) => match s with | (m, L, s3, n3, c3) => [([.slice (some ⟨1, 0, none⟩) n_ c_, .slice (some ⟨2, 0, none⟩) j_ k_], some t_impl_sail), (pl P ++ sp_, some t_impl_Point), (il (T ++ [0]) ++ sq_, some 2), (il ((vertTo (T ++ [0]) (T ++ [0]).length).map Int.ofNat) ++ s2_, some 3), (L ++ s3, some t_impl_Point)]) (fun (s : Int × (List Value) × (List Value) × Nat × Nat) => match s with | (m, L, s3, n3, c3) => ((n2_ : Int) - m).toNat) (fun (s : Int × (List Value) × (List Value) × Nat × Nat) => match s with | (m, L, s3, n3, c3) => PickI P (vertTo (T ++ [0]) (T ++ [0]).length) m L s3 n3 c3) (0, [], [], 0, 0) (PickI.start _ _) ?_) (tmR_rfl rfl rfl) ⟨⟨⟨_, rfl, .lit rfl rfl (fun v hv => okB0_spec (allL_spec rfl v hv))⟩⟩, ⟨⟨_, rfl, .plain rfl rfl (Row.all hrow_)⟩⟩, ⟨⟨_, rfl, .plain rfl rfl (Row.all hrow2_)⟩⟩, ⟨⟨_, rfl, .plain rfl rfl (Row.all hrow3_)⟩⟩, ⟨⟨_, rfl, .plain rfl rfl (by first | exact Plain.of rfl | exact Row.all (by assumption))⟩⟩, trivial⟩ rfl rfl; rintro fuel_ ⟨m, L, s3, n3, c3⟩ hI IH; replace hI : PickI P (vertTo (T ++ [0]) (T ++ [0]).length) m L s3 n3 c3 := hI; conv => whnf)
    | exact next_forget [0, 1, 2, 3, _] (IH (w64 (m + 1), _, _, _, _) (by exact hI.next (by have q4_ := row_il hrow3_; (simp only [List.length_map] at q4_); have := of_decide_eq_true (show decide (m < (n2_ : Int)) = true by assumption); omega) (by have q4_ := row_il hrow3_; (simp only [List.length_map] at q4_); omega) ra_) (by exact idx_mu ⟨hI.lo, (by have q4_ := row_il hrow3_; (simp only [List.length_map] at q4_); have := hI.hi; omega)⟩ (by assumption) (by omega))) (tmR_rfl rfl rfl) ⟨⟨⟨_, rfl, .lit rfl rfl (fun v hv => okB0_spec (allL_spec rfl v hv))⟩⟩, ⟨⟨_, rfl, .plain rfl rfl (Row.all hrow_)⟩⟩, ⟨⟨_, rfl, .plain rfl rfl (Row.all hrow2_)⟩⟩, ⟨⟨_, rfl, .plain rfl rfl (Row.all hrow3_)⟩⟩, ⟨⟨_, rfl, .plain rfl rfl (Row.all ra_)⟩⟩, trivial⟩ rfl rfl
    | (refine br_in hI.lo (of_decide_eq_true (show decide (m < (n2_ : Int)) = true by assumption)) ?_; conv => whnf)
    | (refine br_in (pick_lt (W := (vertTo (T ++ [0]) (T ++ [0]).length)) (N := (T ++ [0]).length) hI.lo (by have q4_ := row_il hrow3_; (simp only [List.length_map] at q4_); have := of_decide_eq_true (show decide (m < (n2_ : Int)) = true by assumption); omega) (fun k_ hk_ => vertTo_lt hk_)).1 (by have := (pick_lt (W := (vertTo (T ++ [0]) (T ++ [0]).length)) (N := (T ++ [0]).length) hI.lo (by have q4_ := row_il hrow3_; (simp only [List.length_map] at q4_); have := of_decide_eq_true (show decide (m < (n2_ : Int)) = true by assumption); omega) (fun k_ hk_ => vertTo_lt hk_)).2; have e9_ : (T ++ [0]).length = n_ := (by have q2_ := row_pl hrow_; have q3_ := sailT_len ht; rw [List.length_append, List.length_singleton]; omega); omega) ?_; conv => whnf)
    | (refine force_eq (take_il (i := m.toNat) (by simp only [Nat.mul_one, Nat.zero_add]) (by have := hI.lo; have q4_ := row_il hrow3_; (simp only [List.length_map] at q4_); simp only [List.length_map]; have := (by have q4_ := row_il hrow3_; (simp only [List.length_map] at q4_); have := of_decide_eq_true (show decide (m < (n2_ : Int)) = true by assumption); omega); omega)) ?_; conv => whnf)
    | (refine force_eq (take_pt (i := (((vertTo (T ++ [0]) (T ++ [0]).length).map Int.ofNat).getD m.toNat 0).toNat) (by simp only [Nat.zero_add]) (by have := (pick_lt (W := (vertTo (T ++ [0]) (T ++ [0]).length)) (N := (T ++ [0]).length) hI.lo (by have q4_ := row_il hrow3_; (simp only [List.length_map] at q4_); have := of_decide_eq_true (show decide (m < (n2_ : Int)) = true by assumption); omega) (fun k_ hk_ => vertTo_lt hk_)); have e9_ : (T ++ [0]).length = n_ := (by have q2_ := row_pl hrow_; have q3_ := sailT_len ht; rw [List.length_append, List.length_singleton]; omega); have := row_pl hrow_; omega)) ?_; conv => whnf)
    | (show AppK _ _ _ 2 _ _ _ _ _; refine app_lit hI.row rfl rfl rfl (Plain.of rfl) rfl rfl (by decide) (by have := hI.num; have := hI.hi; have q4_ := row_il hrow3_; (simp only [List.length_map] at q4_); show (_ + 1) * 16 ≤ _; omega) (by have := hI.num; have := hI.hi; have q4_ := row_il hrow3_; (simp only [List.length_map] at q4_); omega) (fun hle_ spa_ ra_ => ?_) (fun hle_ ca_ spa_ ra_ => ?_) <;> conv => whnf)
    | (obtain rfl := hI.fin (by have q4_ := row_il hrow3_; (simp only [List.length_map] at q4_); have := of_decide_eq_false (show decide (m < (n2_ : Int)) = false by assumption); omega); exact out_forget [_] ⟨_, _, _, hI.row, (by have := hI.num; have := hI.hi; have q4_ := row_il hrow3_; (simp only [List.length_map] at q4_); omega), rfl, rfl⟩ rfl (okB2_spec rfl) ⟨⟨⟨_, rfl, .plain rfl rfl (Row.all hI.row)⟩⟩, trivial⟩ rfl rfl)
    | (refine StoreK.mk rfl ?_; conv => whnf)
    | exact join_same
    | exact (by assumption : (_ : Bool) = (_ : Bool))
    | (refine br_true (by assumption) ?_; conv => whnf)
    | (refine br_false (by assumption) ?_; conv => whnf)
    | (refine br_not ?_; conv => whnf)
    | (refine br_code ?_; conv => whnf)
    | (with_reducible refine br_and ?_; conv => whnf)
    | (with_reducible refine br_or ?_; conv => whnf)
    | (refine br_eq2 ?_; conv => whnf)
    | (refine CallOK.useR (c_angleSail_ok (by first | assumption | exact Row.lit rfl rfl | omega) (by first | assumption | exact Row.lit rfl rfl | omega)) [] rfl rfl rfl trivial (fun v_ mem_ hR => ?_); obtain ⟨n_, c_, j_, k_, sp_, sq_, hrow_, hrow2_, hn_, rfl, rfl⟩ := hR; refine ⟨rfl, ?_⟩; conv => whnf)
    | (refine CallOK.useR (c_angleSail_no2 (by first | assumption | exact Row.lit rfl rfl | omega) (by first | assumption | exact Row.lit rfl rfl | omega)) [] rfl rfl rfl trivial (fun v_ mem_ hR => ?_); obtain ⟨rfl, rfl⟩ := hR; refine ⟨rfl, ?_⟩; conv => whnf)
    | (refine CallOK.useR (c_angleSail_no1 (by first | assumption | exact Row.lit rfl rfl | omega)) [] rfl rfl rfl trivial (fun v_ mem_ hR => ?_); obtain ⟨rfl, rfl⟩ := hR; refine ⟨rfl, ?_⟩; conv => whnf)
    | (refine CallOK.useR (c_vertices (by first | assumption | exact Row.lit rfl rfl | omega) (by first | assumption | exact Row.lit rfl rfl | omega) (by first | assumption | exact Row.lit rfl rfl | omega)) [_, _, _] rfl rfl rfl ⟨⟨⟨_, rfl, .plain rfl (fun _ h_ => by first | exact h_ | cases h_) (by first | exact Plain.of rfl | exact Row.all (by assumption))⟩⟩, ⟨⟨_, rfl, .plain rfl (fun _ h_ => by first | exact h_ | cases h_) (by first | exact Plain.of rfl | exact Row.all (by assumption))⟩⟩, ⟨⟨_, rfl, .plain rfl (fun _ h_ => by first | exact h_ | cases h_) (by first | exact Plain.of rfl | exact Row.all (by assumption))⟩⟩, trivial⟩ (fun v_ mem_ hR => ?_); obtain ⟨n_, c_, sp_, hrow_, hn_, rfl, rfl⟩ := hR; refine ⟨rfl, ?_⟩; conv => whnf)
    | (refine draw_auto (by decide +kernel) ?_; conv => whnf)
    | (refine draw_asg (by decide +kernel) ?_; conv => whnf)
    | (refine draw_st (by decide +kernel) ?_; conv => whnf)
    | (refine draw_call (by decide +kernel) ?_; conv => whnf)
    | (refine enter_same (loop_n 12 ?_); conv => whnf)
    | (refine next_same ?_; conv => whnf)
    | (refine mapK_row (by assumption) ?_; conv => whnf)
    | (refine mapK_plain (Plain.of rfl) ?_; conv => whnf)
    | (refine mapK_lit ?_; conv => whnf)
    | (refine br_split (fun _ => ?_) (fun _ => ?_) <;> conv => whnf)
    | exact (rfl : (_ : Value) = _)
    | (simp only [*]; exact (rfl : (_ : Value) = _))
    | (simp [*]; done))

theorem c_impl_SailVertices_no2 {a b c d : Int} (h : AngOk a b c d) (ht : sailT a b c d 0 = none) : CallOK Try.prog n_impl_SailVertices [pt a b, pt c d] [] (fun v m_ => v = t2 (.slice none 0 0) (ii 3) ∧ m_ = []) := by
  have ha_ := ang_no h; refine callOK_ofF good fn_impl_SailVertices ?_
  conv => whnf
  all_goals (repeat' first
    | exact out_forget [] ⟨rfl, rfl⟩ rfl (okB2_spec rfl) trivial rfl rfl
    | (refine StoreK.mk rfl ?_; conv => whnf)
    | exact join_same
    | exact (by assumption : (_ : Bool) = (_ : Bool))
    | (refine br_true (by assumption) ?_; conv => whnf)
    | (refine br_false (by assumption) ?_; conv => whnf)
    | (refine br_not ?_; conv => whnf)
    | (refine br_code ?_; conv => whnf)
    | (with_reducible refine br_and ?_; conv => whnf)
    | (with_reducible refine br_or ?_; conv => whnf)
    | (refine br_eq2 ?_; conv => whnf)
    | (refine CallOK.useR (c_angleSail_ok (by first | assumption | exact Row.lit rfl rfl | omega) (by first | assumption | exact Row.lit rfl rfl | omega)) [] rfl rfl rfl trivial (fun v_ mem_ hR => ?_); obtain ⟨n_, c_, j_, k_, sp_, sq_, hrow_, hrow2_, hn_, rfl, rfl⟩ := hR; refine ⟨rfl, ?_⟩; conv => whnf)
    | (refine CallOK.useR (c_angleSail_no2 (by first | assumption | exact Row.lit rfl rfl | omega) (by first | assumption | exact Row.lit rfl rfl | omega)) [] rfl rfl rfl trivial (fun v_ mem_ hR => ?_); obtain ⟨rfl, rfl⟩ := hR; refine ⟨rfl, ?_⟩; conv => whnf)
    | (refine CallOK.useR (c_angleSail_no1 (by first | assumption | exact Row.lit rfl rfl | omega)) [] rfl rfl rfl trivial (fun v_ mem_ hR => ?_); obtain ⟨rfl, rfl⟩ := hR; refine ⟨rfl, ?_⟩; conv => whnf)
    | (refine CallOK.useR (c_vertices (by first | assumption | exact Row.lit rfl rfl | omega) (by first | assumption | exact Row.lit rfl rfl | omega) (by first | assumption | exact Row.lit rfl rfl | omega)) [_, _, _] rfl rfl rfl ⟨⟨⟨_, rfl, .plain rfl (fun _ h_ => by first | exact h_ | cases h_) (by first | exact Plain.of rfl | exact Row.all (by assumption))⟩⟩, ⟨⟨_, rfl, .plain rfl (fun _ h_ => by first | exact h_ | cases h_) (by first | exact Plain.of rfl | exact Row.all (by assumption))⟩⟩, ⟨⟨_, rfl, .plain rfl (fun _ h_ => by first | exact h_ | cases h_) (by first | exact Plain.of rfl | exact Row.all (by assumption))⟩⟩, trivial⟩ (fun v_ mem_ hR => ?_); obtain ⟨n_, c_, sp_, hrow_, hn_, rfl, rfl⟩ := hR; refine ⟨rfl, ?_⟩; conv => whnf)
    | (refine draw_auto (by decide +kernel) ?_; conv => whnf)
    | (refine draw_asg (by decide +kernel) ?_; conv => whnf)
    | (refine draw_st (by decide +kernel) ?_; conv => whnf)
    | (refine draw_call (by decide +kernel) ?_; conv => whnf)
    | (refine enter_same (loop_n 12 ?_); conv => whnf)
    | (refine next_same ?_; conv => whnf)
    | (refine mapK_row (by assumption) ?_; conv => whnf)
    | (refine mapK_plain (Plain.of rfl) ?_; conv => whnf)
    | (refine mapK_lit ?_; conv => whnf)
    | (refine br_split (fun _ => ?_) (fun _ => ?_) <;> conv => whnf)
    | exact (rfl : (_ : Value) = _)
    | (simp only [*]; exact (rfl : (_ : Value) = _))
    | (simp [*]; done))

theorem c_impl_SailVertices_no1 {a b c d : Int} (h : isAngF a b c d = false) : CallOK Try.prog n_impl_SailVertices [pt a b, pt c d] [] (fun v m_ => v = t2 (.slice none 0 0) (ii 1) ∧ m_ = []) := by
  refine callOK_ofF good fn_impl_SailVertices ?_
  conv => whnf
  all_goals (repeat' first
    | exact out_forget [] ⟨rfl, rfl⟩ rfl (okB2_spec rfl) trivial rfl rfl
    | (refine StoreK.mk rfl ?_; conv => whnf)
    | exact join_same
    | exact (by assumption : (_ : Bool) = (_ : Bool))
    | (refine br_true (by assumption) ?_; conv => whnf)
    | (refine br_false (by assumption) ?_; conv => whnf)
    | (refine br_not ?_; conv => whnf)
    | (refine br_code ?_; conv => whnf)
    | (with_reducible refine br_and ?_; conv => whnf)
    | (with_reducible refine br_or ?_; conv => whnf)
    | (refine br_eq2 ?_; conv => whnf)
    | (refine CallOK.useR (c_angleSail_ok (by first | assumption | exact Row.lit rfl rfl | omega) (by first | assumption | exact Row.lit rfl rfl | omega)) [] rfl rfl rfl trivial (fun v_ mem_ hR => ?_); obtain ⟨n_, c_, j_, k_, sp_, sq_, hrow_, hrow2_, hn_, rfl, rfl⟩ := hR; refine ⟨rfl, ?_⟩; conv => whnf)
    | (refine CallOK.useR (c_angleSail_no2 (by first | assumption | exact Row.lit rfl rfl | omega) (by first | assumption | exact Row.lit rfl rfl | omega)) [] rfl rfl rfl trivial (fun v_ mem_ hR => ?_); obtain ⟨rfl, rfl⟩ := hR; refine ⟨rfl, ?_⟩; conv => whnf)
    | (refine CallOK.useR (c_angleSail_no1 (by first | assumption | exact Row.lit rfl rfl | omega)) [] rfl rfl rfl trivial (fun v_ mem_ hR => ?_); obtain ⟨rfl, rfl⟩ := hR; refine ⟨rfl, ?_⟩; conv => whnf)
    | (refine CallOK.useR (c_vertices (by first | assumption | exact Row.lit rfl rfl | omega) (by first | assumption | exact Row.lit rfl rfl | omega) (by first | assumption | exact Row.lit rfl rfl | omega)) [_, _, _] rfl rfl rfl ⟨⟨⟨_, rfl, .plain rfl (fun _ h_ => by first | exact h_ | cases h_) (by first | exact Plain.of rfl | exact Row.all (by assumption))⟩⟩, ⟨⟨_, rfl, .plain rfl (fun _ h_ => by first | exact h_ | cases h_) (by first | exact Plain.of rfl | exact Row.all (by assumption))⟩⟩, ⟨⟨_, rfl, .plain rfl (fun _ h_ => by first | exact h_ | cases h_) (by first | exact Plain.of rfl | exact Row.all (by assumption))⟩⟩, trivial⟩ (fun v_ mem_ hR => ?_); obtain ⟨n_, c_, sp_, hrow_, hn_, rfl, rfl⟩ := hR; refine ⟨rfl, ?_⟩; conv => whnf)
    | (refine draw_auto (by decide +kernel) ?_; conv => whnf)
    | (refine draw_asg (by decide +kernel) ?_; conv => whnf)
    | (refine draw_st (by decide +kernel) ?_; conv => whnf)
    | (refine draw_call (by decide +kernel) ?_; conv => whnf)
    | (refine enter_same (loop_n 12 ?_); conv => whnf)
    | (refine next_same ?_; conv => whnf)
    | (refine mapK_row (by assumption) ?_; conv => whnf)
    | (refine mapK_plain (Plain.of rfl) ?_; conv => whnf)
    | (refine mapK_lit ?_; conv => whnf)
    | (refine br_split (fun _ => ?_) (fun _ => ?_) <;> conv => whnf)
    | exact (rfl : (_ : Value) = _)
    | (simp only [*]; exact (rfl : (_ : Value) = _))
    | (simp [*]; done))

end Go.Proofs.Ytjakdmfodnpkkaa
