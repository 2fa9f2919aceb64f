/-
  Contracts of functions of the program (printed by a program of this work; Lean checks each).
  Conditions: as each contract states.
-/
import Derived.Test.YtlkbfpklhncfbaaK12
import Derived.Test.YtlkbfpklhncfbaaK4
import Derived.Test.YtlkbfpklhncfbaaLong
namespace Go.Proofs.Ytlkbfpklhncfbaa
open Go.Ev Go.RowKit
set_option maxRecDepth 100000
set_option linter.unusedVariables false
set_option linter.unusedSimpArgs false

set_option maxHeartbeats 1000000 in
theorem c_expansion {a b c d : Int} (h : isCornF a b c d = true) (h2 : bigF a b c d = false) : CallOK Try.prog n_impl_Corner_expansion [q4 a b c d] [] (fun v m_ => ∃ n c_ sp, Row (il (longL (expL (sineF a b c d) (cosF a b c d)))) sp n c_ 1 ∧ n ≤ 1000003 ∧ v = .slice (some ⟨0, 0, none⟩) n c_ ∧ m_ = [(il (longL (expL (sineF a b c d) (cosF a b c d))) ++ sp, some 2)]) := by
  have he_ := (corn_exp h h2).1; have hp_ := expL_pos (p := sineF a b c d) (corn_exp h h2).2; refine callOK_ofF good fn_impl_Corner_expansion ?_
  conv => whnf
  all_goals (repeat' first
    | (refine draw_pt (.join [0, 1, 2] (.duo 0 (.duo 1 (.solo 2 .done) 2 (.solo 1 .done)) 2 (.solo 0 (.solo 1 .done))) (.solo 3 (.solo 4 (.solo 5 .done)))) (by decide +kernel) ?_; conv => whnf)
    | (refine And.intro ?_ ?_ <;> conv => whnf)
    | (refine CallOK.useR (c_impl_expand he_) [] rfl rfl rfl trivial (fun v_ mem_ hR => ?_); obtain ⟨n_, c_, sp_, hrow_, hn_, rfl, rfl⟩ := hR; obtain rfl := row_il hrow_; refine ⟨rfl, ?_⟩; conv => whnf)
    | (refine br_in (last_w (n := (expL (sineF a b c d) (cosF a b c d)).length) hp_ hn_).2.1 (last_w (n := (expL (sineF a b c d) (cosF a b c d)).length) hp_ hn_).2.2.1 ?_; conv => whnf)
    | (refine force_eq (take_il (xs := expL (sineF a b c d) (cosF a b c d)) (i := (w64 (((expL (sineF a b c d) (cosF a b c d)).length : Int) - 1)).toNat) ?_ ?_) ?_; (focus (simp only [Nat.mul_one, Nat.zero_add]; done)); (focus (have := (last_w (n := (expL (sineF a b c d) (cosF a b c d)).length) hp_ hn_); omega; done)); conv => whnf)
    | (refine br_store1 rfl ?_ ?_; (focus (have := (last_w (n := (expL (sineF a b c d) (cosF a b c d)).length) hp_ hn_); have hl_ : (il (expL (sineF a b c d) (cosF a b c d)) ++ sp_).length = (expL (sineF a b c d) (cosF a b c d)).length + sp_.length := (by rw [List.length_append, il_len]); show 0 + (w64 (((expL (sineF a b c d) (cosF a b c d)).length : Int) - 1)).toNat * 1 + 1 ≤ (il (expL (sineF a b c d) (cosF a b c d)) ++ sp_).length; omega)); conv => whnf)
    | (refine force_il (xs := expL (sineF a b c d) (cosF a b c d)) (ys := headL (expL (sineF a b c d) (cosF a b c d))) (off := 0 + (w64 (((expL (sineF a b c d) (cosF a b c d)).length : Int) - 1)).toNat * 1) ?_ ?_ ?_; (focus (have := (last_w (n := (expL (sineF a b c d) (cosF a b c d)).length) hp_ hn_); omega)); (focus (refine headL_set hp_ ?_ ?_; (focus (have := (last_w (n := (expL (sineF a b c d) (cosF a b c d)).length) hp_ hn_); omega)); rw [(last_w (n := (expL (sineF a b c d) (cosF a b c d)).length) hp_ hn_).2.2.2]; done)); conv => whnf)
    | (show AppK _ _ _ 1 _ _ _ _ _; refine app_lit (Row.head hrow_ hp_) rfl rfl rfl (Plain.of rfl) rfl rfl (by decide) (by have : (expL (sineF a b c d) (cosF a b c d)).length ≤ 1000001 := hn_; show (_ + 1) * 8 ≤ _; omega) (by have : (expL (sineF a b c d) (cosF a b c d)).length ≤ 1000001 := hn_; omega) (fun hle_ spa_ ra_ => ?_) (fun hle_ ca_ spa_ ra_ => ?_) <;> conv => whnf)
    | (have e_ := longL_head (xs := expL (sineF a b c d) (cosF a b c d)) (tmod2.1 (of_decide_eq_true (by assumption))); rw [e_]; exact out_forget [_] ⟨_, _, _, ra_, by omega, rfl, rfl⟩ rfl (okB2_spec rfl) ⟨⟨⟨_, rfl, .plain rfl rfl (Row.all ra_)⟩⟩, trivial⟩ rfl rfl)
    | (have e_ := longL_odd (xs := expL (sineF a b c d) (cosF a b c d)) (Decidable.not_not.1 (fun hh => of_decide_eq_false (by assumption) (tmod2.2 hh))); rw [e_]; exact out_forget [_] ⟨_, _, _, hrow_, by omega, rfl, rfl⟩ rfl (okB2_spec rfl) ⟨⟨⟨_, rfl, .plain rfl rfl (Row.all hrow_)⟩⟩, trivial⟩ rfl rfl)
    | (refine StoreK.mk rfl ?_; conv => whnf)
    | exact join_same
    | exact (by assumption : (_ : Bool) = (_ : Bool))
    | (refine br_true (by assumption) ?_; conv => whnf)
    | (refine br_false (by assumption) ?_; conv => whnf)
    | (refine br_not ?_; conv => whnf)
    | (refine br_code ?_; conv => whnf)
    | (with_reducible refine br_and ?_; conv => whnf)
    | (with_reducible refine br_or ?_; conv => whnf)
    | (refine br_eq2 ?_; conv => whnf)
    | (refine c_impl_Corner_sine.call ?_; conv => whnf)
    | (refine c_impl_Corner_sine.quiet ?_; conv => whnf)
    | (refine (c_impl_Corner_cosine ?_).call ?_ <;> conv => whnf)
    | (refine (c_impl_Corner_cosine ?_).quiet ?_ <;> conv => whnf)
    | (refine CallOK.useR (c_impl_expand (by first | assumption | exact Row.lit rfl rfl | omega)) [] rfl rfl rfl trivial (fun v_ mem_ hR => ?_); obtain ⟨n_, c_, sp_, hrow_, hn_, rfl, rfl⟩ := hR; refine ⟨rfl, ?_⟩; conv => whnf)
    | (refine draw_auto (by decide +kernel) ?_; conv => whnf)
    | (refine draw_asg (by decide +kernel) ?_; conv => whnf)
    | (refine draw_st (by decide +kernel) ?_; conv => whnf)
    | (refine draw_call (by decide +kernel) ?_; conv => whnf)
    | (refine enter_same (loop_n 12 ?_); conv => whnf)
    | (refine next_same ?_; conv => whnf)
    | (refine mapK_row (by assumption) ?_; conv => whnf)
    | (refine mapK_plain (Plain.of rfl) ?_; conv => whnf)
    | (refine mapK_lit ?_; conv => whnf)
    | (refine br_split (fun _ => ?_) (fun _ => ?_) <;> conv => whnf)
    | exact (rfl : (_ : Value) = _)
    | (simp only [*]; exact (rfl : (_ : Value) = _))
    | (simp [*]; done))

theorem c_spec_l01Own {xs : List Int} {sp : List Value} {m c : Nat} (hm : m ≤ xs.length) (hx : xs.length ≤ 1000001) (hpl : Plain (il xs ++ sp)) : CallOK Try.prog n_spec_l01Own [.slice (some ⟨0, 0, none⟩) m c] [(il xs ++ sp, none)] (fun v m_ => ∃ n2 c2 s2, Row (il (xs.take m)) s2 n2 c2 1 ∧ n2 ≤ 1000001 ∧ v = .slice (some ⟨1, 0, none⟩) n2 c2 ∧ m_ = [(il xs ++ sp, none), (il (xs.take m) ++ s2, some 2)]) := by
  refine callOK_ofF good fn_spec_l01Own ?_
  conv => whnf
  all_goals (repeat' first
    | (show AppK _ _ _ 1 _ _ _ _ _; refine app_row (L := []) (sp := []) (off := 0) (news := il (xs.take m)) Row.empty rfl rfl (take_pref hm) (pref_len hm) (il_plain _) rfl rfl (by decide) (by show (0 + m) * 8 ≤ _; omega) (by omega) (fun hle_ spa_ ra_ => ?_) (fun hle_ ca_ spa_ ra_ => ?_) <;> conv => whnf)
    | exact out_forget [_] ⟨_, _, _, ra_, by omega, rfl, rfl⟩ rfl (okB2_spec rfl) ⟨⟨⟨_, rfl, .plain rfl rfl hpl⟩⟩, ⟨⟨_, rfl, .plain rfl rfl (Row.all ra_)⟩⟩, trivial⟩ rfl rfl
    | (refine StoreK.mk rfl ?_; conv => whnf)
    | exact join_same
    | exact (by assumption : (_ : Bool) = (_ : Bool))
    | (refine br_true (by assumption) ?_; conv => whnf)
    | (refine br_false (by assumption) ?_; conv => whnf)
    | (refine br_not ?_; conv => whnf)
    | (refine br_code ?_; conv => whnf)
    | (with_reducible refine br_and ?_; conv => whnf)
    | (with_reducible refine br_or ?_; conv => whnf)
    | (refine br_eq2 ?_; conv => whnf)
    | (refine draw_auto (by decide +kernel) ?_; conv => whnf)
    | (refine draw_asg (by decide +kernel) ?_; conv => whnf)
    | (refine draw_st (by decide +kernel) ?_; conv => whnf)
    | (refine draw_call (by decide +kernel) ?_; conv => whnf)
    | (refine enter_same (loop_n 12 ?_); conv => whnf)
    | (refine next_same ?_; conv => whnf)
    | (refine mapK_row (by assumption) ?_; conv => whnf)
    | (refine mapK_plain (Plain.of rfl) ?_; conv => whnf)
    | (refine mapK_lit ?_; conv => whnf)
    | (refine br_split (fun _ => ?_) (fun _ => ?_) <;> conv => whnf)
    | exact (rfl : (_ : Value) = _)
    | (simp only [*]; exact (rfl : (_ : Value) = _))
    | (simp [*]; done))

set_option maxHeartbeats 1000000 in
theorem c_spec_l02Long {a b : Int} (h : ExpOk a b) (h2 : 0 < b) : CallOK Try.prog n_spec_l02Long [ii a, ii b] [] (fun v m_ => ∃ n c sp, Row (il (longL (expL a b))) sp n c 1 ∧ n ≤ 1000003 ∧ v = .slice (some ⟨0, 0, none⟩) n c ∧ m_ = [(il (longL (expL a b)) ++ sp, some 2)]) := by
  have he_ := h; have hp_ := expL_pos (p := a) h2; refine callOK_ofF good fn_spec_l02Long ?_
  conv => whnf
  all_goals (repeat' first
    | (refine draw_pt (.take 0 (.take 1 (.take 2 (.take 3 (.take 5 (.take 6 (.take 7 (.take 8 (.duo 4 (.solo 9 (.take 10 (.solo 11 (.solo 12 (.solo 13 .done))))) 9 (.take 10 (.duo 4 (.solo 11 (.solo 12 (.solo 13 .done))) 11 (.solo 4 (.solo 12 (.solo 13 .done)))))))))))))) (by decide +kernel) ?_; conv => whnf)
    | (refine And.intro ?_ ?_ <;> conv => whnf)
    | (refine CallOK.useR (c_spec_l01Own (xs := expL a b) (sp := sp_) (m := (w64 (((expL a b).length : Int) - 1)).toNat) (by have := (last_w (n := (expL a b).length) hp_ hn_); omega) hn_ (Row.all hrow_)) [0] rfl rfl rfl ⟨⟨⟨_, rfl, .plain rfl (fun _ h_ => by cases h_) (Row.all hrow_)⟩⟩, trivial⟩ (fun v_ mem_ hR => ?_); obtain ⟨n2_, c2_, s2_, hrow2_, hn2_, rfl, rfl⟩ := hR; refine ⟨rfl, ?_⟩; conv => whnf)
    | (refine br_true (b := decide (0 ≤ w64 (((expL a b).length : Int) - 1) ∧ w64 (((expL a b).length : Int) - 1) ≤ (c_ : Int))) (decide_eq_true ?_) ?_; (focus (have := (last_w (n := (expL a b).length) hp_ hn_); have := hrow_.le (by decide); omega)); conv => whnf)
    | (have e_ : il (longL (expL a b)) = il ((expL a b).take (w64 (((expL a b).length : Int) - 1)).toNat) ++ [iv (w64 ((expL a b).getD (w64 (((expL a b).length : Int) - 1)).toNat 0 - 1)), iv 1] := (by rw [(last_w (n := (expL a b).length) hp_ hn_).2.2.2]; exact longL_two (fun hh => of_decide_eq_false (show decide (((expL a b).length : Int).tmod 2 = 1) = false by assumption) (tmod2'.2 hh))); rw [e_]; exact out_forget [_] ⟨_, _, _, ra_, by omega, rfl, rfl⟩ rfl (okB2_spec rfl) ⟨⟨⟨_, rfl, .plain rfl rfl (Row.all ra_)⟩⟩, trivial⟩ rfl rfl)
    | (refine force_eq (take_il (xs := expL a b) (i := (w64 (((expL a b).length : Int) - 1)).toNat) ?_ ?_) ?_; (focus (simp only [Nat.mul_one, Nat.zero_add]; done)); (focus (have := (last_w (n := (expL a b).length) hp_ hn_); omega; done)); conv => whnf)
    | (show AppK _ _ _ 1 _ _ _ _ _; refine app_lit hrow2_ rfl rfl rfl (Plain.of rfl) rfl rfl (by decide) (by have := hn2_; show (_ + 2) * 8 ≤ _; omega) (by have := hn2_; omega) (fun hle_ spa_ ra_ => ?_) (fun hle_ ca_ spa_ ra_ => ?_) <;> conv => whnf)
    | (refine CallOK.useR (c_spec_l01Expand he_) [] rfl rfl rfl trivial (fun v_ mem_ hR => ?_); obtain ⟨n_, c_, sp_, hrow_, hn_, rfl, rfl⟩ := hR; obtain rfl := row_il hrow_; refine ⟨rfl, ?_⟩; conv => whnf)
    | (refine br_in (last_w (n := (expL a b).length) hp_ hn_).2.1 (last_w (n := (expL a b).length) hp_ hn_).2.2.1 ?_; conv => whnf)
    | (have e_ := longL_odd (xs := expL a b) (tmod2'.1 (of_decide_eq_true (by assumption))); rw [e_]; exact out_forget [_] ⟨_, _, _, hrow_, by omega, rfl, rfl⟩ rfl (okB2_spec rfl) ⟨⟨⟨_, rfl, .plain rfl rfl (Row.all hrow_)⟩⟩, trivial⟩ rfl rfl)
    | (refine StoreK.mk rfl ?_; conv => whnf)
    | exact join_same
    | exact (by assumption : (_ : Bool) = (_ : Bool))
    | (refine br_true (by assumption) ?_; conv => whnf)
    | (refine br_false (by assumption) ?_; conv => whnf)
    | (refine br_not ?_; conv => whnf)
    | (refine br_code ?_; conv => whnf)
    | (with_reducible refine br_and ?_; conv => whnf)
    | (with_reducible refine br_or ?_; conv => whnf)
    | (refine br_eq2 ?_; conv => whnf)
    | (refine CallOK.useR (c_spec_l01Expand (by first | assumption | exact Row.lit rfl rfl | omega)) [] rfl rfl rfl trivial (fun v_ mem_ hR => ?_); obtain ⟨n_, c_, sp_, hrow_, hn_, rfl, rfl⟩ := hR; refine ⟨rfl, ?_⟩; conv => whnf)
    | (refine CallOK.useR (c_spec_l01Own (by first | assumption | exact Row.lit rfl rfl | omega) (by first | assumption | exact Row.lit rfl rfl | omega) (by first | assumption | exact Row.lit rfl rfl | omega)) [_] rfl rfl rfl ⟨⟨⟨_, rfl, .plain rfl (fun _ h_ => by first | exact h_ | cases h_) (by first | exact Plain.of rfl | exact Row.all (by assumption))⟩⟩, trivial⟩ (fun v_ mem_ hR => ?_); obtain ⟨n_, c_, sp_, hrow_, hn_, rfl, rfl⟩ := hR; refine ⟨rfl, ?_⟩; conv => whnf)
    | (refine draw_auto (by decide +kernel) ?_; conv => whnf)
    | (refine draw_asg (by decide +kernel) ?_; conv => whnf)
    | (refine draw_st (by decide +kernel) ?_; conv => whnf)
    | (refine draw_call (by decide +kernel) ?_; conv => whnf)
    | (refine enter_same (loop_n 12 ?_); conv => whnf)
    | (refine next_same ?_; conv => whnf)
    | (refine mapK_row (by assumption) ?_; conv => whnf)
    | (refine mapK_plain (Plain.of rfl) ?_; conv => whnf)
    | (refine mapK_lit ?_; conv => whnf)
    | (refine br_split (fun _ => ?_) (fun _ => ?_) <;> conv => whnf)
    | exact (rfl : (_ : Value) = _)
    | (simp only [*]; exact (rfl : (_ : Value) = _))
    | (simp [*]; done))

end Go.Proofs.Ytlkbfpklhncfbaa
