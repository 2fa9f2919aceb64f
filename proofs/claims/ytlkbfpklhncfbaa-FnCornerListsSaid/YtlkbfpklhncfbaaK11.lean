/-
  Contracts of functions of the program (printed by a program of this work; Lean checks each).
  Conditions: as each contract states.
-/
import Derived.Test.YtlkbfpklhncfbaaK10
import Derived.Test.YtlkbfpklhncfbaaConv
namespace Go.Proofs.Ytlkbfpklhncfbaa
open Go.Ev Go.RowKit
set_option maxRecDepth 100000
set_option linter.unusedVariables false
set_option linter.unusedSimpArgs false

theorem c_impl_convergents {a b : Int} (h : ExpOk a b) : CallOK Try.prog n_impl_convergents [ii a, ii b] [] (fun v m_ => ∃ n c sp, Row (pl (convs (expL a b))) sp n c 2 ∧ n ≤ 1000001 ∧ v = .slice (some ⟨0, 0, none⟩) n c ∧ m_ = [(pl (convs (expL a b)) ++ sp, some t_impl_Point)]) := by
  refine callOK_ofF good fn_impl_convergents ?_
  conv => whnf
  all_goals (repeat' first
    | (refine enter_forget [0, 1, 2, 3] (loop_rec (fun (s : Int × Int × Int × Int × Int × (List Value) × (List Value) × Nat × Nat) => match s with | (i, x, y, u, v, L, sp, n, c) => [wild, wild, wild, wild, wild, .slice (some ⟨0, 0, none⟩) n c, .pointer (some ⟨1, 0, none⟩), .pointer (some ⟨2, 0, none⟩), wild, wild, wild, wild, wild, wild, wild, .slice (some ⟨3, 0, none⟩) n_ c_, ii (n_ : Int), ii i, wild, wild, wild, wild, wild, wild, wild, wild, wild, wild, wild, wild, wild, wild]) (fun (s : Int × Int × Int × Int × Int × (List Value) × (List Value) × Nat × Nat) => match s with | (i, x, y, u, v, L, sp, n, c) => [(L ++ sp, some t_impl_Point), ([ii x, ii y], some t_impl_Point), ([ii u, ii v], some t_impl_Point), (il (expL a b) ++ sp_, some 2)]) (fun (s : Int × Int × Int × Int × Int × (List Value) × (List Value) × Nat × Nat) => match s with | (i, x, y, u, v, L, sp, n, c) => ((n_ : Int) - i).toNat) (fun (s : Int × Int × Int × Int × Int × (List Value) × (List Value) × Nat × Nat) => match s with | (i, x, y, u, v, L, sp, n, c) => ConvI (expL a b) i x y u v L sp n c) (0, 1, 0, 0, 1, [], [], 0, 0) (ConvI.start _) ?_) (tmR_rfl rfl rfl) ⟨⟨⟨_, rfl, .plain rfl rfl (by first | exact Plain.of rfl | exact Row.all (by assumption))⟩⟩, ⟨⟨_, rfl, .plain rfl rfl (by first | exact Plain.of rfl | exact Row.all (by assumption))⟩⟩, ⟨⟨_, rfl, .plain rfl rfl (by first | exact Plain.of rfl | exact Row.all (by assumption))⟩⟩, ⟨⟨_, rfl, .plain rfl rfl (by first | exact Plain.of rfl | exact Row.all (by assumption))⟩⟩, trivial⟩ rfl rfl; rintro fuel_ ⟨i, x, y, u, v, L, sp, n, c⟩ hI IH; replace hI : ConvI (expL a b) i x y u v L sp n c := hI; conv => whnf)
    | exact next_forget [_, 1, 2, 3] (IH (w64 (i + 1), _, _, _, _, _, _, _, _) (by exact hI.next (by have hl_ := row_il hrow_; (try clear IH); (try simp only [decide_eq_true_eq, decide_eq_false_iff_not, Bool.not_eq_true, Bool.not_eq_false, Bool.not_eq_eq_eq_not, Bool.not_true, Bool.not_false] at *); omega) (by have := row_il hrow_; omega) (fun m => by have := fits h 0 m; simpa using this) ra_) (by exact idx_mu ⟨hI.lo, (by have hl_ := row_il hrow_; have := hI.lo; have := hI.hi; (try clear IH); (try simp only [decide_eq_true_eq, decide_eq_false_iff_not, Bool.not_eq_true, Bool.not_eq_false, Bool.not_eq_eq_eq_not, Bool.not_true, Bool.not_false] at *); omega)⟩ (by assumption) (by omega))) (tmR_rfl rfl rfl) ⟨⟨⟨_, rfl, .plain rfl rfl (Row.all ra_)⟩⟩, ⟨⟨_, rfl, .plain rfl rfl (by first | exact Plain.of rfl | exact Row.all (by assumption))⟩⟩, ⟨⟨_, rfl, .plain rfl rfl (by first | exact Plain.of rfl | exact Row.all (by assumption))⟩⟩, ⟨⟨_, rfl, .plain rfl rfl (Row.all hrow_)⟩⟩, trivial⟩ rfl rfl
    | (refine br_in (by have hl_ := row_il hrow_; have := hI.lo; have := hI.hi; (try clear IH); (try simp only [decide_eq_true_eq, decide_eq_false_iff_not, Bool.not_eq_true, Bool.not_eq_false, Bool.not_eq_eq_eq_not, Bool.not_true, Bool.not_false] at *); omega) (by have hl_ := row_il hrow_; have := hI.lo; have := hI.hi; (try clear IH); (try simp only [decide_eq_true_eq, decide_eq_false_iff_not, Bool.not_eq_true, Bool.not_eq_false, Bool.not_eq_eq_eq_not, Bool.not_true, Bool.not_false] at *); omega) ?_; conv => whnf)
    | (refine force_eq (take_il (i := i.toNat) (by simp only [Nat.mul_one, Nat.zero_add]) (by have := hI.lo; have hl_ := row_il hrow_; (try clear IH); (try simp only [decide_eq_true_eq, decide_eq_false_iff_not, Bool.not_eq_true, Bool.not_eq_false, Bool.not_eq_eq_eq_not, Bool.not_true, Bool.not_false] at *); omega)) ?_; conv => whnf)
    | (show AppK _ _ _ 2 _ _ _ _ _; refine app_lit hI.row rfl rfl rfl (Plain.of rfl) rfl rfl (by decide) (by have := hI.lo; have := hI.hi; have := hI.num; have hl_ := row_il hrow_; clear IH; have : n_ ≤ 1000001 := hn_; show (_ + 1) * 16 ≤ _; omega) (by have := hI.lo; have := hI.hi; have := hI.num; have hl_ := row_il hrow_; clear IH; have : n_ ≤ 1000001 := hn_; omega) (fun hle_ spa_ ra_ => ?_) (fun hle_ ca_ spa_ ra_ => ?_) <;> conv => whnf)
    | (obtain ⟨rfl, hrow2_, hn2_⟩ := hI.fin (by have hl_ := row_il hrow_; have := of_decide_eq_false (by assumption); clear IH; omega); exact out_forget [_] ⟨_, _, _, hrow2_, by have hl_ := row_il hrow_; omega, rfl, rfl⟩ rfl (okB2_spec rfl) ⟨⟨_, rfl, .plain rfl rfl (Row.all hrow2_)⟩, trivial⟩ rfl rfl)
    | (refine StoreK.mk rfl ?_; conv => whnf)
    | exact join_same
    | exact (by assumption : (_ : Bool) = (_ : Bool))
    | (refine br_true (by assumption) ?_; conv => whnf)
    | (refine br_false (by assumption) ?_; conv => whnf)
    | (refine br_not ?_; conv => whnf)
    | (refine br_code ?_; conv => whnf)
    | (with_reducible refine br_and ?_; conv => whnf)
    | (with_reducible refine br_or ?_; conv => whnf)
    | (refine br_eq2 ?_; conv => whnf)
    | (refine CallOK.useR (c_impl_expand (by first | assumption | exact Row.lit rfl rfl | omega)) [] rfl rfl rfl trivial (fun v_ mem_ hR => ?_); obtain ⟨n_, c_, sp_, hrow_, hn_, rfl, rfl⟩ := hR; refine ⟨rfl, ?_⟩; conv => whnf)
    | (refine c_impl_Point_plus.call ?_; conv => whnf)
    | (refine c_impl_Point_plus.quiet ?_; conv => whnf)
    | (refine draw_auto (by decide +kernel) ?_; conv => whnf)
    | (refine draw_asg (by decide +kernel) ?_; conv => whnf)
    | (refine draw_st (by decide +kernel) ?_; conv => whnf)
    | (refine draw_call (by decide +kernel) ?_; conv => whnf)
    | (refine enter_same (loop_n 12 ?_); conv => whnf)
    | (refine next_same ?_; conv => whnf)
    | (refine mapK_row (by assumption) ?_; conv => whnf)
    | (refine mapK_plain (Plain.of rfl) ?_; conv => whnf)
    | (refine mapK_lit ?_; conv => whnf)
    | (refine br_split (fun _ => ?_) (fun _ => ?_) <;> conv => whnf)
    | exact (rfl : (_ : Value) = _)
    | (simp only [*]; exact (rfl : (_ : Value) = _))
    | (simp [*]; done))

theorem c_spec_l01Fold {xs : List Int} {sp : List Value} {m c : Nat} (h : 0 < m) (hm : m ≤ xs.length) (hx : xs.length ≤ 1000001) (hf : ∀ j, fitsP (contL ((xs.take m).drop j))) (hpl : Plain (il xs ++ sp)) : CallOK Try.prog n_spec_l01Fold [.slice (some ⟨0, 0, none⟩) m c] [(il xs ++ sp, none)] (fun v m_ => v = .tuple #[ii (contL (xs.take m)).1, ii (contL (xs.take m)).2, bb true] ∧ m_ = [(il xs ++ sp, none)]) := by
  refine callOK_ofF good fn_spec_l01Fold ?_
  conv => whnf
  all_goals (repeat' first
    | (refine enter_forget [] (loop_rec (fun (s : Int × Int × Int) => match s with | (p, q, i) => [.slice (some ⟨0, 0, none⟩) m c, wild, wild, wild, wild, ii p, ii q, ii i, wild, wild, wild, wild, wild, wild, wild, wild, wild, wild, wild, wild, wild, wild, wild, wild, wild, wild, wild, wild, wild, wild, wild, wild, wild, wild, wild, wild, wild, wild, wild, wild, wild, wild]) (fun (s : Int × Int × Int) => match s with | (p, q, i) => [(il xs ++ sp, none)]) (fun (s : Int × Int × Int) => match s with | (p, q, i) => (i + 1).toNat) (fun (s : Int × Int × Int) => match s with | (p, q, i) => FoldI xs m p q i) (_, _, _) (FoldI.start h hm hx) ?_) (tmR_rfl rfl rfl) ⟨⟨⟨_, rfl, .plain rfl rfl hpl⟩⟩, trivial⟩ rfl rfl; rintro fuel_ ⟨p, q, i⟩ hI IH; replace hI : FoldI xs m p q i := hI; conv => whnf)
    | exact next_forget [] (IH (w64 (w64 (xs.getD i.toNat 0 * p) + q), p, w64 (i - 1)) (hI.next (of_decide_eq_true (by assumption)) hm hx hf) (hI.mu (of_decide_eq_true (by assumption)) hm hx)) (tmR_rfl rfl rfl) ⟨⟨⟨_, rfl, .plain rfl rfl hpl⟩⟩, trivial⟩ rfl rfl
    | (refine br_true (hI.wrap (of_decide_eq_true (by assumption)) hm hf).2.1 ?_; conv => whnf)
    | (refine br_true (hI.wrap (of_decide_eq_true (by assumption)) hm hf).2.2 ?_; conv => whnf)
    | (refine br_in (by (try clear IH); (try simp only [w64_def, decide_eq_true_eq, decide_eq_false_iff_not, Bool.not_eq_true, Bool.not_eq_false, Bool.not_eq_eq_eq_not, Bool.not_true, Bool.not_false] at *); omega) (by (try clear IH); (try simp only [w64_def, decide_eq_true_eq, decide_eq_false_iff_not, Bool.not_eq_true, Bool.not_eq_false, Bool.not_eq_eq_eq_not, Bool.not_true, Bool.not_false] at *); omega) ?_; conv => whnf)
    | (refine br_in (by have := of_decide_eq_true (by assumption); omega) (by have := hI.hi; omega) ?_; conv => whnf)
    | (refine force_eq (take_il (i := (w64 ((m : Int) - 1)).toNat) (by omega) (by (try clear IH); (try simp only [w64_def, decide_eq_true_eq, decide_eq_false_iff_not, Bool.not_eq_true, Bool.not_eq_false, Bool.not_eq_eq_eq_not, Bool.not_true, Bool.not_false] at *); omega)) ?_; conv => whnf)
    | (refine force_eq (take_il (i := i.toNat) (by simp only [Nat.mul_one, Nat.zero_add]) (by have := hI.hi; have h0_ := of_decide_eq_true (by assumption); clear IH; omega)) ?_; conv => whnf)
    | (obtain ⟨rfl, rfl⟩ := hI.fin (of_decide_eq_false (by assumption)); exact out_forget [] ⟨rfl, rfl⟩ rfl (okB2_spec rfl) ⟨⟨_, rfl, .plain rfl rfl hpl⟩, trivial⟩ rfl rfl)
    | (refine StoreK.mk rfl ?_; conv => whnf)
    | exact join_same
    | exact (by assumption : (_ : Bool) = (_ : Bool))
    | (refine br_true (by assumption) ?_; conv => whnf)
    | (refine br_false (by assumption) ?_; conv => whnf)
    | (refine br_not ?_; conv => whnf)
    | (refine br_code ?_; conv => whnf)
    | (with_reducible refine br_and ?_; conv => whnf)
    | (with_reducible refine br_or ?_; conv => whnf)
    | (refine br_eq2 ?_; conv => whnf)
    | (refine c_spec_l01Fits.call ?_; conv => whnf)
    | (refine c_spec_l01Fits.quiet ?_; conv => whnf)
    | (refine draw_auto (by decide +kernel) ?_; conv => whnf)
    | (refine draw_asg (by decide +kernel) ?_; conv => whnf)
    | (refine draw_st (by decide +kernel) ?_; conv => whnf)
    | (refine draw_call (by decide +kernel) ?_; conv => whnf)
    | (refine enter_same (loop_n 12 ?_); conv => whnf)
    | (refine next_same ?_; conv => whnf)
    | (refine mapK_row (by assumption) ?_; conv => whnf)
    | (refine mapK_plain (Plain.of rfl) ?_; conv => whnf)
    | (refine mapK_lit ?_; conv => whnf)
    | (refine br_split (fun _ => ?_) (fun _ => ?_) <;> conv => whnf)
    | exact (rfl : (_ : Value) = _)
    | (simp only [*]; exact (rfl : (_ : Value) = _))
    | (simp [*]; done))

end Go.Proofs.Ytlkbfpklhncfbaa
