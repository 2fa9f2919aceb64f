/-
  Contracts of functions of the program (printed by a program of this work; Lean checks each).
  Conditions: as each contract states.
-/
import Derived.Test.YtlkbfpklhncfbaaK9
import Derived.Test.YtlkbfpklhncfbaaK3
import Derived.Test.YtlkbfpklhncfbaaExp
namespace Go.Proofs.Ytlkbfpklhncfbaa
open Go.Ev Go.RowKit
set_option maxRecDepth 100000
set_option linter.unusedVariables false
set_option linter.unusedSimpArgs false

theorem c_impl_expand {a b : Int} (h : ExpOk a b) : CallOK Try.prog n_impl_expand [ii a, ii b] [] (fun v m_ => ∃ n c sp, Row (il (expL a b)) sp n c 1 ∧ n ≤ 1000001 ∧ v = .slice (some ⟨0, 0, none⟩) n c ∧ m_ = [(il (expL a b) ++ sp, some 2)]) := by
  refine callOK_ofF good fn_impl_expand ?_
  conv => whnf
  all_goals (repeat' first
    | (refine enter_forget [0] (loop_rec (fun (s : Int × Int × (List Value) × (List Int) × (List Value) × Nat × Nat) => match s with | (x, y, L, xs, sp, n, c) => [ii x, ii y, wild, wild, wild, .slice (some ⟨0, 0, none⟩) n c, wild, wild, wild, wild, wild, wild, wild, wild, wild, wild, wild, wild, wild, wild, wild, wild, wild, wild]) (fun (s : Int × Int × (List Value) × (List Int) × (List Value) × Nat × Nat) => match s with | (x, y, L, xs, sp, n, c) => [(L ++ sp, some 2)]) (fun (s : Int × Int × (List Value) × (List Int) × (List Value) × Nat × Nat) => match s with | (x, y, L, xs, sp, n, c) => y.toNat) (fun (s : Int × Int × (List Value) × (List Int) × (List Value) × Nat × Nat) => match s with | (x, y, L, xs, sp, n, c) => ExpI a b x y L xs sp n c) (a, b, [], [], [], 0, 0) (ExpI.start h) ?_) (tmR_rfl rfl rfl) ⟨⟨⟨_, rfl, .plain rfl rfl (by first | exact Plain.of rfl | exact Row.all (by assumption))⟩⟩, trivial⟩ rfl rfl; rintro fuel_ ⟨x, y, L, xs, sp, n, c⟩ hI IH; replace hI : ExpI a b x y L xs sp n c := hI; conv => whnf)
    | exact next_forget [0] (IH (y, w64 (x - w64 (floorF x y * y)), _, xs ++ [floorF x y], _, _, _) (by exact hI.next (ne_of_dec (by assumption)) ra_) (by exact hI.mu (ne_of_dec (by assumption)))) (tmR_rfl rfl rfl) ⟨⟨⟨_, rfl, .plain rfl rfl (Row.all ra_)⟩⟩, trivial⟩ rfl rfl
    | exact next_forget [2] (IH (y, w64 (x - w64 (floorF x y * y)), _, xs ++ [floorF x y], _, _, _) (by exact hI.next (ne_of_dec (by assumption)) ra_) (by exact hI.mu (ne_of_dec (by assumption)))) (tmR_rfl rfl rfl) ⟨⟨⟨_, rfl, .plain rfl rfl (Row.all ra_)⟩⟩, trivial⟩ rfl rfl
    | (show AppK _ _ _ 1 _ _ _ _ _; refine app_lit hI.row rfl rfl rfl (Plain.of rfl) rfl rfl (by decide) (by have := hI.bd; show (_ + 1) * 8 ≤ _; omega) (by have := hI.bd; omega) (fun hle_ spa_ ra_ => ?_) (fun hle_ ca_ spa_ ra_ => ?_) <;> conv => whnf)
    | (obtain ⟨rfl, hrow_, hn_⟩ := hI.fin (eq_of_dec (by assumption)); exact out_forget [_] ⟨_, _, _, hrow_, by omega, rfl, rfl⟩ rfl (okB2_spec rfl) ⟨⟨_, rfl, .plain rfl rfl (Row.all hrow_)⟩, trivial⟩ rfl rfl)
    | (refine StoreK.mk rfl ?_; conv => whnf)
    | exact join_same
    | exact (by assumption : (_ : Bool) = (_ : Bool))
    | (refine br_true (by assumption) ?_; conv => whnf)
    | (refine br_false (by assumption) ?_; conv => whnf)
    | (refine br_not ?_; conv => whnf)
    | (refine br_code ?_; conv => whnf)
    | (with_reducible refine br_and ?_; conv => whnf)
    | (with_reducible refine br_or ?_; conv => whnf)
    | (refine br_eq2 ?_; conv => whnf)
    | (refine (c_impl_floor ?_).call ?_ <;> conv => whnf)
    | (refine (c_impl_floor ?_).quiet ?_ <;> conv => whnf)
    | (refine draw_auto (by decide +kernel) ?_; conv => whnf)
    | (refine draw_asg (by decide +kernel) ?_; conv => whnf)
    | (refine draw_st (by decide +kernel) ?_; conv => whnf)
    | (refine draw_call (by decide +kernel) ?_; conv => whnf)
    | (refine enter_same (loop_n 12 ?_); conv => whnf)
    | (refine next_same ?_; conv => whnf)
    | (refine mapK_row (by assumption) ?_; conv => whnf)
    | (refine mapK_plain (Plain.of rfl) ?_; conv => whnf)
    | (refine mapK_lit ?_; conv => whnf)
    | (refine br_split (fun _ => ?_) (fun _ => ?_) <;> conv => whnf)
    | exact (rfl : (_ : Value) = _)
    | (simp only [*]; exact (rfl : (_ : Value) = _))
    | (simp [*]; done))

theorem c_spec_l01Expand {a b : Int} (h : ExpOk a b) : CallOK Try.prog n_spec_l01Expand [ii a, ii b] [] (fun v m_ => ∃ n c sp, Row (il (expL a b)) sp n c 1 ∧ n ≤ 1000001 ∧ v = .slice (some ⟨0, 0, none⟩) n c ∧ m_ = [(il (expL a b) ++ sp, some 2)]) := by
  refine callOK_ofF good fn_spec_l01Expand ?_
  conv => whnf
  all_goals (repeat' first
    | (refine enter_forget [0] (loop_rec (fun (s : Int × Int × (List Value) × (List Int) × (List Value) × Nat × Nat) => match s with | (x, y, L, xs, sp, n, c) => [ii x, ii y, wild, wild, wild, .slice (some ⟨0, 0, none⟩) n c, wild, wild, wild, wild, wild, wild, wild, wild, wild, wild, wild, wild, wild, wild, wild, wild, wild, wild, wild, wild]) (fun (s : Int × Int × (List Value) × (List Int) × (List Value) × Nat × Nat) => match s with | (x, y, L, xs, sp, n, c) => [(L ++ sp, some 2)]) (fun (s : Int × Int × (List Value) × (List Int) × (List Value) × Nat × Nat) => match s with | (x, y, L, xs, sp, n, c) => y.toNat) (fun (s : Int × Int × (List Value) × (List Int) × (List Value) × Nat × Nat) => match s with | (x, y, L, xs, sp, n, c) => ExpI a b x y L xs sp n c) (a, b, [], [], [], 0, 0) (ExpI.start h) ?_) (tmR_rfl rfl rfl) ⟨⟨⟨_, rfl, .plain rfl rfl (by first | exact Plain.of rfl | exact Row.all (by assumption))⟩⟩, trivial⟩ rfl rfl; rintro fuel_ ⟨x, y, L, xs, sp, n, c⟩ hI IH; replace hI : ExpI a b x y L xs sp n c := hI; conv => whnf)
    | exact next_forget [0] (IH (y, w64 (x - w64 (floorF x y * y)), _, xs ++ [floorF x y], _, _, _) (by exact hI.next (ne_of_dec (by assumption)) ra_) (by exact hI.mu (ne_of_dec (by assumption)))) (tmR_rfl rfl rfl) ⟨⟨⟨_, rfl, .plain rfl rfl (Row.all ra_)⟩⟩, trivial⟩ rfl rfl
    | exact next_forget [2] (IH (y, w64 (x - w64 (floorF x y * y)), _, xs ++ [floorF x y], _, _, _) (by exact hI.next (ne_of_dec (by assumption)) ra_) (by exact hI.mu (ne_of_dec (by assumption)))) (tmR_rfl rfl rfl) ⟨⟨⟨_, rfl, .plain rfl rfl (Row.all ra_)⟩⟩, trivial⟩ rfl rfl
    | (show AppK _ _ _ 1 _ _ _ _ _; refine app_lit hI.row rfl rfl rfl (Plain.of rfl) rfl rfl (by decide) (by have := hI.bd; show (_ + 1) * 8 ≤ _; omega) (by have := hI.bd; omega) (fun hle_ spa_ ra_ => ?_) (fun hle_ ca_ spa_ ra_ => ?_) <;> conv => whnf)
    | (obtain ⟨rfl, hrow_, hn_⟩ := hI.fin (eq_of_dec (by assumption)); exact out_forget [_] ⟨_, _, _, hrow_, by omega, rfl, rfl⟩ rfl (okB2_spec rfl) ⟨⟨_, rfl, .plain rfl rfl (Row.all hrow_)⟩, trivial⟩ rfl rfl)
    | (refine StoreK.mk rfl ?_; conv => whnf)
    | exact join_same
    | exact (by assumption : (_ : Bool) = (_ : Bool))
    | (refine br_true (by assumption) ?_; conv => whnf)
    | (refine br_false (by assumption) ?_; conv => whnf)
    | (refine br_not ?_; conv => whnf)
    | (refine br_code ?_; conv => whnf)
    | (with_reducible refine br_and ?_; conv => whnf)
    | (with_reducible refine br_or ?_; conv => whnf)
    | (refine br_eq2 ?_; conv => whnf)
    | (refine (c_spec_l01Floor ?_).call ?_ <;> conv => whnf)
    | (refine (c_spec_l01Floor ?_).quiet ?_ <;> conv => whnf)
    | (refine draw_auto (by decide +kernel) ?_; conv => whnf)
    | (refine draw_asg (by decide +kernel) ?_; conv => whnf)
    | (refine draw_st (by decide +kernel) ?_; conv => whnf)
    | (refine draw_call (by decide +kernel) ?_; conv => whnf)
    | (refine enter_same (loop_n 12 ?_); conv => whnf)
    | (refine next_same ?_; conv => whnf)
    | (refine mapK_row (by assumption) ?_; conv => whnf)
    | (refine mapK_plain (Plain.of rfl) ?_; conv => whnf)
    | (refine mapK_lit ?_; conv => whnf)
    | (refine br_split (fun _ => ?_) (fun _ => ?_) <;> conv => whnf)
    | exact (rfl : (_ : Value) = _)
    | (simp only [*]; exact (rfl : (_ : Value) = _))
    | (simp [*]; done))

end Go.Proofs.Ytlkbfpklhncfbaa
