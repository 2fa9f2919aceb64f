/-
  Contracts of functions of the program (printed by a program of this work; Lean checks each).
  Conditions: as each contract states.
-/
import Derived.Test.YtjakdmfodnpkkaaKM3
import Derived.Test.YtjakdmfodnpkkaaKM4
namespace Go.Proofs.Ytjakdmfodnpkkaa
open Go.Ev Go.RowKit
set_option maxRecDepth 100000
set_option linter.unusedVariables false
set_option linter.unusedSimpArgs false

theorem c_impl_every {xs : List Int} {sp : List Value} {n c f : Nat} (h1 : Row (il xs) sp n c 1) (hn : n ≤ 1000001) (hf : f ≤ 1) : CallOK Try.prog n_impl_every [.slice (some ⟨0, 0, none⟩) n c, ii (f : Int)] [(il xs ++ sp, none)] (fun v m_ => ∃ n2 c2 s2, Row (il (evL xs f)) s2 n2 c2 1 ∧ n2 ≤ 1000001 ∧ v = .slice (some ⟨1, 0, none⟩) n2 c2 ∧ m_ = [(il xs ++ sp, none), (il (evL xs f) ++ s2, some 2)]) := by
  obtain rfl := row_il h1; refine callOK_ofF good fn_impl_every ?_
  conv => whnf
  all_goals (repeat' first
    | (refine enter_forget [1] (loop_rec (fun (s : Int × (List Value) × (List Value) × Nat × Nat × Nat) => match s with | (i, L, s2, n2, c2, j) => [.slice (some ⟨0, 0, none⟩) xs.length c, wild, wild, wild, wild, .slice (some ⟨1, 0, none⟩) n2 c2, ii i, wild, wild, wild, wild, wild, wild, wild, wild, wild, wild, wild, wild, wild, wild, wild, wild]) (fun (s : Int × (List Value) × (List Value) × Nat × Nat × Nat) => match s with | (i, L, s2, n2, c2, j) => [(il xs ++ sp, none), (L ++ s2, some 2)]) (fun (s : Int × (List Value) × (List Value) × Nat × Nat × Nat) => match s with | (i, L, s2, n2, c2, j) => ((xs.length : Int) + 1 - i).toNat) (fun (s : Int × (List Value) × (List Value) × Nat × Nat × Nat) => match s with | (i, L, s2, n2, c2, j) => EvI xs f i L s2 n2 c2 j) ((f : Int), [], [], 0, 0, 0) (EvI.start xs f hf) ?_) (tmR_rfl rfl rfl) ⟨⟨⟨_, rfl, .plain rfl rfl (Row.all h1)⟩⟩, ⟨⟨_, rfl, .plain rfl rfl (by first | exact Plain.of rfl | exact Row.all (by assumption))⟩⟩, trivial⟩ rfl rfl; rintro fuel_ ⟨i, L, s2, n2, c2, j⟩ hI IH; replace hI : EvI xs f i L s2 n2 c2 j := hI; conv => whnf)
    | exact next_forget [_] (IH (w64 (i + 2), _, _, _, _, _) (by exact hI.next (of_decide_eq_true (show decide (i < (xs.length : Int)) = true by assumption)) (by omega) ra_) (by exact hI.mu (of_decide_eq_true (show decide (i < (xs.length : Int)) = true by assumption)) (by omega))) (tmR_rfl rfl rfl) ⟨⟨⟨_, rfl, .plain rfl rfl (Row.all h1)⟩⟩, ⟨⟨_, rfl, .plain rfl rfl (Row.all ra_)⟩⟩, trivial⟩ rfl rfl
    | (refine br_in hI.lo (of_decide_eq_true (show decide (i < (xs.length : Int)) = true by assumption)) ?_; conv => whnf)
    | (refine force_eq (take_il (i := (i).toNat) (by simp only [Nat.mul_one, Nat.zero_add]) (by have := hI.lo; have := (of_decide_eq_true (show decide (i < (xs.length : Int)) = true by assumption)); omega)) ?_; conv => whnf)
    | (show AppK _ _ _ 1 _ _ _ _ _; refine app_lit hI.row rfl rfl rfl (Plain.of rfl) rfl rfl (by decide) (by have := hI.num; have := hI.at_; have := (of_decide_eq_true (show decide (i < (xs.length : Int)) = true by assumption)); have : xs.length ≤ 1000001 := hn; show (_ + 1) * 8 ≤ _; omega) (by have := hI.num; have := hI.at_; have := (of_decide_eq_true (show decide (i < (xs.length : Int)) = true by assumption)); have : xs.length ≤ 1000001 := hn; omega) (fun hle_ spa_ ra_ => ?_) (fun hle_ ca_ spa_ ra_ => ?_) <;> conv => whnf)
    | (obtain ⟨rfl, h9_⟩ := hI.fin (of_decide_eq_false (by assumption)); exact out_forget [_] ⟨_, _, _, hI.row, by omega, rfl, rfl⟩ rfl (okB2_spec rfl) ⟨⟨⟨_, rfl, .plain rfl rfl (Row.all h1)⟩⟩, ⟨⟨_, rfl, .plain rfl rfl (Row.all hI.row)⟩⟩, trivial⟩ rfl rfl)
    | (refine StoreK.mk rfl ?_; conv => whnf)
    | exact join_same
    | exact (by assumption : (_ : Bool) = (_ : Bool))
    | (refine br_true (by assumption) ?_; conv => whnf)
    | (refine br_false (by assumption) ?_; conv => whnf)
    | (refine br_not ?_; conv => whnf)
    | (refine br_code ?_; conv => whnf)
    | (with_reducible refine br_and ?_; conv => whnf)
    | (with_reducible refine br_or ?_; conv => whnf)
    | (refine br_eq2 ?_; conv => whnf)
    | (refine draw_auto (by decide +kernel) ?_; conv => whnf)
    | (refine draw_asg (by decide +kernel) ?_; conv => whnf)
    | (refine draw_st (by decide +kernel) ?_; conv => whnf)
    | (refine draw_call (by decide +kernel) ?_; conv => whnf)
    | (refine enter_same (loop_n 12 ?_); conv => whnf)
    | (refine next_same ?_; conv => whnf)
    | (refine mapK_row (by assumption) ?_; conv => whnf)
    | (refine mapK_plain (Plain.of rfl) ?_; conv => whnf)
    | (refine mapK_lit ?_; conv => whnf)
    | (refine br_split (fun _ => ?_) (fun _ => ?_) <;> conv => whnf)
    | exact (rfl : (_ : Value) = _)
    | (simp only [*]; exact (rfl : (_ : Value) = _))
    | (simp [*]; done))

set_option maxHeartbeats 1000000 in
theorem c_spec_l03Parts {t : List Int} {sq : List Value} {j k : Nat} (h1 : Row (il t) sq j k 1) (hj : j ≤ 2000) (h2 : 2 ≤ j) : CallOK Try.prog n_spec_l03Parts [.slice (some ⟨0, 0, none⟩) j k] [(il t ++ sq, none)] (fun v m_ => ∃ n2 c2 s2 n3 c3 s3, Row (il (lenL t (vts t))) s2 n2 c2 1 ∧ Row (il (sinL t (vts t))) s3 n3 c3 1 ∧ n2 ≤ 2000 ∧ n3 ≤ 2000 ∧ v = .tuple #[.slice (some ⟨1, 0, none⟩) n2 c2, .slice (some ⟨2, 0, none⟩) n3 c3] ∧ m_ = [(il t ++ sq, none), (il (lenL t (vts t)) ++ s2, some 2), (il (sinL t (vts t)) ++ s3, some 2)]) := by
  obtain rfl := row_il h1; refine callOK_ofF good fn_spec_l03Parts ?_
  conv => whnf
  all_goals (repeat' first
    | (refine enter_forget [1, 2] (loop_rec (fun (s : Int × Int × (List Value) × (List Value) × Nat × Nat × (List Value) × (List Value) × Nat × Nat) => match s with | (i, now, L, s2, n2, c2, M, s3, n3, c3) => [.slice (some ⟨0, 0, none⟩) t.length k, wild, wild, wild, .slice (some ⟨1, 0, none⟩) n2 c2, .slice (some ⟨2, 0, none⟩) n3 c3, ii now, ii i, wild, wild, wild, wild, wild, wild, wild, wild, wild, wild, wild, wild, wild, wild, wild, wild, wild, wild, wild, wild, wild, wild, wild, wild, wild, wild, wild, wild, wild, wild, wild, wild, wild, wild, wild, wild, wild, wild, wild, wild, wild, wild, wild, wild, wild, wild, wild, wild]) (fun (s : Int × Int × (List Value) × (List Value) × Nat × Nat × (List Value) × (List Value) × Nat × Nat) => match s with | (i, now, L, s2, n2, c2, M, s3, n3, c3) => [(il t ++ sq, none), (L ++ s2, some 2), (M ++ s3, some 2)]) (fun (s : Int × Int × (List Value) × (List Value) × Nat × Nat × (List Value) × (List Value) × Nat × Nat) => match s with | (i, now, L, s2, n2, c2, M, s3, n3, c3) => ((t.length : Int) - i).toNat) (fun (s : Int × Int × (List Value) × (List Value) × Nat × Nat × (List Value) × (List Value) × Nat × Nat) => match s with | (i, now, L, s2, n2, c2, M, s3, n3, c3) => PartI t i now L s2 n2 c2 M s3 n3 c3) (1, 0, [], [], 0, 0, [], [], 0, 0) (PartI.start h2) ?_) (tmR_rfl rfl rfl) ⟨⟨⟨_, rfl, .plain rfl rfl (Row.all h1)⟩⟩, ⟨⟨_, rfl, .plain rfl rfl (by first | exact Plain.of rfl | exact Row.all (by assumption))⟩⟩, ⟨⟨_, rfl, .plain rfl rfl (by first | exact Plain.of rfl | exact Row.all (by assumption))⟩⟩, trivial⟩ rfl rfl; rintro fuel_ ⟨i, now, L, s2, n2, c2, M, s3, n3, c3⟩ hI IH; replace hI : PartI t i now L s2 n2 c2 M s3 n3 c3 := hI; conv => whnf)
    | exact next_forget [_, _] (IH (w64 (i + 1), _, _, _, _, _, _, _, _, _) (by exact hI.vert (of_decide_eq_true (show decide (i < (t.length : Int)) = true by assumption)) hj (of_decide_eq_false (by assumption)) (of_decide_eq_true (by assumption)) rfl rfl ra_ rb_) (by exact idx_mu ⟨by have := hI.lo; omega, hI.hi⟩ (by assumption) (by omega))) (tmR_rfl rfl rfl) ⟨⟨⟨_, rfl, .plain rfl rfl (Row.all h1)⟩⟩, ⟨⟨_, rfl, .plain rfl rfl (Row.all ra_)⟩⟩, ⟨⟨_, rfl, .plain rfl rfl (Row.all rb_)⟩⟩, trivial⟩ rfl rfl
    | exact next_forget [_, _] (IH (w64 (i + 1), _, _, _, _, _, _, _, _, _) (by exact hI.last (of_decide_eq_true (show decide (i < (t.length : Int)) = true by assumption)) hj (of_decide_eq_true (by assumption)) rfl ra_) (by exact idx_mu ⟨by have := hI.lo; omega, hI.hi⟩ (by assumption) (by omega))) (tmR_rfl rfl rfl) ⟨⟨⟨_, rfl, .plain rfl rfl (Row.all h1)⟩⟩, ⟨⟨_, rfl, .plain rfl rfl (Row.all ra_)⟩⟩, ⟨⟨_, rfl, .plain rfl rfl (Row.all hI.row2)⟩⟩, trivial⟩ rfl rfl
    | exact next_forget [_, _] (IH (w64 (i + 1), _, _, _, _, _, _, _, _, _) (by exact hI.skip (of_decide_eq_true (show decide (i < (t.length : Int)) = true by assumption)) hj (fun hh => hh.elim (of_decide_eq_false (by assumption)) (of_decide_eq_false (by assumption)))) (by exact idx_mu ⟨by have := hI.lo; omega, hI.hi⟩ (by assumption) (by omega))) (tmR_rfl rfl rfl) ⟨⟨⟨_, rfl, .plain rfl rfl (Row.all h1)⟩⟩, ⟨⟨_, rfl, .plain rfl rfl (Row.all hI.row)⟩⟩, ⟨⟨_, rfl, .plain rfl rfl (Row.all hI.row2)⟩⟩, trivial⟩ rfl rfl
    | (refine br_false (decide_eq_false (show ¬ i < w64 ((t.length : Int) - 1) by have := of_decide_eq_true (show decide (i = w64 ((t.length : Int) - 1)) = true by assumption); clear IH; omega)) ?_; conv => whnf)
    | (refine br_true (decide_eq_true (show i < w64 ((t.length : Int) - 1) by have q_ := of_decide_eq_false (show decide (i = w64 ((t.length : Int) - 1)) = false by assumption); have := (of_decide_eq_true (show decide (i < (t.length : Int)) = true by assumption)); have e_ : w64 ((t.length : Int) - 1) = (t.length : Int) - 1 := w64_in (by omega) (by omega); rw [e_] at q_ ⊢; clear IH; omega)) ?_; conv => whnf)
    | (refine br_in (by have := hI.lo; omega) (of_decide_eq_true (show decide (i < (t.length : Int)) = true by assumption)) ?_; conv => whnf)
    | (refine force_eq (take_il (i := (i).toNat) (by simp only [Nat.mul_one, Nat.zero_add]) (by have := hI.lo; have := (of_decide_eq_true (show decide (i < (t.length : Int)) = true by assumption)); omega)) ?_; conv => whnf)
    | (show AppK _ _ _ 1 _ _ _ _ _; refine app_lit hI.row rfl rfl rfl (Plain.of rfl) rfl rfl (by decide) (by have := hI.num; have := (of_decide_eq_true (show decide (i < (t.length : Int)) = true by assumption)); have := hI.lo; show (_ + 1) * 8 ≤ _; omega) (by have := hI.num; have := (of_decide_eq_true (show decide (i < (t.length : Int)) = true by assumption)); have := hI.lo; omega) (fun hle_ spa_ ra_ => ?_) (fun hle_ ca_ spa_ ra_ => ?_) <;> conv => whnf)
    | (show AppK _ _ _ 1 _ _ _ _ _; refine app_lit hI.row2 rfl rfl rfl (Plain.of rfl) rfl rfl (by decide) (by have := hI.num2; have := (of_decide_eq_true (show decide (i < (t.length : Int)) = true by assumption)); have := hI.lo; show (_ + 1) * 8 ≤ _; omega) (by have := hI.num2; have := (of_decide_eq_true (show decide (i < (t.length : Int)) = true by assumption)); have := hI.lo; omega) (fun hle_ spb_ rb_ => ?_) (fun hle_ cb_ spb_ rb_ => ?_) <;> conv => whnf)
    | (obtain ⟨rfl, rfl, h8_, h9_⟩ := hI.fin (of_decide_eq_false (by assumption)); exact out_forget [_, _] ⟨_, _, _, _, _, _, hI.row, hI.row2, by omega, by omega, rfl, rfl⟩ rfl (okB2_spec rfl) ⟨⟨⟨_, rfl, .plain rfl rfl (Row.all h1)⟩⟩, ⟨⟨_, rfl, .plain rfl rfl (Row.all hI.row)⟩⟩, ⟨⟨_, rfl, .plain rfl rfl (Row.all hI.row2)⟩⟩, trivial⟩ rfl rfl)
    | (refine StoreK.mk rfl ?_; conv => whnf)
    | exact join_same
    | exact (by assumption : (_ : Bool) = (_ : Bool))
    | (refine br_true (by assumption) ?_; conv => whnf)
    | (refine br_false (by assumption) ?_; conv => whnf)
    | (refine br_not ?_; conv => whnf)
    | (refine br_code ?_; conv => whnf)
    | (with_reducible refine br_and ?_; conv => whnf)
    | (with_reducible refine br_or ?_; conv => whnf)
    | (refine br_eq2 ?_; conv => whnf)
    | (refine draw_auto (by decide +kernel) ?_; conv => whnf)
    | (refine draw_asg (by decide +kernel) ?_; conv => whnf)
    | (refine draw_st (by decide +kernel) ?_; conv => whnf)
    | (refine draw_call (by decide +kernel) ?_; conv => whnf)
    | (refine enter_same (loop_n 12 ?_); conv => whnf)
    | (refine next_same ?_; conv => whnf)
    | (refine mapK_row (by assumption) ?_; conv => whnf)
    | (refine mapK_plain (Plain.of rfl) ?_; conv => whnf)
    | (refine mapK_lit ?_; conv => whnf)
    | (refine br_split (fun _ => ?_) (fun _ => ?_) <;> conv => whnf)
    | exact (rfl : (_ : Value) = _)
    | (simp only [*]; exact (rfl : (_ : Value) = _))
    | (simp [*]; done))

end Go.Proofs.Ytjakdmfodnpkkaa
