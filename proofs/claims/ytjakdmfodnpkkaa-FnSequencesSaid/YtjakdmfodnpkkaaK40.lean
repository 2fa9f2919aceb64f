/-
  Contracts of functions of the program (printed by a program of this work; Lean checks each).
  Conditions: as each contract states.
-/
import Derived.Test.YtjakdmfodnpkkaaKM1
import Derived.Test.YtjakdmfodnpkkaaKM3
namespace Go.Proofs.Ytjakdmfodnpkkaa
open Go.Ev Go.RowKit
set_option maxRecDepth 100000
set_option linter.unusedVariables false
set_option linter.unusedSimpArgs false

attribute [local irreducible] isPtF plusF

set_option maxHeartbeats 1000000 in
theorem c_laws_toInt64S {xs : List Int} {sp : List Value} {n c off : Nat} (h1 : Row (il xs) sp n c 1) (hn : n ≤ 1048576) : CallOK Try.prog n_laws_toInt64S [.slice (some ⟨0, off, none⟩) n c] [(away off (il xs ++ sp), none)] (fun v m_ => v = .slice (some ⟨1, 0, none⟩) n n ∧ m_ = [(away off (il xs ++ sp), none), (il xs ++ [], some 2)]) := by
  obtain rfl := row_il h1; have hpl := Row.all h1; refine callOK_ofF good fn_laws_toInt64S ?_
  conv => whnf
  all_goals (repeat' first
    | (refine MadeK.mk (by omega) (Int.le_refl _) ?_ ?_ ?_; (focus (show (8 : Int) * ((xs.length : Nat) : Int) ≤ _; omega)); (focus omega); (rw [show zeros ((xs.length : Nat) : Int).toNat ti2.zero = il (List.replicate xs.length 0) ++ [] from (zeros_il _).trans (List.append_nil _).symm]; conv => whnf))
    | (refine enter_forget [1] (loop_rec (fun (s : Int × (List Int)) => match s with | (i, C) => [.slice (some ⟨0, off, none⟩) xs.length c, wild, wild, .slice (some ⟨1, 0, none⟩) xs.length xs.length, ii i, wild, wild, wild, wild, wild, wild, wild, wild, wild, wild, wild, wild, wild, wild, wild, wild, wild]) (fun (s : Int × (List Int)) => match s with | (i, C) => [(away off (il xs ++ sp), none), (il C ++ [], some 2)]) (fun (s : Int × (List Int)) => match s with | (i, C) => ((xs.length : Int) - i).toNat) (fun (s : Int × (List Int)) => match s with | (i, C) => CpyI xs i C) (0, List.replicate xs.length 0) (CpyI.start xs) ?_) (tmR_rfl rfl rfl) ⟨⟨⟨_, rfl, .lit (away_conc hpl _).symm rfl (away_ok hpl _)⟩⟩, ⟨⟨_, rfl, .plain rfl rfl ((il_plain _).app Plain.nil)⟩⟩, trivial⟩ rfl rfl; rintro fuel_ ⟨i, C⟩ hI IH; replace hI : CpyI xs i C := hI; conv => whnf)
    | exact next_forget [_] (IH (w64 (i + 1), _) (by exact hI.next (of_decide_eq_true (show decide (i < (xs.length : Int)) = true by assumption)) hn (by omega) rfl) (by exact idx_mu ⟨hI.lo, hI.hi⟩ (by assumption) (by omega))) (tmR_rfl rfl rfl) ⟨⟨⟨_, rfl, .lit (away_conc hpl _).symm rfl (away_ok hpl _)⟩⟩, ⟨⟨_, rfl, .plain rfl rfl ((il_plain _).app Plain.nil)⟩⟩, trivial⟩ rfl rfl
    | (refine br_in (n := xs.length) hI.lo (of_decide_eq_true (show decide (i < (xs.length : Int)) = true by assumption)) ?_; conv => whnf)
    | (refine force_eq (take_away_il (xs := xs) (i := i.toNat) ?_ ?_) ?_; (focus (simp only [Nat.mul_one]; done)); (focus (have := hI.lo; have := (of_decide_eq_true (show decide (i < (xs.length : Int)) = true by assumption)); omega)); conv => whnf)
    | (refine br_store1 rfl ?_ ?_; (focus (have := hI.lo; have := hI.len; have := (of_decide_eq_true (show decide (i < (xs.length : Int)) = true by assumption)); have hl_ : (il C ++ []).length = C.length := (by rw [List.append_nil, il_len]); show 0 + i.toNat * 1 + 1 ≤ (il C ++ []).length; omega)); conv => whnf)
    | (refine set_il (xs := C) (ys := C.set (0 + i.toNat * 1) (xs.getD i.toNat 0)) (off := 0 + i.toNat * 1) ?_ rfl ?_; (focus (have := hI.lo; have := hI.len; have := (of_decide_eq_true (show decide (i < (xs.length : Int)) = true by assumption)); omega)); conv => whnf)
    | (obtain rfl := hI.fin (of_decide_eq_false (by assumption)); exact out_forget [_] ⟨rfl, rfl⟩ rfl (okB2_spec rfl) ⟨⟨⟨_, rfl, .lit (away_conc hpl _).symm rfl (away_ok hpl _)⟩⟩, ⟨⟨_, rfl, .plain rfl rfl ((il_plain _).app Plain.nil)⟩⟩, trivial⟩ rfl rfl)
    | (refine StoreK.mk rfl ?_; conv => whnf)
    | exact join_same
    | exact (by assumption : (_ : Bool) = (_ : Bool))
    | (refine br_true (by assumption) ?_; conv => whnf)
    | (refine br_false (by assumption) ?_; conv => whnf)
    | (refine br_not ?_; conv => whnf)
    | (refine br_code ?_; conv => whnf)
    | (with_reducible refine br_and ?_; conv => whnf)
    | (with_reducible refine br_or ?_; conv => whnf)
    | (refine br_eq2 ?_; conv => whnf)
    | (refine draw_auto (by decide +kernel) ?_; conv => whnf)
    | (refine draw_asg (by decide +kernel) ?_; conv => whnf)
    | (refine draw_st (by decide +kernel) ?_; conv => whnf)
    | (refine draw_call (by decide +kernel) ?_; conv => whnf)
    | (refine enter_same (loop_n 12 ?_); conv => whnf)
    | (refine next_same ?_; conv => whnf)
    | (refine mapK_row (by assumption) ?_; conv => whnf)
    | (refine mapK_plain (Plain.of rfl) ?_; conv => whnf)
    | (refine mapK_lit ?_; conv => whnf)
    | (refine br_split (fun _ => ?_) (fun _ => ?_) <;> conv => whnf)
    | exact (rfl : (_ : Value) = _)
    | (simp only [*]; exact (rfl : (_ : Value) = _))
    | (simp [*]; done))

theorem c_impl_AngleOfSequence_1 {n : Int}  : Pure Try.prog n_impl_AngleOfSequence_1 [ii n] (bb (lowP n)) := by
  refine pure_of good fn_impl_AngleOfSequence_1 rfl rfl ?_
  conv => whnf
  all_goals (repeat' first
    | (refine StoreK.mk rfl ?_; conv => whnf)
    | exact join_same
    | exact (by assumption : (_ : Bool) = (_ : Bool))
    | (refine br_true (by assumption) ?_; conv => whnf)
    | (refine br_false (by assumption) ?_; conv => whnf)
    | (refine br_not ?_; conv => whnf)
    | (refine br_code ?_; conv => whnf)
    | (with_reducible refine br_and ?_; conv => whnf)
    | (with_reducible refine br_or ?_; conv => whnf)
    | (refine br_eq2 ?_; conv => whnf)
    | (refine draw_auto (by decide +kernel) ?_; conv => whnf)
    | (refine draw_asg (by decide +kernel) ?_; conv => whnf)
    | (refine draw_st (by decide +kernel) ?_; conv => whnf)
    | (refine draw_call (by decide +kernel) ?_; conv => whnf)
    | (refine enter_same (loop_n 12 ?_); conv => whnf)
    | (refine next_same ?_; conv => whnf)
    | (refine mapK_row (by assumption) ?_; conv => whnf)
    | (refine mapK_plain (Plain.of rfl) ?_; conv => whnf)
    | (refine mapK_lit ?_; conv => whnf)
    | (refine br_split (fun _ => ?_) (fun _ => ?_) <;> conv => whnf)
    | exact (rfl : (_ : Value) = _)
    | (simp only [*]; exact (rfl : (_ : Value) = _))
    | (simp [lowP, *]; done))

theorem c_index_ang_1 {xs : List Int} {sp : List Value} {n c : Nat} (h1 : Row (il xs) sp n c 1) (hn : n ≤ 1048576) : CallOK Try.prog n_slices_IndexFunc_int64 [.slice (some ⟨0, 0, none⟩) n c, fnv n_impl_AngleOfSequence_1] [(il xs ++ sp, none)] (fun v m_ => v = ii (idxI lowP xs 0) ∧ m_ = [(il xs ++ sp, none)]) := by
  obtain rfl := row_il h1; refine callOK_ofF good fn_slices_IndexFunc_int64 ?_
  conv => whnf
  all_goals (repeat' first
    | (refine enter_forget [] (loop_rec (fun (s : Int) => match s with | i => [.slice (some ⟨0, 0, none⟩) xs.length c, fnv n_impl_AngleOfSequence_1, wild, wild, wild, wild, .slice (some ⟨0, 0, none⟩) xs.length c, ii (xs.length : Int), ii i, wild, wild, wild, wild, wild, wild, wild, wild, wild, wild]) (fun (s : Int) => match s with | i => [(il xs ++ sp, none)]) (fun (s : Int) => match s with | i => ((xs.length : Int) - i).toNat) (fun (s : Int) => match s with | i => FirI lowP xs i) (0) (FirI.start lowP xs) ?_) (tmR_rfl rfl rfl) ⟨⟨⟨_, rfl, .plain rfl rfl (Row.all h1)⟩⟩, trivial⟩ rfl rfl; rintro fuel_ i hI IH; replace hI : FirI lowP xs i := hI; conv => whnf)
    | exact next_forget [] (IH (w64 (i + 1)) (by exact hI.next (of_decide_eq_true (show decide (i < (xs.length : Int)) = true by assumption)) hn (show lowP (xs.getD i.toNat 0) = false by assumption)) (by exact hI.mu (of_decide_eq_true (show decide (i < (xs.length : Int)) = true by assumption)) hn)) (tmR_rfl rfl rfl) ⟨⟨⟨_, rfl, .plain rfl rfl (Row.all h1)⟩⟩, trivial⟩ rfl rfl
    | (refine br_in hI.lo (of_decide_eq_true (show decide (i < (xs.length : Int)) = true by assumption)) ?_; conv => whnf)
    | (refine force_eq (take_il (xs := xs) (i := (i).toNat) ?_ ?_) ?_; (focus (simp only [Nat.mul_one, Nat.zero_add]; done)); (focus (have := hI.lo; have := (of_decide_eq_true (show decide (i < (xs.length : Int)) = true by assumption)); omega; done)); conv => whnf)
    | (exact out_forget [] ⟨congrArg (Value.int IntKind.i64) (hI.hit (of_decide_eq_true (show decide (i < (xs.length : Int)) = true by assumption)) (show lowP (xs.getD i.toNat 0) = true by assumption)).symm, rfl⟩ rfl (okB2_spec rfl) ⟨⟨⟨_, rfl, .plain rfl rfl (Row.all h1)⟩⟩, trivial⟩ rfl rfl)
    | (exact out_forget [] ⟨congrArg (Value.int IntKind.i64) (hI.fin (of_decide_eq_false (by assumption))).symm, rfl⟩ rfl (okB2_spec rfl) ⟨⟨⟨_, rfl, .plain rfl rfl (Row.all h1)⟩⟩, trivial⟩ rfl rfl)
    | (refine StoreK.mk rfl ?_; conv => whnf)
    | exact join_same
    | exact (by assumption : (_ : Bool) = (_ : Bool))
    | (refine br_true (by assumption) ?_; conv => whnf)
    | (refine br_false (by assumption) ?_; conv => whnf)
    | (refine br_not ?_; conv => whnf)
    | (refine br_code ?_; conv => whnf)
    | (with_reducible refine br_and ?_; conv => whnf)
    | (with_reducible refine br_or ?_; conv => whnf)
    | (refine br_eq2 ?_; conv => whnf)
    | (refine c_impl_AngleOfSequence_1.call ?_; conv => whnf)
    | (refine c_impl_AngleOfSequence_1.quiet ?_; conv => whnf)
    | (refine draw_auto (by decide +kernel) ?_; conv => whnf)
    | (refine draw_asg (by decide +kernel) ?_; conv => whnf)
    | (refine draw_st (by decide +kernel) ?_; conv => whnf)
    | (refine draw_call (by decide +kernel) ?_; conv => whnf)
    | (refine enter_same (loop_n 12 ?_); conv => whnf)
    | (refine next_same ?_; conv => whnf)
    | (refine mapK_row (by assumption) ?_; conv => whnf)
    | (refine mapK_plain (Plain.of rfl) ?_; conv => whnf)
    | (refine mapK_lit ?_; conv => whnf)
    | (refine br_split (fun _ => ?_) (fun _ => ?_) <;> conv => whnf)
    | exact (rfl : (_ : Value) = _)
    | (simp only [*]; exact (rfl : (_ : Value) = _))
    | (simp [*]; done))

theorem c_contains_ang_1 {xs : List Int} {sp : List Value} {n c : Nat} (h1 : Row (il xs) sp n c 1) (hn : n ≤ 1048576) : CallOK Try.prog n_slices_ContainsFunc_int64 [.slice (some ⟨0, 0, none⟩) n c, fnv n_impl_AngleOfSequence_1] [(il xs ++ sp, none)] (fun v m_ => v = bb (xs.any lowP) ∧ m_ = [(il xs ++ sp, none)]) := by
  have e_ := idxI_ge lowP xs 0 (by omega); refine callOK_ofF good fn_slices_ContainsFunc_int64 ?_
  conv => whnf
  all_goals (repeat' first
    | (exact out_forget [] ⟨congrArg Value.bool e_, rfl⟩ rfl (okB2_spec rfl) ⟨⟨⟨_, rfl, .plain rfl rfl (Row.all h1)⟩⟩, trivial⟩ rfl rfl)
    | (refine StoreK.mk rfl ?_; conv => whnf)
    | exact join_same
    | exact (by assumption : (_ : Bool) = (_ : Bool))
    | (refine br_true (by assumption) ?_; conv => whnf)
    | (refine br_false (by assumption) ?_; conv => whnf)
    | (refine br_not ?_; conv => whnf)
    | (refine br_code ?_; conv => whnf)
    | (with_reducible refine br_and ?_; conv => whnf)
    | (with_reducible refine br_or ?_; conv => whnf)
    | (refine br_eq2 ?_; conv => whnf)
    | (refine CallOK.useR (c_index_ang_1 (by first | assumption | exact Row.lit rfl rfl | omega) (by first | assumption | exact Row.lit rfl rfl | omega)) [_] rfl rfl rfl ⟨⟨⟨_, rfl, .plain rfl (fun _ h_ => by first | exact h_ | cases h_) (by first | exact Plain.of rfl | exact Row.all (by assumption))⟩⟩, trivial⟩ (fun v_ mem_ hR => ?_); obtain ⟨rfl, rfl⟩ := hR; refine ⟨rfl, ?_⟩; conv => whnf)
    | (refine draw_auto (by decide +kernel) ?_; conv => whnf)
    | (refine draw_asg (by decide +kernel) ?_; conv => whnf)
    | (refine draw_st (by decide +kernel) ?_; conv => whnf)
    | (refine draw_call (by decide +kernel) ?_; conv => whnf)
    | (refine enter_same (loop_n 12 ?_); conv => whnf)
    | (refine next_same ?_; conv => whnf)
    | (refine mapK_row (by assumption) ?_; conv => whnf)
    | (refine mapK_plain (Plain.of rfl) ?_; conv => whnf)
    | (refine mapK_lit ?_; conv => whnf)
    | (refine br_split (fun _ => ?_) (fun _ => ?_) <;> conv => whnf)
    | exact (rfl : (_ : Value) = _)
    | (simp only [*]; exact (rfl : (_ : Value) = _))
    | (simp [*]; done))

theorem c_impl_AngleOfSequence_2 {n : Int}  : Pure Try.prog n_impl_AngleOfSequence_2 [ii n] (bb (bigP n)) := by
  refine pure_of good fn_impl_AngleOfSequence_2 rfl rfl ?_
  conv => whnf
  all_goals (repeat' first
    | (refine StoreK.mk rfl ?_; conv => whnf)
    | exact join_same
    | exact (by assumption : (_ : Bool) = (_ : Bool))
    | (refine br_true (by assumption) ?_; conv => whnf)
    | (refine br_false (by assumption) ?_; conv => whnf)
    | (refine br_not ?_; conv => whnf)
    | (refine br_code ?_; conv => whnf)
    | (with_reducible refine br_and ?_; conv => whnf)
    | (with_reducible refine br_or ?_; conv => whnf)
    | (refine br_eq2 ?_; conv => whnf)
    | (refine draw_auto (by decide +kernel) ?_; conv => whnf)
    | (refine draw_asg (by decide +kernel) ?_; conv => whnf)
    | (refine draw_st (by decide +kernel) ?_; conv => whnf)
    | (refine draw_call (by decide +kernel) ?_; conv => whnf)
    | (refine enter_same (loop_n 12 ?_); conv => whnf)
    | (refine next_same ?_; conv => whnf)
    | (refine mapK_row (by assumption) ?_; conv => whnf)
    | (refine mapK_plain (Plain.of rfl) ?_; conv => whnf)
    | (refine mapK_lit ?_; conv => whnf)
    | (refine br_split (fun _ => ?_) (fun _ => ?_) <;> conv => whnf)
    | exact (rfl : (_ : Value) = _)
    | (simp only [*]; exact (rfl : (_ : Value) = _))
    | (simp [bigP, *]; done))

theorem c_index_ang_2 {xs : List Int} {sp : List Value} {n c : Nat} (h1 : Row (il xs) sp n c 1) (hn : n ≤ 1048576) : CallOK Try.prog n_slices_IndexFunc_int64 [.slice (some ⟨0, 0, none⟩) n c, fnv n_impl_AngleOfSequence_2] [(il xs ++ sp, none)] (fun v m_ => v = ii (idxI bigP xs 0) ∧ m_ = [(il xs ++ sp, none)]) := by
  obtain rfl := row_il h1; refine callOK_ofF good fn_slices_IndexFunc_int64 ?_
  conv => whnf
  all_goals (repeat' first
    | (refine enter_forget [] (loop_rec (fun (s : Int) => match s with | i => [.slice (some ⟨0, 0, none⟩) xs.length c, fnv n_impl_AngleOfSequence_2, wild, wild, wild, wild, .slice (some ⟨0, 0, none⟩) xs.length c, ii (xs.length : Int), ii i, wild, wild, wild, wild, wild, wild, wild, wild, wild, wild]) (fun (s : Int) => match s with | i => [(il xs ++ sp, none)]) (fun (s : Int) => match s with | i => ((xs.length : Int) - i).toNat) (fun (s : Int) => match s with | i => FirI bigP xs i) (0) (FirI.start bigP xs) ?_) (tmR_rfl rfl rfl) ⟨⟨⟨_, rfl, .plain rfl rfl (Row.all h1)⟩⟩, trivial⟩ rfl rfl; rintro fuel_ i hI IH; replace hI : FirI bigP xs i := hI; conv => whnf)
    | exact next_forget [] (IH (w64 (i + 1)) (by exact hI.next (of_decide_eq_true (show decide (i < (xs.length : Int)) = true by assumption)) hn (show bigP (xs.getD i.toNat 0) = false by assumption)) (by exact hI.mu (of_decide_eq_true (show decide (i < (xs.length : Int)) = true by assumption)) hn)) (tmR_rfl rfl rfl) ⟨⟨⟨_, rfl, .plain rfl rfl (Row.all h1)⟩⟩, trivial⟩ rfl rfl
    | (refine br_in hI.lo (of_decide_eq_true (show decide (i < (xs.length : Int)) = true by assumption)) ?_; conv => whnf)
    | (refine force_eq (take_il (xs := xs) (i := (i).toNat) ?_ ?_) ?_; (focus (simp only [Nat.mul_one, Nat.zero_add]; done)); (focus (have := hI.lo; have := (of_decide_eq_true (show decide (i < (xs.length : Int)) = true by assumption)); omega; done)); conv => whnf)
    | (exact out_forget [] ⟨congrArg (Value.int IntKind.i64) (hI.hit (of_decide_eq_true (show decide (i < (xs.length : Int)) = true by assumption)) (show bigP (xs.getD i.toNat 0) = true by assumption)).symm, rfl⟩ rfl (okB2_spec rfl) ⟨⟨⟨_, rfl, .plain rfl rfl (Row.all h1)⟩⟩, trivial⟩ rfl rfl)
    | (exact out_forget [] ⟨congrArg (Value.int IntKind.i64) (hI.fin (of_decide_eq_false (by assumption))).symm, rfl⟩ rfl (okB2_spec rfl) ⟨⟨⟨_, rfl, .plain rfl rfl (Row.all h1)⟩⟩, trivial⟩ rfl rfl)
    | (refine StoreK.mk rfl ?_; conv => whnf)
    | exact join_same
    | exact (by assumption : (_ : Bool) = (_ : Bool))
    | (refine br_true (by assumption) ?_; conv => whnf)
    | (refine br_false (by assumption) ?_; conv => whnf)
    | (refine br_not ?_; conv => whnf)
    | (refine br_code ?_; conv => whnf)
    | (with_reducible refine br_and ?_; conv => whnf)
    | (with_reducible refine br_or ?_; conv => whnf)
    | (refine br_eq2 ?_; conv => whnf)
    | (refine c_impl_AngleOfSequence_2.call ?_; conv => whnf)
    | (refine c_impl_AngleOfSequence_2.quiet ?_; conv => whnf)
    | (refine draw_auto (by decide +kernel) ?_; conv => whnf)
    | (refine draw_asg (by decide +kernel) ?_; conv => whnf)
    | (refine draw_st (by decide +kernel) ?_; conv => whnf)
    | (refine draw_call (by decide +kernel) ?_; conv => whnf)
    | (refine enter_same (loop_n 12 ?_); conv => whnf)
    | (refine next_same ?_; conv => whnf)
    | (refine mapK_row (by assumption) ?_; conv => whnf)
    | (refine mapK_plain (Plain.of rfl) ?_; conv => whnf)
    | (refine mapK_lit ?_; conv => whnf)
    | (refine br_split (fun _ => ?_) (fun _ => ?_) <;> conv => whnf)
    | exact (rfl : (_ : Value) = _)
    | (simp only [*]; exact (rfl : (_ : Value) = _))
    | (simp [*]; done))

theorem c_contains_ang_2 {xs : List Int} {sp : List Value} {n c : Nat} (h1 : Row (il xs) sp n c 1) (hn : n ≤ 1048576) : CallOK Try.prog n_slices_ContainsFunc_int64 [.slice (some ⟨0, 0, none⟩) n c, fnv n_impl_AngleOfSequence_2] [(il xs ++ sp, none)] (fun v m_ => v = bb (xs.any bigP) ∧ m_ = [(il xs ++ sp, none)]) := by
  have e_ := idxI_ge bigP xs 0 (by omega); refine callOK_ofF good fn_slices_ContainsFunc_int64 ?_
  conv => whnf
  all_goals (repeat' first
    | (exact out_forget [] ⟨congrArg Value.bool e_, rfl⟩ rfl (okB2_spec rfl) ⟨⟨⟨_, rfl, .plain rfl rfl (Row.all h1)⟩⟩, trivial⟩ rfl rfl)
    | (refine StoreK.mk rfl ?_; conv => whnf)
    | exact join_same
    | exact (by assumption : (_ : Bool) = (_ : Bool))
    | (refine br_true (by assumption) ?_; conv => whnf)
    | (refine br_false (by assumption) ?_; conv => whnf)
    | (refine br_not ?_; conv => whnf)
    | (refine br_code ?_; conv => whnf)
    | (with_reducible refine br_and ?_; conv => whnf)
    | (with_reducible refine br_or ?_; conv => whnf)
    | (refine br_eq2 ?_; conv => whnf)
    | (refine CallOK.useR (c_index_ang_2 (by first | assumption | exact Row.lit rfl rfl | omega) (by first | assumption | exact Row.lit rfl rfl | omega)) [_] rfl rfl rfl ⟨⟨⟨_, rfl, .plain rfl (fun _ h_ => by first | exact h_ | cases h_) (by first | exact Plain.of rfl | exact Row.all (by assumption))⟩⟩, trivial⟩ (fun v_ mem_ hR => ?_); obtain ⟨rfl, rfl⟩ := hR; refine ⟨rfl, ?_⟩; conv => whnf)
    | (refine draw_auto (by decide +kernel) ?_; conv => whnf)
    | (refine draw_asg (by decide +kernel) ?_; conv => whnf)
    | (refine draw_st (by decide +kernel) ?_; conv => whnf)
    | (refine draw_call (by decide +kernel) ?_; conv => whnf)
    | (refine enter_same (loop_n 12 ?_); conv => whnf)
    | (refine next_same ?_; conv => whnf)
    | (refine mapK_row (by assumption) ?_; conv => whnf)
    | (refine mapK_plain (Plain.of rfl) ?_; conv => whnf)
    | (refine mapK_lit ?_; conv => whnf)
    | (refine br_split (fun _ => ?_) (fun _ => ?_) <;> conv => whnf)
    | exact (rfl : (_ : Value) = _)
    | (simp only [*]; exact (rfl : (_ : Value) = _))
    | (simp [*]; done))

end Go.Proofs.Ytjakdmfodnpkkaa
