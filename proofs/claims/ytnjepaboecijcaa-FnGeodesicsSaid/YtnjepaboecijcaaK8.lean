/-
  Contracts of functions of the program (printed by a program of this work; Lean checks each).
  Conditions: as each contract states.
-/
import Derived.Test.YtnjepaboecijcaaK7
namespace Go.Proofs.Ytnjepaboecijcaa
open Go.Ev Go.RowKit
set_option maxRecDepth 100000
set_option linter.unusedVariables false
set_option linter.unusedSimpArgs false

theorem c_laws_eqPointS {ps : List (Int × Int)} {sp sq : List Value} {n n2 c c2 : Nat} (h1 : Row (pl ps) sp n c 2) (h2 : Row (pl ps) sq n2 c2 2) (hn : n ≤ 1000000000) : CallOK Try.prog n_laws_eqPointS [.slice (some ⟨0, 0, none⟩) n c, .slice (some ⟨1, 0, none⟩) n2 c2] [(pl ps ++ sp, none), (pl ps ++ sq, none)] (fun v m_ => v = bb true ∧ m_ = [(pl ps ++ sp, none), (pl ps ++ sq, none)]) := by
  obtain rfl := row_same h1 h2 (by decide); refine callOK_ofF good fn_laws_eqPointS ?_
  conv => whnf
  all_goals (repeat' first
    | (refine br_true ?_ ?_; (focus (simp; done)); conv => whnf)
    | (refine br_false ?_ ?_; (focus (simp; done)); conv => whnf)
    | (refine enter_forget [] (loop_rec (fun (s : Int) => match s with | i => [.slice (some ⟨0, 0, none⟩) n c, .slice (some ⟨1, 0, none⟩) n c2, wild, wild, wild, ii i, wild, wild, wild, wild, wild, wild, wild, wild, wild, wild, wild, wild, wild, wild, wild, wild, wild, wild, wild, wild, wild]) (fun (s : Int) => match s with | i => [(pl ps ++ sp, none), (pl ps ++ sq, none)]) (fun (s : Int) => match s with | i => ((n : Int) - i).toNat) (fun (s : Int) => match s with | i => 0 ≤ i ∧ i ≤ (n : Int)) (0) (by (try clear IH); (try simp only [decide_eq_true_eq, decide_eq_false_iff_not, Bool.not_eq_true, Bool.not_eq_false, Bool.not_eq_eq_eq_not, Bool.not_true, Bool.not_false] at *); omega) ?_) (tmR_rfl rfl rfl) ⟨⟨⟨_, rfl, .plain rfl rfl (by first | exact Plain.of rfl | exact Row.all (by assumption))⟩⟩, ⟨⟨_, rfl, .plain rfl rfl (by first | exact Plain.of rfl | exact Row.all (by assumption))⟩⟩, trivial⟩ rfl rfl; rintro fuel_ i hI IH; replace hI : 0 ≤ i ∧ i ≤ (n : Int) := hI; conv => whnf)
    | exact next_forget [] (IH (w64 (i + 1)) (idx_next hI (by assumption) (by omega)) (idx_mu hI (by assumption) (by omega))) (tmR_rfl rfl rfl) ⟨⟨⟨_, rfl, .plain rfl rfl (by first | exact Plain.of rfl | exact Row.all (by assumption))⟩⟩, ⟨⟨_, rfl, .plain rfl rfl (by first | exact Plain.of rfl | exact Row.all (by assumption))⟩⟩, trivial⟩ rfl rfl
    | (refine br_in (by (try clear IH); (try simp only [decide_eq_true_eq, decide_eq_false_iff_not, Bool.not_eq_true, Bool.not_eq_false, Bool.not_eq_eq_eq_not, Bool.not_true, Bool.not_false] at *); omega) (by (try clear IH); (try simp only [decide_eq_true_eq, decide_eq_false_iff_not, Bool.not_eq_true, Bool.not_eq_false, Bool.not_eq_eq_eq_not, Bool.not_true, Bool.not_false] at *); omega) ?_; conv => whnf)
    | (refine force_eq (take_pt (i := (i).toNat) (by omega) (by (try clear IH); have := row_pl h1; (try simp only [decide_eq_true_eq, decide_eq_false_iff_not, Bool.not_eq_true, Bool.not_eq_false, Bool.not_eq_eq_eq_not, Bool.not_true, Bool.not_false] at *); omega)) ?_; conv => whnf)
    | (refine force_eq (take_pt (i := (i).toNat) (by omega) (by (try clear IH); have := row_pl h2; (try simp only [decide_eq_true_eq, decide_eq_false_iff_not, Bool.not_eq_true, Bool.not_eq_false, Bool.not_eq_eq_eq_not, Bool.not_true, Bool.not_false] at *); omega)) ?_; conv => whnf)
    | exact out_forget [] ⟨rfl, rfl⟩ rfl (okB2_spec rfl) ⟨⟨⟨_, rfl, .plain rfl rfl (by first | exact Plain.of rfl | exact Row.all (by assumption))⟩⟩, ⟨⟨_, rfl, .plain rfl rfl (by first | exact Plain.of rfl | exact Row.all (by assumption))⟩⟩, trivial⟩ rfl rfl
    | (refine StoreK.mk rfl ?_; conv => whnf)
    | exact join_same
    | exact (by assumption : (_ : Bool) = (_ : Bool))
    | (refine br_true (by assumption) ?_; conv => whnf)
    | (refine br_false (by assumption) ?_; conv => whnf)
    | (refine br_not ?_; conv => whnf)
    | (refine br_code ?_; conv => whnf)
    | (with_reducible refine br_and ?_; conv => whnf)
    | (with_reducible refine br_or ?_; conv => whnf)
    | (refine br_eq2 ?_; conv => whnf)
    | (refine c_laws_eqPoint.call ?_; conv => whnf)
    | (refine c_laws_eqPoint.quiet ?_; conv => whnf)
    | (refine draw_auto (by decide +kernel) ?_; conv => whnf)
    | (refine draw_asg (by decide +kernel) ?_; conv => whnf)
    | (refine draw_st (by decide +kernel) ?_; conv => whnf)
    | (refine draw_call (by decide +kernel) ?_; conv => whnf)
    | (refine enter_same (loop_n 12 ?_); conv => whnf)
    | (refine next_same ?_; conv => whnf)
    | (refine mapK_row (by assumption) ?_; conv => whnf)
    | (refine mapK_plain (Plain.of rfl) ?_; conv => whnf)
    | (refine mapK_lit ?_; conv => whnf)
    | (refine br_split (fun _ => ?_) (fun _ => ?_) <;> conv => whnf)
    | exact (rfl : (_ : Value) = _)
    | (simp only [*]; exact (rfl : (_ : Value) = _))
    | (simp [*]; done))

theorem c_laws_markPointS {L sp : List Value} {n c : Nat} {k : Int} (h1 : Row L sp n c 2) (hn : n ≤ 1000000000) (hk : 0 ≤ k ∧ k ≤ 1000000000) : CallOK Try.prog n_laws_markPointS [.slice (some ⟨0, 0, none⟩) n c, ii k] [(L ++ sp, some t_impl_Point)] (fun v m_ => ∃ sq, Row (marks k (n * 2)) sq n c 2 ∧ v = ii (k + 2 * (n : Int)) ∧ m_ = [(marks k (n * 2) ++ sq, some t_impl_Point)]) := by
  refine callOK_ofF good fn_laws_markPointS ?_
  conv => whnf
  all_goals (repeat' first
    | (refine enter_forget [] (loop_rec (fun (s : Int × Int × (List Value)) => match s with | (i, q, C) => [.slice (some ⟨0, 0, none⟩) n c, ii q, wild, wild, wild, ii i, wild, wild, wild, wild, wild, wild, wild, wild, wild, wild, wild, wild, wild, wild, wild, wild, wild, wild, wild, wild]) (fun (s : Int × Int × (List Value)) => match s with | (i, q, C) => [(C, some t_impl_Point)]) (fun (s : Int × Int × (List Value)) => match s with | (i, q, C) => ((n : Int) - i).toNat) (fun (s : Int × Int × (List Value)) => match s with | (i, q, C) => MarkI k n c 2 i q C) (0, k, L ++ sp) (MarkI.start h1) ?_) (tmR_rfl rfl rfl) ⟨⟨⟨_, rfl, .plain rfl rfl (by first | exact Plain.of rfl | exact Row.all (by assumption))⟩⟩, trivial⟩ rfl rfl; rintro fuel_ ⟨i, q, C⟩ hI IH; replace hI : MarkI k n c 2 i q C := hI; conv => whnf)
    | exact next_forget [] (IH (w64 (i + 1), _, _) (by exact hI.next2 (h1.le (by decide)) (of_decide_eq_true (by assumption)) hn hk (by omega) (by (try simp only [show w64 (0 + 1) = 1 from rfl]); omega) rfl) (by exact idx_mu ⟨hI.lo, hI.hi⟩ (by assumption) (by omega))) (tmR_rfl rfl rfl) ⟨⟨⟨_, rfl, .plain rfl rfl (by exact (hI.pl.set rfl _).set rfl _)⟩⟩, trivial⟩ rfl rfl
    | (refine br_in (by (try clear IH); have := hI.lo; have := hI.hi; (try simp only [decide_eq_true_eq, decide_eq_false_iff_not, Bool.not_eq_true, Bool.not_eq_false, Bool.not_eq_eq_eq_not, Bool.not_true, Bool.not_false] at *); omega) (by (try clear IH); have := hI.lo; have := hI.hi; (try simp only [decide_eq_true_eq, decide_eq_false_iff_not, Bool.not_eq_true, Bool.not_eq_false, Bool.not_eq_eq_eq_not, Bool.not_true, Bool.not_false] at *); omega) ?_; conv => whnf)
    | (refine br_store1 rfl (by (try clear IH); have := hI.len; have := hI.lo; have := hI.hi; have := h1.le (by decide); (try simp only [List.length_set, show w64 (0 + 1) = 1 from rfl, decide_eq_true_eq, decide_eq_false_iff_not, Bool.not_eq_true, Bool.not_eq_false, Bool.not_eq_eq_eq_not, Bool.not_true, Bool.not_false] at *); omega) ?_; conv => whnf)
    | (refine force_set (by (try clear IH); have := hI.len; have := hI.lo; have := hI.hi; have := h1.le (by decide); (try simp only [List.length_set, show w64 (0 + 1) = 1 from rfl, decide_eq_true_eq, decide_eq_false_iff_not, Bool.not_eq_true, Bool.not_eq_false, Bool.not_eq_eq_eq_not, Bool.not_true, Bool.not_false] at *); omega) ?_; conv => whnf)
    | exact out_forget [] ⟨_, (hI.fin (of_decide_eq_false (by assumption))).2.2.2 (h1.le (by decide)), congrArg (Value.int IntKind.i64) (hI.fin (of_decide_eq_false (by assumption))).1, rfl⟩ rfl (okB2_spec rfl) ⟨⟨⟨_, rfl, .plain (hI.fin (of_decide_eq_false (by assumption))).2.1 rfl ((marks_plain _ _).app (hI.fin (of_decide_eq_false (by assumption))).2.2.1)⟩⟩, trivial⟩ rfl rfl
    | (refine StoreK.mk rfl ?_; conv => whnf)
    | exact join_same
    | exact (by assumption : (_ : Bool) = (_ : Bool))
    | (refine br_true (by assumption) ?_; conv => whnf)
    | (refine br_false (by assumption) ?_; conv => whnf)
    | (refine br_not ?_; conv => whnf)
    | (refine br_code ?_; conv => whnf)
    | (with_reducible refine br_and ?_; conv => whnf)
    | (with_reducible refine br_or ?_; conv => whnf)
    | (refine br_eq2 ?_; conv => whnf)
    | (refine draw_auto (by decide +kernel) ?_; conv => whnf)
    | (refine draw_asg (by decide +kernel) ?_; conv => whnf)
    | (refine draw_st (by decide +kernel) ?_; conv => whnf)
    | (refine draw_call (by decide +kernel) ?_; conv => whnf)
    | (refine enter_same (loop_n 12 ?_); conv => whnf)
    | (refine next_same ?_; conv => whnf)
    | (refine mapK_row (by assumption) ?_; conv => whnf)
    | (refine mapK_plain (Plain.of rfl) ?_; conv => whnf)
    | (refine mapK_lit ?_; conv => whnf)
    | (refine br_split (fun _ => ?_) (fun _ => ?_) <;> conv => whnf)
    | exact (rfl : (_ : Value) = _)
    | (simp only [*]; exact (rfl : (_ : Value) = _))
    | (simp [*]; done))

theorem c_laws_heldPointS {sp : List Value} {n c : Nat} {k : Int} (h1 : Row (marks k (n * 2)) sp n c 2) (hn : n ≤ 1000000000) (hk : 0 ≤ k ∧ k ≤ 1000000000) : CallOK Try.prog n_laws_heldPointS [.slice (some ⟨0, 0, none⟩) n c, ii k] [(marks k (n * 2) ++ sp, none)] (fun v m_ => v = ii (k + 2 * (n : Int)) ∧ m_ = [(marks k (n * 2) ++ sp, none)]) := by
  refine callOK_ofF good fn_laws_heldPointS ?_
  conv => whnf
  all_goals (repeat' first
    | (refine enter_forget [] (loop_rec (fun (s : Int × Int) => match s with | (i, q) => [.slice (some ⟨0, 0, none⟩) n c, ii q, wild, wild, wild, ii i, wild, wild, wild, wild, wild, wild, wild, wild, wild, wild, wild, wild, wild, wild, wild, wild, wild, wild, wild, wild, wild, wild]) (fun (s : Int × Int) => match s with | (i, q) => [(marks k (n * 2) ++ sp, none)]) (fun (s : Int × Int) => match s with | (i, q) => ((n : Int) - i).toNat) (fun (s : Int × Int) => match s with | (i, q) => 0 ≤ i ∧ i ≤ (n : Int) ∧ q = k + 2 * i) (0, k) (by omega) ?_) (tmR_rfl rfl rfl) ⟨⟨⟨_, rfl, .plain rfl rfl (by first | exact Plain.of rfl | exact Row.all (by assumption))⟩⟩, trivial⟩ rfl rfl; rintro fuel_ ⟨i, q⟩ hI IH; replace hI : 0 ≤ i ∧ i ≤ (n : Int) ∧ q = k + 2 * i := hI; conv => whnf)
    | exact next_forget [] (IH (w64 (i + 1), _) (by exact held_next2 hI (of_decide_eq_true (by assumption)) hn hk) (by exact idx_mu ⟨hI.1, hI.2.1⟩ (by assumption) (by omega))) (tmR_rfl rfl rfl) ⟨⟨⟨_, rfl, .plain rfl rfl (by first | exact Plain.of rfl | exact Row.all (by assumption))⟩⟩, trivial⟩ rfl rfl
    | (refine br_in (by (try clear IH); (try simp only [decide_eq_true_eq, decide_eq_false_iff_not, Bool.not_eq_true, Bool.not_eq_false, Bool.not_eq_eq_eq_not, Bool.not_true, Bool.not_false] at *); omega) (by (try clear IH); (try simp only [decide_eq_true_eq, decide_eq_false_iff_not, Bool.not_eq_true, Bool.not_eq_false, Bool.not_eq_eq_eq_not, Bool.not_true, Bool.not_false] at *); omega) ?_; conv => whnf)
    | (refine force_eq (take_marks (by (try clear IH); have := h1.len; rw [marks_len] at this; (try simp only [show w64 (0 + 1) = 1 from rfl, decide_eq_true_eq, decide_eq_false_iff_not, Bool.not_eq_true, Bool.not_eq_false, Bool.not_eq_eq_eq_not, Bool.not_true, Bool.not_false] at *); omega)) ?_; conv => whnf)
    | (refine br_not (br_true (decide_eq_true (by (try clear IH); (try simp only [show w64 (0 + 1) = 1 from rfl, decide_eq_true_eq, decide_eq_false_iff_not, Bool.not_eq_true, Bool.not_eq_false, Bool.not_eq_eq_eq_not, Bool.not_true, Bool.not_false] at *); (try rw [w64_in (by omega) (by omega)]); omega)) ?_); conv => whnf)
    | exact out_forget [] ⟨congrArg (Value.int IntKind.i64) (held_fin hI (of_decide_eq_false (by assumption))), rfl⟩ rfl (okB2_spec rfl) ⟨⟨⟨_, rfl, .plain rfl rfl (by first | exact Plain.of rfl | exact Row.all (by assumption))⟩⟩, trivial⟩ rfl rfl
    | (refine StoreK.mk rfl ?_; conv => whnf)
    | exact join_same
    | exact (by assumption : (_ : Bool) = (_ : Bool))
    | (refine br_true (by assumption) ?_; conv => whnf)
    | (refine br_false (by assumption) ?_; conv => whnf)
    | (refine br_not ?_; conv => whnf)
    | (refine br_code ?_; conv => whnf)
    | (with_reducible refine br_and ?_; conv => whnf)
    | (with_reducible refine br_or ?_; conv => whnf)
    | (refine br_eq2 ?_; conv => whnf)
    | (refine draw_auto (by decide +kernel) ?_; conv => whnf)
    | (refine draw_asg (by decide +kernel) ?_; conv => whnf)
    | (refine draw_st (by decide +kernel) ?_; conv => whnf)
    | (refine draw_call (by decide +kernel) ?_; conv => whnf)
    | (refine enter_same (loop_n 12 ?_); conv => whnf)
    | (refine next_same ?_; conv => whnf)
    | (refine mapK_row (by assumption) ?_; conv => whnf)
    | (refine mapK_plain (Plain.of rfl) ?_; conv => whnf)
    | (refine mapK_lit ?_; conv => whnf)
    | (refine br_split (fun _ => ?_) (fun _ => ?_) <;> conv => whnf)
    | exact (rfl : (_ : Value) = _)
    | (simp only [*]; exact (rfl : (_ : Value) = _))
    | (simp [*]; done))

theorem c_eqPointS_nil   : Pure Try.prog n_laws_eqPointS [.slice none 0 0, .slice none 0 0] (bb true) := by
  refine pure_of good fn_laws_eqPointS rfl rfl ?_
  conv => whnf
  all_goals (repeat' first
    | (refine StoreK.mk rfl ?_; conv => whnf)
    | exact join_same
    | exact (by assumption : (_ : Bool) = (_ : Bool))
    | (refine br_true (by assumption) ?_; conv => whnf)
    | (refine br_false (by assumption) ?_; conv => whnf)
    | (refine br_not ?_; conv => whnf)
    | (refine br_code ?_; conv => whnf)
    | (with_reducible refine br_and ?_; conv => whnf)
    | (with_reducible refine br_or ?_; conv => whnf)
    | (refine br_eq2 ?_; conv => whnf)
    | (refine c_laws_eqPoint.call ?_; conv => whnf)
    | (refine c_laws_eqPoint.quiet ?_; conv => whnf)
    | (refine draw_auto (by decide +kernel) ?_; conv => whnf)
    | (refine draw_asg (by decide +kernel) ?_; conv => whnf)
    | (refine draw_st (by decide +kernel) ?_; conv => whnf)
    | (refine draw_call (by decide +kernel) ?_; conv => whnf)
    | (refine enter_same (loop_n 12 ?_); conv => whnf)
    | (refine next_same ?_; conv => whnf)
    | (refine mapK_row (by assumption) ?_; conv => whnf)
    | (refine mapK_plain (Plain.of rfl) ?_; conv => whnf)
    | (refine mapK_lit ?_; conv => whnf)
    | (refine br_split (fun _ => ?_) (fun _ => ?_) <;> conv => whnf)
    | exact (rfl : (_ : Value) = _)
    | (simp only [*]; exact (rfl : (_ : Value) = _))
    | (simp [*]; done))

theorem c_markPointS_nil   : Pure Try.prog n_laws_markPointS [.slice none 0 0, ii 1] (ii 1) := by
  refine pure_of good fn_laws_markPointS rfl rfl ?_
  conv => whnf
  all_goals (repeat' first
    | (refine StoreK.mk rfl ?_; conv => whnf)
    | exact join_same
    | exact (by assumption : (_ : Bool) = (_ : Bool))
    | (refine br_true (by assumption) ?_; conv => whnf)
    | (refine br_false (by assumption) ?_; conv => whnf)
    | (refine br_not ?_; conv => whnf)
    | (refine br_code ?_; conv => whnf)
    | (with_reducible refine br_and ?_; conv => whnf)
    | (with_reducible refine br_or ?_; conv => whnf)
    | (refine br_eq2 ?_; conv => whnf)
    | (refine draw_auto (by decide +kernel) ?_; conv => whnf)
    | (refine draw_asg (by decide +kernel) ?_; conv => whnf)
    | (refine draw_st (by decide +kernel) ?_; conv => whnf)
    | (refine draw_call (by decide +kernel) ?_; conv => whnf)
    | (refine enter_same (loop_n 12 ?_); conv => whnf)
    | (refine next_same ?_; conv => whnf)
    | (refine mapK_row (by assumption) ?_; conv => whnf)
    | (refine mapK_plain (Plain.of rfl) ?_; conv => whnf)
    | (refine mapK_lit ?_; conv => whnf)
    | (refine br_split (fun _ => ?_) (fun _ => ?_) <;> conv => whnf)
    | exact (rfl : (_ : Value) = _)
    | (simp only [*]; exact (rfl : (_ : Value) = _))
    | (simp [*]; done))

theorem c_heldPointS_nil   : Pure Try.prog n_laws_heldPointS [.slice none 0 0, ii 1] (ii 1) := by
  refine pure_of good fn_laws_heldPointS rfl rfl ?_
  conv => whnf
  all_goals (repeat' first
    | (refine StoreK.mk rfl ?_; conv => whnf)
    | exact join_same
    | exact (by assumption : (_ : Bool) = (_ : Bool))
    | (refine br_true (by assumption) ?_; conv => whnf)
    | (refine br_false (by assumption) ?_; conv => whnf)
    | (refine br_not ?_; conv => whnf)
    | (refine br_code ?_; conv => whnf)
    | (with_reducible refine br_and ?_; conv => whnf)
    | (with_reducible refine br_or ?_; conv => whnf)
    | (refine br_eq2 ?_; conv => whnf)
    | (refine draw_auto (by decide +kernel) ?_; conv => whnf)
    | (refine draw_asg (by decide +kernel) ?_; conv => whnf)
    | (refine draw_st (by decide +kernel) ?_; conv => whnf)
    | (refine draw_call (by decide +kernel) ?_; conv => whnf)
    | (refine enter_same (loop_n 12 ?_); conv => whnf)
    | (refine next_same ?_; conv => whnf)
    | (refine mapK_row (by assumption) ?_; conv => whnf)
    | (refine mapK_plain (Plain.of rfl) ?_; conv => whnf)
    | (refine mapK_lit ?_; conv => whnf)
    | (refine br_split (fun _ => ?_) (fun _ => ?_) <;> conv => whnf)
    | exact (rfl : (_ : Value) = _)
    | (simp only [*]; exact (rfl : (_ : Value) = _))
    | (simp [*]; done))

end Go.Proofs.Ytnjepaboecijcaa
