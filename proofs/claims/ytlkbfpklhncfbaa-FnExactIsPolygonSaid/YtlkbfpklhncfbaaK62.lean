/-
  Contracts of functions of the program (printed by a program of this work; Lean checks each).
  Conditions: as each contract states.
-/
import Derived.Test.YtlkbfpklhncfbaaK8
import Derived.Test.YtlkbfpklhncfbaaK2
import Derived.Test.YtlkbfpklhncfbaaPol
import Derived.Test.YtlkbfpklhncfbaaArg
import Derived.Test.YtlkbfpklhncfbaaUseD
namespace Go.Proofs.Ytlkbfpklhncfbaa
open Go.Ev Go.RowKit
set_option maxRecDepth 100000
set_option linter.unusedVariables false
set_option linter.unusedSimpArgs false

attribute [local irreducible] isPtF smallF plusF detF

theorem c_impl_turn {a b c d e f : Int}  : Pure Try.prog n_impl_turn [pt a b, pt c d, pt e f] (ii (trnF a b c d e f)) := by
  refine pure_of good fn_impl_turn rfl rfl ?_
  conv => whnf
  all_goals (repeat' first
    | (refine StoreK.mk rfl ?_; conv => whnf)
    | exact join_same
    | exact (by assumption : (_ : Bool) = (_ : Bool))
    | (refine br_true (by assumption) ?_; conv => whnf)
    | (refine br_false (by assumption) ?_; conv => whnf)
    | (refine br_not ?_; conv => whnf)
    | (refine br_code ?_; conv => whnf)
    | (with_reducible refine br_and ?_; conv => whnf)
    | (with_reducible refine br_or ?_; conv => whnf)
    | (refine br_eq2 ?_; conv => whnf)
    | (refine c_impl_Point_less.call ?_; conv => whnf)
    | (refine c_impl_Point_less.quiet ?_; conv => whnf)
    | (refine c_impl_det.call ?_; conv => whnf)
    | (refine c_impl_det.quiet ?_; conv => whnf)
    | (refine draw_auto (by decide +kernel) ?_; conv => whnf)
    | (refine draw_asg (by decide +kernel) ?_; conv => whnf)
    | (refine draw_st (by decide +kernel) ?_; conv => whnf)
    | (refine draw_call (by decide +kernel) ?_; conv => whnf)
    | (refine enter_same (loop_n 12 ?_); conv => whnf)
    | (refine next_same ?_; conv => whnf)
    | (refine mapK_row (by assumption) ?_; conv => whnf)
    | (refine mapK_plain (Plain.of rfl) ?_; conv => whnf)
    | (refine mapK_lit ?_; conv => whnf)
    | (refine br_split (fun _ => ?_) (fun _ => ?_) <;> conv => whnf)
    | exact (rfl : (_ : Value) = _)
    | (simp only [*]; exact (rfl : (_ : Value) = _))
    | (simp [*]; done))

theorem c_spec_l09Side {a b c d e f : Int}  : Pure Try.prog n_spec_l09Side [pt a b, pt c d, pt e f] (ii (trnF a b c d e f)) := by
  refine pure_of good fn_spec_l09Side rfl rfl ?_
  conv => whnf
  all_goals (repeat' first
    | (refine StoreK.mk rfl ?_; conv => whnf)
    | exact join_same
    | exact (by assumption : (_ : Bool) = (_ : Bool))
    | (refine br_true (by assumption) ?_; conv => whnf)
    | (refine br_false (by assumption) ?_; conv => whnf)
    | (refine br_not ?_; conv => whnf)
    | (refine br_code ?_; conv => whnf)
    | (with_reducible refine br_and ?_; conv => whnf)
    | (with_reducible refine br_or ?_; conv => whnf)
    | (refine br_eq2 ?_; conv => whnf)
    | (refine c_spec_l01Plus.call ?_; conv => whnf)
    | (refine c_spec_l01Plus.quiet ?_; conv => whnf)
    | (refine c_spec_l01Det.call ?_; conv => whnf)
    | (refine c_spec_l01Det.quiet ?_; conv => whnf)
    | (refine draw_auto (by decide +kernel) ?_; conv => whnf)
    | (refine draw_asg (by decide +kernel) ?_; conv => whnf)
    | (refine draw_st (by decide +kernel) ?_; conv => whnf)
    | (refine draw_call (by decide +kernel) ?_; conv => whnf)
    | (refine enter_same (loop_n 12 ?_); conv => whnf)
    | (refine next_same ?_; conv => whnf)
    | (refine mapK_row (by assumption) ?_; conv => whnf)
    | (refine mapK_plain (Plain.of rfl) ?_; conv => whnf)
    | (refine mapK_lit ?_; conv => whnf)
    | (refine br_split (fun _ => ?_) (fun _ => ?_) <;> conv => whnf)
    | exact (rfl : (_ : Value) = _)
    | (simp only [*]; exact (rfl : (_ : Value) = _))
    | (simp [*]; done))

theorem c_spec_l09Half {a b : Int}  : Pure Try.prog n_spec_l09Half [pt a b] (ii (halfF a b)) := by
  refine pure_of good fn_spec_l09Half rfl rfl ?_
  conv => whnf
  all_goals (repeat' first
    | (refine StoreK.mk rfl ?_; conv => whnf)
    | exact join_same
    | exact (by assumption : (_ : Bool) = (_ : Bool))
    | (refine br_true (by assumption) ?_; conv => whnf)
    | (refine br_false (by assumption) ?_; conv => whnf)
    | (refine br_not ?_; conv => whnf)
    | (refine br_code ?_; conv => whnf)
    | (with_reducible refine br_and ?_; conv => whnf)
    | (with_reducible refine br_or ?_; conv => whnf)
    | (refine br_eq2 ?_; conv => whnf)
    | (refine draw_auto (by decide +kernel) ?_; conv => whnf)
    | (refine draw_asg (by decide +kernel) ?_; conv => whnf)
    | (refine draw_st (by decide +kernel) ?_; conv => whnf)
    | (refine draw_call (by decide +kernel) ?_; conv => whnf)
    | (refine enter_same (loop_n 12 ?_); conv => whnf)
    | (refine next_same ?_; conv => whnf)
    | (refine mapK_row (by assumption) ?_; conv => whnf)
    | (refine mapK_plain (Plain.of rfl) ?_; conv => whnf)
    | (refine mapK_lit ?_; conv => whnf)
    | (refine br_split (fun _ => ?_) (fun _ => ?_) <;> conv => whnf)
    | exact (rfl : (_ : Value) = _)
    | (simp only [*]; exact (rfl : (_ : Value) = _))
    | (simp [halfF, selF, *]; done))

theorem c_impl_IsPolygon_1 {a b : Int}  : Pure Try.prog n_impl_IsPolygon_1 [pt a b] (bb (nsm (a, b))) := by
  refine pure_of good fn_impl_IsPolygon_1 rfl rfl ?_
  conv => whnf
  all_goals (repeat' first
    | (refine StoreK.mk rfl ?_; conv => whnf)
    | exact join_same
    | exact (by assumption : (_ : Bool) = (_ : Bool))
    | (refine br_true (by assumption) ?_; conv => whnf)
    | (refine br_false (by assumption) ?_; conv => whnf)
    | (refine br_not ?_; conv => whnf)
    | (refine br_code ?_; conv => whnf)
    | (with_reducible refine br_and ?_; conv => whnf)
    | (with_reducible refine br_or ?_; conv => whnf)
    | (refine br_eq2 ?_; conv => whnf)
    | (refine c_impl_small.call ?_; conv => whnf)
    | (refine c_impl_small.quiet ?_; conv => whnf)
    | (refine draw_auto (by decide +kernel) ?_; conv => whnf)
    | (refine draw_asg (by decide +kernel) ?_; conv => whnf)
    | (refine draw_st (by decide +kernel) ?_; conv => whnf)
    | (refine draw_call (by decide +kernel) ?_; conv => whnf)
    | (refine enter_same (loop_n 12 ?_); conv => whnf)
    | (refine next_same ?_; conv => whnf)
    | (refine mapK_row (by assumption) ?_; conv => whnf)
    | (refine mapK_plain (Plain.of rfl) ?_; conv => whnf)
    | (refine mapK_lit ?_; conv => whnf)
    | (refine br_split (fun _ => ?_) (fun _ => ?_) <;> conv => whnf)
    | exact (rfl : (_ : Value) = _)
    | (simp only [*]; exact (rfl : (_ : Value) = _))
    | (simp [nsm, *]; done))

attribute [local irreducible] nsm trnF halfF

theorem c_index_poly {P : List (Int × Int)} {sp : List Value} {n c : Nat} (h1 : Row (pl P) sp n c 2) (hn : n ≤ 1048576) : CallOK Try.prog n_slices_IndexFunc_Point [.slice (some ⟨0, 0, none⟩) n c, fnv n_impl_IsPolygon_1] [(pl P ++ sp, none)] (fun v m_ => v = ii (idxQ nsm P 0) ∧ m_ = [(pl P ++ sp, none)]) := by
  obtain rfl := row_pl h1; refine callOK_ofF good fn_slices_IndexFunc_Point ?_
  conv => whnf
  all_goals (repeat' first
    | (refine enter_forget [] (loop_rec (fun (s : Int) => match s with | i => [.slice (some ⟨0, 0, none⟩) P.length c, fnv n_impl_IsPolygon_1, wild, wild, wild, wild, .slice (some ⟨0, 0, none⟩) P.length c, ii (P.length : Int), ii i, wild, wild, wild, wild, wild, wild, wild, wild, wild, wild]) (fun (s : Int) => match s with | i => [(pl P ++ sp, none)]) (fun (s : Int) => match s with | i => ((P.length : Int) - i).toNat) (fun (s : Int) => match s with | i => FirQ nsm P i) (0) (FirQ.start nsm P) ?_) (tmR_rfl rfl rfl) ⟨⟨⟨_, rfl, .plain rfl rfl (Row.all h1)⟩⟩, trivial⟩ rfl rfl; rintro fuel_ i hI IH; replace hI : FirQ nsm P i := hI; conv => whnf)
    | exact next_forget [] (IH (w64 (i + 1)) (by exact hI.next (of_decide_eq_true (show decide (i < (P.length : Int)) = true by assumption)) hn (show nsm (P.getD i.toNat (0, 0)) = false by assumption)) (by exact hI.mu (of_decide_eq_true (show decide (i < (P.length : Int)) = true by assumption)) hn)) (tmR_rfl rfl rfl) ⟨⟨⟨_, rfl, .plain rfl rfl (Row.all h1)⟩⟩, trivial⟩ rfl rfl
    | (refine br_in hI.lo (of_decide_eq_true (show decide (i < (P.length : Int)) = true by assumption)) ?_; conv => whnf)
    | (refine force_eq (take_pt (ps := P) (i := (i).toNat) ?_ ?_) ?_; (focus (simp only [Nat.zero_add]; done)); (focus (have := hI.lo; have := (of_decide_eq_true (show decide (i < (P.length : Int)) = true by assumption)); omega; done)); conv => whnf)
    | (exact out_forget [] ⟨congrArg (Value.int IntKind.i64) (hI.hit (of_decide_eq_true (show decide (i < (P.length : Int)) = true by assumption)) (show nsm (P.getD i.toNat (0, 0)) = true by assumption)).symm, rfl⟩ rfl (okB2_spec rfl) ⟨⟨⟨_, rfl, .plain rfl rfl (Row.all h1)⟩⟩, trivial⟩ rfl rfl)
    | (exact out_forget [] ⟨congrArg (Value.int IntKind.i64) (hI.fin (of_decide_eq_false (by assumption))).symm, rfl⟩ rfl (okB2_spec rfl) ⟨⟨⟨_, rfl, .plain rfl rfl (Row.all h1)⟩⟩, trivial⟩ rfl rfl)
    | (refine StoreK.mk rfl ?_; conv => whnf)
    | exact join_same
    | exact (by assumption : (_ : Bool) = (_ : Bool))
    | (refine br_true (by assumption) ?_; conv => whnf)
    | (refine br_false (by assumption) ?_; conv => whnf)
    | (refine br_not ?_; conv => whnf)
    | (refine br_code ?_; conv => whnf)
    | (with_reducible refine br_and ?_; conv => whnf)
    | (with_reducible refine br_or ?_; conv => whnf)
    | (refine br_eq2 ?_; conv => whnf)
    | (refine c_impl_IsPolygon_1.call ?_; conv => whnf)
    | (refine c_impl_IsPolygon_1.quiet ?_; conv => whnf)
    | (refine draw_auto (by decide +kernel) ?_; conv => whnf)
    | (refine draw_asg (by decide +kernel) ?_; conv => whnf)
    | (refine draw_st (by decide +kernel) ?_; conv => whnf)
    | (refine draw_call (by decide +kernel) ?_; conv => whnf)
    | (refine enter_same (loop_n 12 ?_); conv => whnf)
    | (refine next_same ?_; conv => whnf)
    | (refine mapK_row (by assumption) ?_; conv => whnf)
    | (refine mapK_plain (Plain.of rfl) ?_; conv => whnf)
    | (refine mapK_lit ?_; conv => whnf)
    | (refine br_split (fun _ => ?_) (fun _ => ?_) <;> conv => whnf)
    | exact (rfl : (_ : Value) = _)
    | (simp only [*]; exact (rfl : (_ : Value) = _))
    | (simp [*]; done))

theorem c_contains_poly {P : List (Int × Int)} {sp : List Value} {n c : Nat} (h1 : Row (pl P) sp n c 2) (hn : n ≤ 1048576) : CallOK Try.prog n_slices_ContainsFunc_Point [.slice (some ⟨0, 0, none⟩) n c, fnv n_impl_IsPolygon_1] [(pl P ++ sp, none)] (fun v m_ => v = bb (P.any nsm) ∧ m_ = [(pl P ++ sp, none)]) := by
  have e_ := idxQ_ge nsm P 0 (by omega); refine callOK_ofF good fn_slices_ContainsFunc_Point ?_
  conv => whnf
  all_goals (repeat' first
    | (exact out_forget [] ⟨congrArg Value.bool e_, rfl⟩ rfl (okB2_spec rfl) ⟨⟨⟨_, rfl, .plain rfl rfl (Row.all h1)⟩⟩, trivial⟩ rfl rfl)
    | (refine StoreK.mk rfl ?_; conv => whnf)
    | exact join_same
    | exact (by assumption : (_ : Bool) = (_ : Bool))
    | (refine br_true (by assumption) ?_; conv => whnf)
    | (refine br_false (by assumption) ?_; conv => whnf)
    | (refine br_not ?_; conv => whnf)
    | (refine br_code ?_; conv => whnf)
    | (with_reducible refine br_and ?_; conv => whnf)
    | (with_reducible refine br_or ?_; conv => whnf)
    | (refine br_eq2 ?_; conv => whnf)
    | (refine CallOK.useR (c_index_poly (by first | assumption | exact Row.lit rfl rfl | omega) (by first | assumption | exact Row.lit rfl rfl | omega)) [_] rfl rfl rfl ⟨⟨⟨_, rfl, .plain rfl (fun _ h_ => by first | exact h_ | cases h_) (by first | exact Plain.of rfl | exact Row.all (by assumption))⟩⟩, trivial⟩ (fun v_ mem_ hR => ?_); obtain ⟨rfl, rfl⟩ := hR; refine ⟨rfl, ?_⟩; conv => whnf)
    | (refine draw_auto (by decide +kernel) ?_; conv => whnf)
    | (refine draw_asg (by decide +kernel) ?_; conv => whnf)
    | (refine draw_st (by decide +kernel) ?_; conv => whnf)
    | (refine draw_call (by decide +kernel) ?_; conv => whnf)
    | (refine enter_same (loop_n 12 ?_); conv => whnf)
    | (refine next_same ?_; conv => whnf)
    | (refine mapK_row (by assumption) ?_; conv => whnf)
    | (refine mapK_plain (Plain.of rfl) ?_; conv => whnf)
    | (refine mapK_lit ?_; conv => whnf)
    | (refine br_split (fun _ => ?_) (fun _ => ?_) <;> conv => whnf)
    | exact (rfl : (_ : Value) = _)
    | (simp only [*]; exact (rfl : (_ : Value) = _))
    | (simp [*]; done))

theorem c_next {P : List (Int × Int)} {sp : List Value} {n c : Nat} {i : Int} (h1 : Row (pl P) sp n c 2) (hn : n ≤ 12) (hi0 : 0 ≤ i) (hin : i < (n : Int)) : CallOK Try.prog n_impl_polygon_next [.slice (some ⟨0, 0, none⟩) n c, ii i] [(pl P ++ sp, none)] (fun v m_ => v = pt (pn P (i.toNat + 1)).1 (pn P (i.toNat + 1)).2 ∧ m_ = [(pl P ++ sp, none)]) := by
  obtain rfl := row_pl h1; have e1_ : w64 (i + 1) = i + 1 := w64_in (by omega) (by omega); have e2_ := mod_at (i := i) (k := 1) (n := P.length) hi0 (by omega) (by omega); rw [← e1_] at e2_; refine callOK_ofF good fn_impl_polygon_next ?_
  conv => whnf
  all_goals (repeat' first
    | (refine br_false (decide_eq_false (by omega)) ?_; conv => whnf)
    | (refine br_in e2_.1 e2_.2.1 ?_; conv => whnf)
    | (refine force_eq (take_pt (ps := P) (i := ((w64 (i + 1)).tmod (P.length : Int)).toNat) ?_ ?_) ?_; (focus (simp only [Nat.zero_add]; done)); (focus (have := e2_.1; have := e2_.2.1; omega)); conv => whnf)
    | (rw [e2_.2.2]; exact out_forget [] ⟨rfl, rfl⟩ rfl (okB2_spec rfl) ⟨⟨⟨_, rfl, .plain rfl rfl (Row.all h1)⟩⟩, trivial⟩ rfl rfl)
    | (refine StoreK.mk rfl ?_; conv => whnf)
    | exact join_same
    | exact (by assumption : (_ : Bool) = (_ : Bool))
    | (refine br_true (by assumption) ?_; conv => whnf)
    | (refine br_false (by assumption) ?_; conv => whnf)
    | (refine br_not ?_; conv => whnf)
    | (refine br_code ?_; conv => whnf)
    | (with_reducible refine br_and ?_; conv => whnf)
    | (with_reducible refine br_or ?_; conv => whnf)
    | (refine br_eq2 ?_; conv => whnf)
    | (refine draw_auto (by decide +kernel) ?_; conv => whnf)
    | (refine draw_asg (by decide +kernel) ?_; conv => whnf)
    | (refine draw_st (by decide +kernel) ?_; conv => whnf)
    | (refine draw_call (by decide +kernel) ?_; conv => whnf)
    | (refine enter_same (loop_n 12 ?_); conv => whnf)
    | (refine next_same ?_; conv => whnf)
    | (refine mapK_row (by assumption) ?_; conv => whnf)
    | (refine mapK_plain (Plain.of rfl) ?_; conv => whnf)
    | (refine mapK_lit ?_; conv => whnf)
    | (refine br_split (fun _ => ?_) (fun _ => ?_) <;> conv => whnf)
    | exact (rfl : (_ : Value) = _)
    | (simp only [*]; exact (rfl : (_ : Value) = _))
    | (simp [*]; done))

set_option maxHeartbeats 1000000 in
theorem c_convex {P : List (Int × Int)} {sp : List Value} {n c : Nat} (h1 : Row (pl P) sp n c 2) (hn : n ≤ 12) : CallOK Try.prog n_impl_polygon_convex [.slice (some ⟨0, 0, none⟩) n c] [(pl P ++ sp, none)] (fun v m_ => v = bb (convB P) ∧ m_ = [(pl P ++ sp, none)]) := by
  obtain rfl := row_pl h1; refine callOK_ofF good fn_impl_polygon_convex ?_
  conv => whnf
  all_goals (repeat' first
    | (refine enter_forget [1, 2] (loop_rec (fun (s : Int) => match s with | k => [.slice (some ⟨0, 0, none⟩) P.length c, wild, wild, ii i, .pointer (some ⟨1, 0, none⟩), .pointer (some ⟨2, 0, none⟩), wild, wild, .slice (some ⟨0, 0, none⟩) P.length c, ii (P.length : Int), ii i, wild, wild, wild, wild, wild, wild, wild, .slice (some ⟨0, 0, none⟩) P.length c, ii (P.length : Int), ii k, wild, wild, wild, wild, wild, wild, wild, wild, wild, wild, wild, wild, wild, wild, wild, wild, wild, wild, wild, wild, wild, wild, wild, wild, wild]) (fun (s : Int) => match s with | k => [(pl P ++ sp, none), ([ii (pn P i.toNat).1, ii (pn P i.toNat).2], some t_impl_Point), ([ii (pn P (i.toNat + 1)).1, ii (pn P (i.toNat + 1)).2], some t_impl_Point)]) (fun (s : Int) => match s with | k => ((P.length : Int) - k).toNat) (fun (s : Int) => match s with | k => CvI P i k) (0) (CvI.start P i) ?_) (tmR_rfl rfl rfl) ⟨⟨⟨_, rfl, .plain rfl rfl (Row.all h1)⟩⟩, ⟨⟨_, rfl, .plain rfl rfl (by first | exact Plain.of rfl | exact Row.all (by assumption))⟩⟩, ⟨⟨_, rfl, .plain rfl rfl (by first | exact Plain.of rfl | exact Row.all (by assumption))⟩⟩, trivial⟩ rfl rfl; rintro fuel_2 k hI2 IH2; replace hI2 : CvI P i k := hI2; conv => whnf)
    | exact next_forget [1, 2] (IH2 (w64 (k + 1)) (by exact hI2.next (of_decide_eq_true (show decide (k < (P.length : Int)) = true by assumption)) hn (by first | exact cvA (by assumption) | exact cvB hI1.lo (of_decide_eq_true (show decide (i < (P.length : Int)) = true by assumption)) hn (by assumption) | exact cvC (by assumption))) (by exact idx_mu ⟨hI2.lo, hI2.hi⟩ (show decide (k < (P.length : Int)) = true by assumption) (by omega))) (tmR_rfl rfl rfl) ⟨⟨⟨_, rfl, .plain rfl rfl (Row.all h1)⟩⟩, ⟨⟨_, rfl, .plain rfl rfl (by first | exact Plain.of rfl | exact Row.all (by assumption))⟩⟩, ⟨⟨_, rfl, .plain rfl rfl (by first | exact Plain.of rfl | exact Row.all (by assumption))⟩⟩, trivial⟩ rfl rfl
    | (refine enter_forget [] (loop_rec (fun (s : Int) => match s with | i => [.slice (some ⟨0, 0, none⟩) P.length c, wild, wild, wild, wild, wild, wild, wild, .slice (some ⟨0, 0, none⟩) P.length c, ii (P.length : Int), ii i, wild, wild, wild, wild, wild, wild, wild, wild, wild, wild, wild, wild, wild, wild, wild, wild, wild, wild, wild, wild, wild, wild, wild, wild, wild, wild, wild, wild, wild, wild, wild, wild, wild, wild, wild]) (fun (s : Int) => match s with | i => [(pl P ++ sp, none)]) (fun (s : Int) => match s with | i => ((P.length : Int) - i).toNat) (fun (s : Int) => match s with | i => CvO P i) (0) (CvO.start P) ?_) (tmR_rfl rfl rfl) ⟨⟨⟨_, rfl, .plain rfl rfl (Row.all h1)⟩⟩, trivial⟩ rfl rfl; rintro fuel_1 i hI1 IH1; replace hI1 : CvO P i := hI1; conv => whnf)
    | exact next_forget [] (IH1 (w64 (i + 1)) (by exact hI1.next hI2 (of_decide_eq_true (show decide (i < (P.length : Int)) = true by assumption)) hn (of_decide_eq_false (by assumption))) (by exact idx_mu ⟨hI1.lo, hI1.hi⟩ (show decide (i < (P.length : Int)) = true by assumption) (by omega))) (tmR_rfl rfl rfl) ⟨⟨⟨_, rfl, .plain rfl rfl (Row.all h1)⟩⟩, trivial⟩ rfl rfl
    | (refine br_in hI2.lo (of_decide_eq_true (show decide (k < (P.length : Int)) = true by assumption)) ?_; conv => whnf)
    | (refine br_in hI1.lo (of_decide_eq_true (show decide (i < (P.length : Int)) = true by assumption)) ?_; conv => whnf)
    | (refine force_eq (take_pn (P := P) (m := k.toNat) ?_ ?_) ?_; (focus (exact off_self hI2.lo (of_decide_eq_true (show decide (k < (P.length : Int)) = true by assumption)))); (focus (have := hI2.lo; have := (of_decide_eq_true (show decide (k < (P.length : Int)) = true by assumption)); omega)); conv => whnf)
    | (refine force_eq (take_pn (P := P) (m := i.toNat) ?_ ?_) ?_; (focus (exact off_self hI1.lo (of_decide_eq_true (show decide (i < (P.length : Int)) = true by assumption)))); (focus (have := hI1.lo; have := (of_decide_eq_true (show decide (i < (P.length : Int)) = true by assumption)); omega)); conv => whnf)
    | (refine CallOK.useD (c_next (i := i) h1 hn hI1.lo (of_decide_eq_true (show decide (i < (P.length : Int)) = true by assumption))) [_] rfl rfl rfl ⟨⟨⟨_, rfl, .plain rfl (fun _ h_ => by cases h_) (Row.all h1)⟩⟩, trivial⟩ (fun v_ mem_ hR => ?_); obtain ⟨rfl, rfl⟩ := hR; refine ⟨rfl, pt (pn P (i.toNat + 1)).1 (pn P (i.toNat + 1)).2, fun _ => rfl, ?_⟩; conv => whnf)
    | (refine br_false (decide_eq_false (show ¬ (P.length : Int) = 0 by have := hI1.lo; have := (of_decide_eq_true (show decide (i < (P.length : Int)) = true by assumption)); omega)) ?_; conv => whnf)
    | (exact out_forget [] ⟨congrArg Value.bool (CvI.stop (of_decide_eq_true (show decide (i < (P.length : Int)) = true by assumption)) hI1.lo hI2 (of_decide_eq_true (show decide (k < (P.length : Int)) = true by assumption)) (cvD hI1.lo (of_decide_eq_true (show decide (i < (P.length : Int)) = true by assumption)) hn hI2.lo (by assumption) (by assumption) (by assumption))), rfl⟩ rfl (okB2_spec rfl) ⟨⟨⟨_, rfl, .plain rfl rfl (Row.all h1)⟩⟩, trivial⟩ rfl rfl)
    | (exact out_forget [] ⟨congrArg Value.bool (hI1.fin (of_decide_eq_false (by assumption))), rfl⟩ rfl (okB2_spec rfl) ⟨⟨⟨_, rfl, .plain rfl rfl (Row.all h1)⟩⟩, trivial⟩ rfl rfl)
    | (refine StoreK.mk rfl ?_; conv => whnf)
    | exact join_same
    | exact (by assumption : (_ : Bool) = (_ : Bool))
    | (refine br_true (by assumption) ?_; conv => whnf)
    | (refine br_false (by assumption) ?_; conv => whnf)
    | (refine br_not ?_; conv => whnf)
    | (refine br_code ?_; conv => whnf)
    | (with_reducible refine br_and ?_; conv => whnf)
    | (with_reducible refine br_or ?_; conv => whnf)
    | (refine br_eq2 ?_; conv => whnf)
    | (refine CallOK.useR (c_next (by first | assumption | exact Row.lit rfl rfl | omega) (by first | assumption | exact Row.lit rfl rfl | omega) (by first | assumption | exact Row.lit rfl rfl | omega) (by first | assumption | exact Row.lit rfl rfl | omega)) [_] rfl rfl rfl ⟨⟨⟨_, rfl, .plain rfl (fun _ h_ => by first | exact h_ | cases h_) (by first | exact Plain.of rfl | exact Row.all (by assumption))⟩⟩, trivial⟩ (fun v_ mem_ hR => ?_); obtain ⟨rfl, rfl⟩ := hR; refine ⟨rfl, ?_⟩; conv => whnf)
    | (refine c_impl_turn.call ?_; conv => whnf)
    | (refine c_impl_turn.quiet ?_; conv => whnf)
    | (refine draw_auto (by decide +kernel) ?_; conv => whnf)
    | (refine draw_asg (by decide +kernel) ?_; conv => whnf)
    | (refine draw_st (by decide +kernel) ?_; conv => whnf)
    | (refine draw_call (by decide +kernel) ?_; conv => whnf)
    | (refine enter_same (loop_n 12 ?_); conv => whnf)
    | (refine next_same ?_; conv => whnf)
    | (refine mapK_row (by assumption) ?_; conv => whnf)
    | (refine mapK_plain (Plain.of rfl) ?_; conv => whnf)
    | (refine mapK_lit ?_; conv => whnf)
    | (refine br_split (fun _ => ?_) (fun _ => ?_) <;> conv => whnf)
    | exact (rfl : (_ : Value) = _)
    | (simp only [*]; exact (rfl : (_ : Value) = _))
    | (simp [*]; done))

set_option maxHeartbeats 1000000 in
theorem c_l09Is_in {P : List (Int × Int)} {sp : List Value} {n c : Nat} (h1 : Row (pl P) sp n c 2) (h3 : 3 ≤ n) (h12 : n ≤ 12) : CallOK Try.prog n_spec_l09Is [.slice (some ⟨0, 0, none⟩) n c] [(pl P ++ sp, none)] (fun v m_ => v = bb (specB P) ∧ m_ = [(pl P ++ sp, none)]) := by
  obtain rfl := row_pl h1; refine callOK_ofF good fn_spec_l09Is ?_
  conv => whnf
  all_goals (repeat' first
    | (refine enter_forget [] (loop_rec (fun (s : Int × Int) => match s with | (i, q) => [.slice (some ⟨0, 0, none⟩) P.length c, wild, wild, ii (P.length : Int), ii q, ii i, wild, wild, wild, wild, wild, wild, wild, wild, wild, wild, wild, wild, wild, wild, wild, wild, wild, wild, wild, wild, wild, wild, wild, wild, wild, wild, wild, wild, wild, wild, wild, wild, wild, wild, wild, wild, wild, wild, wild, wild, wild, wild, wild, wild, wild, wild, wild, wild, wild, wild, wild, wild, wild, wild, wild, wild, wild, wild, wild, wild, wild, wild, wild, wild, wild, wild, wild, wild, wild, wild, wild, wild, wild, wild, wild]) (fun (s : Int × Int) => match s with | (i, q) => [(pl P ++ sp, none)]) (fun (s : Int × Int) => match s with | (i, q) => ((P.length : Int) - i).toNat) (fun (s : Int × Int) => match s with | (i, q) => SpI P i q) (0, 0) (SpI.start P) ?_) (tmR_rfl rfl rfl) ⟨⟨⟨_, rfl, .plain rfl rfl (Row.all h1)⟩⟩, trivial⟩ rfl rfl; rintro fuel_1 ⟨i, q⟩ hI1 IH1; replace hI1 : SpI P i q := hI1; conv => whnf)
    | exact next_forget [] (IH1 (w64 (i + 1), _) (by exact hI1.flip (of_decide_eq_true (show decide (i < (P.length : Int)) = true by assumption)) h12 (okT (by assumption) (by assumption) (by assumption) (by assumption) (by assumption)) (flT (by assumption) (by assumption))) (by exact idx_mu ⟨hI1.lo, hI1.hi⟩ (by assumption) (by omega))) (tmR_rfl rfl rfl) ⟨⟨⟨_, rfl, .plain rfl rfl (Row.all h1)⟩⟩, trivial⟩ rfl rfl
    | exact next_forget [] (IH1 (w64 (i + 1), _) (by exact hI1.skip (of_decide_eq_true (show decide (i < (P.length : Int)) = true by assumption)) h12 (okT (by assumption) (by assumption) (by assumption) (by assumption) (by assumption)) (by first | exact flF1 (by assumption) | exact flF2 (by assumption))) (by exact idx_mu ⟨hI1.lo, hI1.hi⟩ (by assumption) (by omega))) (tmR_rfl rfl rfl) ⟨⟨⟨_, rfl, .plain rfl rfl (Row.all h1)⟩⟩, trivial⟩ rfl rfl
    | (refine br_false (b := decide ((P.length : Int) < 3)) (decide_eq_false ?_) ?_; (focus omega); conv => whnf)
    | (refine br_false (b := decide ((P.length : Int) > 12)) (decide_eq_false ?_) ?_; (focus omega); conv => whnf)
    | (refine br_in hI1.lo (of_decide_eq_true (show decide (i < (P.length : Int)) = true by assumption)) ?_; conv => whnf)
    | (refine br_in (modw 1 hI1.lo (of_decide_eq_true (show decide (i < (P.length : Int)) = true by assumption)) h12 (by omega) (by omega)).1 (modw 1 hI1.lo (of_decide_eq_true (show decide (i < (P.length : Int)) = true by assumption)) h12 (by omega) (by omega)).2.1 ?_; conv => whnf)
    | (refine br_in (modw 2 hI1.lo (of_decide_eq_true (show decide (i < (P.length : Int)) = true by assumption)) h12 (by omega) (by omega)).1 (modw 2 hI1.lo (of_decide_eq_true (show decide (i < (P.length : Int)) = true by assumption)) h12 (by omega) (by omega)).2.1 ?_; conv => whnf)
    | (refine force_eq (take_pn (P := P) (m := i.toNat) ?_ ?_) ?_; (focus (exact off_self hI1.lo (of_decide_eq_true (show decide (i < (P.length : Int)) = true by assumption)))); (focus (have := hI1.lo; have := (of_decide_eq_true (show decide (i < (P.length : Int)) = true by assumption)); omega)); conv => whnf)
    | (refine force_eq (take_pn (P := P) (m := i.toNat + 1) ?_ ?_) ?_; (focus (exact off_mod (k := 1) hI1.lo (of_decide_eq_true (show decide (i < (P.length : Int)) = true by assumption)) h12 (by omega) (by omega))); (focus (have := hI1.lo; have := (of_decide_eq_true (show decide (i < (P.length : Int)) = true by assumption)); omega)); conv => whnf)
    | (refine force_eq (take_pn (P := P) (m := i.toNat + 2) ?_ ?_) ?_; (focus (exact off_mod (k := 2) hI1.lo (of_decide_eq_true (show decide (i < (P.length : Int)) = true by assumption)) h12 (by omega) (by omega))); (focus (have := hI1.lo; have := (of_decide_eq_true (show decide (i < (P.length : Int)) = true by assumption)); omega)); conv => whnf)
    | (refine br_false (decide_eq_false (show ¬ (P.length : Int) = 0 by omega)) ?_; conv => whnf)
    | (exact out_forget [] ⟨congrArg Value.bool (hI1.stop (of_decide_eq_true (show decide (i < (P.length : Int)) = true by assumption)) (by first | exact okF1 (by assumption) | exact okF2 (by assumption) | exact okF3 (by assumption) | exact okF4 (by assumption) | exact okF5 (by assumption))), rfl⟩ rfl (okB2_spec rfl) ⟨⟨⟨_, rfl, .plain rfl rfl (Row.all h1)⟩⟩, trivial⟩ rfl rfl)
    | (exact out_forget [] ⟨congrArg Value.bool (hI1.fin (of_decide_eq_false (by assumption))), rfl⟩ rfl (okB2_spec rfl) ⟨⟨⟨_, rfl, .plain rfl rfl (Row.all h1)⟩⟩, trivial⟩ rfl rfl)
    | (refine StoreK.mk rfl ?_; conv => whnf)
    | exact join_same
    | exact (by assumption : (_ : Bool) = (_ : Bool))
    | (refine br_true (by assumption) ?_; conv => whnf)
    | (refine br_false (by assumption) ?_; conv => whnf)
    | (refine br_not ?_; conv => whnf)
    | (refine br_code ?_; conv => whnf)
    | (with_reducible refine br_and ?_; conv => whnf)
    | (with_reducible refine br_or ?_; conv => whnf)
    | (refine br_eq2 ?_; conv => whnf)
    | (refine c_spec_l01In.call ?_; conv => whnf)
    | (refine c_spec_l01In.quiet ?_; conv => whnf)
    | (refine c_spec_l01Is.call ?_; conv => whnf)
    | (refine c_spec_l01Is.quiet ?_; conv => whnf)
    | (refine c_spec_l09Side.call ?_; conv => whnf)
    | (refine c_spec_l09Side.quiet ?_; conv => whnf)
    | (refine c_spec_l01Plus.call ?_; conv => whnf)
    | (refine c_spec_l01Plus.quiet ?_; conv => whnf)
    | (refine c_spec_l09Half.call ?_; conv => whnf)
    | (refine c_spec_l09Half.quiet ?_; conv => whnf)
    | (refine draw_auto (by decide +kernel) ?_; conv => whnf)
    | (refine draw_asg (by decide +kernel) ?_; conv => whnf)
    | (refine draw_st (by decide +kernel) ?_; conv => whnf)
    | (refine draw_call (by decide +kernel) ?_; conv => whnf)
    | (refine enter_same (loop_n 12 ?_); conv => whnf)
    | (refine next_same ?_; conv => whnf)
    | (refine mapK_row (by assumption) ?_; conv => whnf)
    | (refine mapK_plain (Plain.of rfl) ?_; conv => whnf)
    | (refine mapK_lit ?_; conv => whnf)
    | (refine br_split (fun _ => ?_) (fun _ => ?_) <;> conv => whnf)
    | exact (rfl : (_ : Value) = _)
    | (simp only [*]; exact (rfl : (_ : Value) = _))
    | (simp [*]; done))

end Go.Proofs.Ytlkbfpklhncfbaa
